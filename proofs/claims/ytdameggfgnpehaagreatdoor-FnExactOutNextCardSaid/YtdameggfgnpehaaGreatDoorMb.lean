/- What the proof needs, part 2: a sound evaluator over trees, the program's functions on it, and what they come to. -/
import Derived.Test.YtdameggfgnpehaaGreatDoorMa
import Derived.Lib.SplitLaws
import Derived.Lib.IndexAny
import Derived.Lib.ValidLaws
import Derived.Test.YtdameggfgnpehaaGreatDoorProg
import Derived.KernelRfl
set_option linter.unusedVariables false
set_option linter.unusedSimpArgs false
namespace Go.Proofs.YtdameggfgnpehaaGreatDoor.Abs
open Go
def lvL : List UInt8 → List UInt8 → List (List UInt8)
 | cur, [] => [cur]
 | cur, b :: l => if b = 47 then cur :: lvL [] l else lvL (cur ++ [b]) l
def ofL (l : List UInt8) : ByteArray := ⟨l.toArray⟩
def vLevels (s : ByteArray) : List ByteArray := (lvL [] s.data.toList).map ofL
def vHas (s : ByteArray) (b : UInt8) : Bool := s.data.toList.any fun c => c == b
def vPH (s : ByteArray) : Bool := vHas s 43 || vHas s 35
def sepB : ByteArray := ⟨#[47]⟩
def phB : ByteArray := ⟨#[43, 35]⟩
def consH (c : List UInt8) : List (List UInt8) → List (List UInt8)
 | [] => [c]
 | h :: t => (c ++ h) :: t
theorem consH_nil {X : List (List UInt8)} (h : X ≠ []) : consH [] X = X := by
 cases X with
 | nil => exact absurd rfl h
 | cons h t => rfl
theorem consH_consH (a b : List UInt8) {X : List (List UInt8)} (h : X ≠ []) : consH a (consH b X) = consH (a ++ b) X := by
 cases X with
 | nil => exact absurd rfl h
 | cons h t => simp [consH]
theorem splitK_ne (sep : List UInt8) (k : Nat) (l : List UInt8) : Lib.splitK sep 0 k l ≠ [] := by
 cases k with
 | zero => simp [Lib.splitK]
 | succ k =>
  unfold Lib.splitK
  split <;> simp
theorem index_at (l : List UInt8) : Lib.index (47 :: l) [47] = 0 := by
 unfold Lib.index
 simp
theorem index_ne (b : UInt8) (l : List UInt8) (h : b ≠ 47) : Lib.index (b :: l) [47] = if Lib.index l [47] == -1 then -1 else Lib.index l [47] + 1 := by
 rw [Lib.index]
 rw [if_neg]
 simpa using fun h' => h h'.symm
theorem splitK_ne_cons (b : UInt8) (h : b ≠ 47) (k : Nat) (l : List UInt8) : Lib.splitK [47] 0 k (b :: l) = consH [b] (Lib.splitK [47] 0 k l) := by
 cases k with
 | zero => rfl
 | succ k =>
  have hge := Lib.index_ge l [47]
  unfold Lib.splitK
  rw [index_ne b l h]
  by_cases hi : Lib.index l [47] = -1
  ·simp [hi, consH]
  ·have e1 : (Lib.index l [47] == -1) = false := by simpa using hi
   have e2 : (Lib.index l [47] + 1 == -1) = false := by simp; omega
   have e3 : (Lib.index l [47] + 1).toNat = (Lib.index l [47]).toNat + 1 := by omega
   simp only [e1, e2, e3, Bool.false_eq_true, if_false, consH, Nat.add_zero, List.length_singleton]
   rw [show (Lib.index l [47]).toNat + 1 + 1 = ((Lib.index l [47]).toNat + 1) + 1 from rfl, List.drop_succ_cons, List.take_succ_cons]
   rfl
theorem lvL_split : ∀ (l cur : List UInt8), lvL cur l = consH cur (Lib.splitK [47] 0 (Lib.count l [47]) l)
 | [], cur => by
  have e : Lib.count [] [47] = 0 := by rw [Lib.count_one]; rfl
  rw [e]
  simp [lvL, Lib.splitK, consH]
 | b :: l, cur => by
  rw [lvL]
  by_cases h : b = 47
  ·subst h
   rw [if_pos rfl, lvL_split l [], Lib.count_cons_eq, Nat.add_comm, Lib.splitK, index_at]
   rw [consH_nil (splitK_ne _ _ _)]
   simp [consH]
  ·rw [if_neg h, lvL_split l (cur ++ [b]), Lib.count_cons_ne _ _ _ h, splitK_ne_cons b h, consH_consH _ _ (splitK_ne _ _ _)]
theorem ofL_data (s : ByteArray) : ofL s.data.toList = s := by
 cases s
 rfl
theorem map_ofL (l : List ByteArray) : (l.map (·.data.toList)).map ofL = l := by
 rw [List.map_map]
 conv => rhs; rw [← List.map_id l]
 exact List.map_congr_left fun s _ => ofL_data s
theorem split_levels (s : ByteArray) : Lib.splitB sepB 0 (Lib.countB s sepB) s = vLevels s := by
 have h := Lib.splitB_data sepB 0 (Lib.countB s sepB) s
 rw [← map_ofL (Lib.splitB sepB 0 (Lib.countB s sepB) s), h, vLevels, lvL_split, consH_nil (splitK_ne _ _ _)]
 rfl
theorem levels_len (s : ByteArray) : (vLevels s).length = Lib.countB s sepB + 1 := by
 rw [← split_levels]
 exact Lib.splitB_all sepB (Nat.le_refl _) 0 _ s rfl
theorem indexAny_any (chars : List UInt8) : ∀ l : List UInt8, decide (0 ≤ Lib.indexAny l chars) = l.any fun c => chars.contains c
 | [] => rfl
 | b :: l => by
  have ih := indexAny_any chars l
  have hge := Lib.indexAny_ge chars l
  rw [Lib.indexAny, List.any_cons, ← ih]
  by_cases h : chars.contains b = true
  ·rw [if_pos h, h]
   simp
  ·rw [if_neg h]
   have h' : chars.contains b = false := by simpa using h
   rw [h', Bool.false_or]
   by_cases hi : Lib.indexAny l chars = -1
   ·rw [hi]
    rfl
   ·rw [if_neg (by simpa using hi)]
    congr 1
    simp
    omega
theorem any_or {α : Type} (p q : α → Bool) : ∀ l : List α, (l.any fun c => p c || q c) = (l.any p || l.any q)
 | [] => rfl
 | x :: l => by
  rw [List.any_cons, List.any_cons, List.any_cons, any_or p q l]
  cases p x <;> cases q x <;> simp
theorem has_ph (s : ByteArray) : Lib.containsAny s.data.toList phB.data.toList = vPH s := by
 unfold Lib.containsAny vPH vHas
 rw [indexAny_any, ← any_or]
 congr 1
 funext c
 simp [phB]
 rfl
end Go.Proofs.YtdameggfgnpehaaGreatDoor.Abs
set_option linter.unusedVariables false
namespace Go.Proofs.YtdameggfgnpehaaGreatDoor.Abs
open Go
def textGo : Nat → List UInt8 → Bool
 | 0, _ => true
 | n + 1, l => if l = [] then true else if (Lib.decodeL l).1 = 65533 ∧ (Lib.decodeL l).2 = 1 then false else if (Lib.decodeL l).1 = 0 then false else textGo n (l.drop (Lib.decodeL l).2)
def vTextOk (s : ByteArray) : Bool := decide (s.size ≤ 60) && textGo s.size s.data.toList
def ext136 (ty : Nat) (vs : List AV) : Option AV :=
 match vs with
 | [.sc (.string s)] => if s.size ≤ maxLen then some (.sc (.bool (vTextOk s))) else none
 | _ => none
def ext188 (ty : Nat) (vs : List AV) : Option AV :=
 match vs with
 | [.sc (.string s), .sc (.string c)] => if c.data.toList = [43, 35] ∧ s.size < 4294967281 then some (.sc (.bool (vPH s))) else none
 | _ => none
def ext202 (ty : Nat) (vs : List AV) : Option AV :=
 match vs with
 | [.sc (.string s), .sc (.string c)] => if ty = 73 ∧ c.data.toList = [47] ∧ s.size < 4294967281 then some (.ro (vLevels s).length ((vLevels s).map fun x => .sc (.string x))) else none
 | _ => none
end Go.Proofs.YtdameggfgnpehaaGreatDoor.Abs
set_option linter.unusedVariables false
set_option linter.unusedSimpArgs false
set_option maxRecDepth 100000
namespace Go.Proofs.YtdameggfgnpehaaGreatDoor.Abs
open Go
variable {β : Type}
noncomputable def tis : List (Option TI) := [none,
 none,
 some ⟨false, false, 1, 8, [(.int .i64 0)], 0, [], some .i64, false, false, [2], false⟩,
 some ⟨false, false, 1, 8, [(.int .i64 0)], 0, [], some .i64, false, false, [3], false⟩,
 some ⟨false, false, 1, 1, [(.bool false)], 0, [], none, false, true, [4], false⟩,
 some ⟨false, false, 1, 1, [(.int .u8 0)], 0, [], some .u8, false, false, [5], false⟩,
 some ⟨false, false, 1, 1, [(.int .u8 0)], 0, [], some .u8, false, false, [6], false⟩,
 none,
 none,
 some ⟨false, false, 1, 16, [(.string ⟨#[]⟩)], 0, [], none, true, false, [9], false⟩,
 some ⟨false, false, 1, 16, [(.string ⟨#[]⟩)], 0, [], none, true, false, [10], false⟩,
 some ⟨false, false, 1, 16, [(.string ⟨#[]⟩)], 0, [], none, true, false, [11], false⟩,
 some ⟨false, false, 1, 8, [(.int .u64 0)], 0, [], some .u64, false, false, [12], false⟩,
 none,
 none,
 none,
 none,
 none,
 none,
 none,
 none,
 some ⟨false, false, 1, 4, [(.int .i32 0)], 0, [], some .i32, false, false, [21], false⟩,
 some ⟨false, true, 1, 24, [(.slice none 0 0)], 159, [], none, false, false, [22], false⟩,
 some ⟨false, true, 1, 24, [(.slice none 0 0)], 45, [], none, false, false, [23], false⟩,
 none,
 some ⟨true, false, 3, 56, [(.int .i64 0), (.slice none 0 0), (.slice none 0 0)], 0, [(0, 3), (1, 22), (2, 23)], none, false, false, [3, 22, 23], false⟩,
 some ⟨false, true, 1, 24, [(.slice none 0 0)], 3, [], none, false, false, [26], false⟩,
 none,
 none,
 none,
 some ⟨false, true, 1, 24, [(.slice none 0 0)], 116, [], none, false, false, [30], false⟩,
 some ⟨false, true, 1, 24, [(.slice none 0 0)], 49, [], none, false, false, [31], false⟩,
 none,
 some ⟨true, false, 3, 56, [(.int .i64 0), (.slice none 0 0), (.slice none 0 0)], 0, [(0, 3), (1, 30), (2, 31)], none, false, false, [3, 30, 31], false⟩,
 none,
 none,
 none,
 none,
 none,
 none,
 none,
 none,
 none,
 some ⟨false, true, 1, 24, [(.slice none 0 0)], 5, [], none, false, false, [43], false⟩,
 none,
 some ⟨true, false, 4, 56, [(.string ⟨#[]⟩), (.slice none 0 0), (.int .i64 0), (.bool false)], 0, [(0, 9), (1, 43), (2, 3), (3, 4)], none, false, false, [9, 43, 3, 4], false⟩,
 none,
 none,
 none,
 some ⟨true, false, 4, 56, [(.string ⟨#[]⟩), (.slice none 0 0), (.int .i64 0), (.bool false)], 0, [(0, 9), (1, 43), (2, 3), (3, 4)], none, false, false, [9, 43, 3, 4], false⟩,
 none,
 none,
 none,
 none,
 none,
 none,
 none,
 none,
 none,
 none,
 none,
 none,
 none,
 none,
 none,
 none,
 none,
 none,
 none,
 none,
 none,
 none,
 some ⟨false, true, 1, 24, [(.slice none 0 0)], 165, [], none, false, false, [72], false⟩,
 some ⟨false, true, 1, 24, [(.slice none 0 0)], 9, [], none, false, false, [73], false⟩,
 none,
 some ⟨true, false, 25, 320, [(.int .i64 0), (.bool false), (.int .i64 0), (.bool false), (.int .i64 0), (.string ⟨#[]⟩), (.slice none 0 0), (.string ⟨#[]⟩), (.int .i64 0), (.bool false), (.int .i64 0), (.bool false), (.string ⟨#[]⟩), (.slice none 0 0), (.int .i64 0), (.bool false), (.bool false), (.string ⟨#[]⟩), (.bool false), (.slice none 0 0), (.int .i64 0), (.bool false), (.slice none 0 0), (.slice none 0 0), (.slice none 0 0)], 0, [(0, 3), (1, 4), (2, 3), (3, 4), (4, 3), (5, 9), (6, 43), (7, 9), (8, 3), (9, 4), (10, 3), (11, 4), (12, 9), (13, 43), (14, 3), (15, 4), (16, 4), (17, 9), (18, 4), (19, 43), (20, 3), (21, 4), (22, 72), (23, 73), (24, 26)], none, false, false, [3, 4, 3, 4, 3, 9, 43, 9, 3, 4, 3, 4, 9, 43, 3, 4, 4, 9, 4, 43, 3, 4, 72, 73, 26], false⟩,
 none,
 none,
 none,
 none,
 none,
 none,
 none,
 none,
 none,
 none,
 none,
 none,
 none,
 none,
 none,
 none,
 none,
 none,
 none,
 none,
 none,
 none,
 none,
 none,
 none,
 none,
 none,
 none,
 none,
 none,
 none,
 none,
 none,
 none,
 none,
 none,
 none,
 none,
 none,
 none,
 some ⟨true, false, 6, 72, [(.int .i64 0), (.string ⟨#[]⟩), (.slice none 0 0), (.int .i64 0), (.bool false), (.int .i64 0)], 0, [(0, 3), (1, 49), (5, 3)], none, false, false, [3, 9, 43, 3, 4, 3], false⟩,
 none,
 none,
 none,
 none,
 none,
 none,
 none,
 none,
 none,
 none,
 none,
 none,
 none,
 none,
 none,
 none,
 none,
 none,
 none,
 none,
 none,
 none,
 none,
 none,
 none,
 none,
 none,
 none,
 none,
 none,
 none,
 none,
 none,
 none,
 none,
 none,
 none,
 none,
 none,
 none,
 none,
 none,
 some ⟨true, false, 6, 72, [(.int .i64 0), (.string ⟨#[]⟩), (.slice none 0 0), (.int .i64 0), (.bool false), (.int .i64 0)], 0, [(0, 3), (1, 45), (5, 3)], none, false, false, [3, 9, 43, 3, 4, 3], false⟩,
 none,
 none,
 none,
 none,
 none,
 some ⟨true, false, 2, 24, [(.string ⟨#[]⟩), (.int .i64 0)], 0, [(0, 9), (1, 3)], none, false, false, [9, 3], false⟩,
 none,
 none,
 none,
 some ⟨false, true, 1, 24, [(.slice none 0 0)], 4, [], none, false, false, [169], false⟩,
 none,
 none,
 none,
 none,
 none,
 none,
 none,
 none,
 none,
 none,
 some ⟨false, true, 1, 24, [(.slice none 0 0)], 43, [], none, false, false, [180], false⟩]
noncomputable def bodyOf (f : Func) : Code := match f.body with | some c => c | none => .skip
noncomputable def c67 : Code := bodyOf Go.Proofs.Tryz.f67
noncomputable def c20 : Code := bodyOf Go.Proofs.Tryz.f20
noncomputable def c145 : Code := bodyOf Go.Proofs.Tryz.f145
noncomputable def c86 : Code := bodyOf Go.Proofs.Tryz.f86
noncomputable def c87 : Code := bodyOf Go.Proofs.Tryz.f87
noncomputable def c35 : Code := bodyOf Go.Proofs.Tryz.f35
noncomputable def c69 : Code := bodyOf Go.Proofs.Tryz.f69
noncomputable def c22 : Code := bodyOf Go.Proofs.Tryz.f22
noncomputable def c147 : Code := bodyOf Go.Proofs.Tryz.f147
noncomputable def c90 : Code := bodyOf Go.Proofs.Tryz.f90
noncomputable def c91 : Code := bodyOf Go.Proofs.Tryz.f91
noncomputable def c37 : Code := bodyOf Go.Proofs.Tryz.f37
noncomputable def c152 : Code := bodyOf Go.Proofs.Tryz.f152
noncomputable def c151 : Code := bodyOf Go.Proofs.Tryz.f151
noncomputable def c104 : Code := bodyOf Go.Proofs.Tryz.f104
noncomputable def c83 : Code := bodyOf Go.Proofs.Tryz.f83
noncomputable def c172 : Code := bodyOf Go.Proofs.Tryz.f172
noncomputable def c141 : Code := bodyOf Go.Proofs.Tryz.f141
noncomputable def c82 : Code := bodyOf Go.Proofs.Tryz.f82
noncomputable def c190 : Code := bodyOf Go.Proofs.Tryz.f190
noncomputable def c191 : Code := bodyOf Go.Proofs.Tryz.f191
noncomputable def c173 : Code := bodyOf Go.Proofs.Tryz.f173
noncomputable def c142 : Code := bodyOf Go.Proofs.Tryz.f142
noncomputable def c143 : Code := bodyOf Go.Proofs.Tryz.f143
noncomputable def c144 : Code := bodyOf Go.Proofs.Tryz.f144
noncomputable def c84 : Code := bodyOf Go.Proofs.Tryz.f84
noncomputable def c105 : Code := bodyOf Go.Proofs.Tryz.f105
noncomputable def c106 : Code := bodyOf Go.Proofs.Tryz.f106
noncomputable def c89 : Code := bodyOf Go.Proofs.Tryz.f89
noncomputable def c153 : Code := bodyOf Go.Proofs.Tryz.f153
noncomputable def c107 : Code := bodyOf Go.Proofs.Tryz.f107
noncomputable def c44 : Code := bodyOf Go.Proofs.Tryz.f44
noncomputable def c149 : Code := bodyOf Go.Proofs.Tryz.f149
noncomputable def c155 : Code := bodyOf Go.Proofs.Tryz.f155
noncomputable def c154 : Code := bodyOf Go.Proofs.Tryz.f154
noncomputable def c108 : Code := bodyOf Go.Proofs.Tryz.f108
noncomputable def c128 : Code := bodyOf Go.Proofs.Tryz.f128
noncomputable def c137 : Code := bodyOf Go.Proofs.Tryz.f137
noncomputable def c158 : Code := bodyOf Go.Proofs.Tryz.f158
noncomputable def c157 : Code := bodyOf Go.Proofs.Tryz.f157
noncomputable def c116 : Code := bodyOf Go.Proofs.Tryz.f116
noncomputable def c189 : Code := bodyOf Go.Proofs.Tryz.f189
noncomputable def c169 : Code := bodyOf Go.Proofs.Tryz.f169
noncomputable def c170 : Code := bodyOf Go.Proofs.Tryz.f170
noncomputable def c138 : Code := bodyOf Go.Proofs.Tryz.f138
noncomputable def c139 : Code := bodyOf Go.Proofs.Tryz.f139
noncomputable def c171 : Code := bodyOf Go.Proofs.Tryz.f171
noncomputable def c140 : Code := bodyOf Go.Proofs.Tryz.f140
noncomputable def c80 : Code := bodyOf Go.Proofs.Tryz.f80
noncomputable def c109 : Code := bodyOf Go.Proofs.Tryz.f109
noncomputable def c110 : Code := bodyOf Go.Proofs.Tryz.f110
noncomputable def c93 : Code := bodyOf Go.Proofs.Tryz.f93
noncomputable def c111 : Code := bodyOf Go.Proofs.Tryz.f111
noncomputable def c45 : Code := bodyOf Go.Proofs.Tryz.f45
noncomputable def c71 : Code := bodyOf Go.Proofs.Tryz.f71
noncomputable def c24 : Code := bodyOf Go.Proofs.Tryz.f24
noncomputable def c150 : Code := bodyOf Go.Proofs.Tryz.f150
noncomputable def c94 : Code := bodyOf Go.Proofs.Tryz.f94
noncomputable def c95 : Code := bodyOf Go.Proofs.Tryz.f95
noncomputable def c40 : Code := bodyOf Go.Proofs.Tryz.f40
noncomputable def c156 : Code := bodyOf Go.Proofs.Tryz.f156
noncomputable def c112 : Code := bodyOf Go.Proofs.Tryz.f112
noncomputable def c113 : Code := bodyOf Go.Proofs.Tryz.f113
noncomputable def c63 : Code := bodyOf Go.Proofs.Tryz.f63
noncomputable def c46 : Code := bodyOf Go.Proofs.Tryz.f46
noncomputable def c98 : Code := bodyOf Go.Proofs.Tryz.f98
noncomputable def c72 : Code := bodyOf Go.Proofs.Tryz.f72
noncomputable def c96 : Code := bodyOf Go.Proofs.Tryz.f96
noncomputable def c97 : Code := bodyOf Go.Proofs.Tryz.f97
noncomputable def c41 : Code := bodyOf Go.Proofs.Tryz.f41
noncomputable def c99 : Code := bodyOf Go.Proofs.Tryz.f99
noncomputable def c100 : Code := bodyOf Go.Proofs.Tryz.f100
noncomputable def c64 : Code := bodyOf Go.Proofs.Tryz.f64
noncomputable def c47 : Code := bodyOf Go.Proofs.Tryz.f47
noncomputable def c101 : Code := bodyOf Go.Proofs.Tryz.f101
noncomputable def c114 : Code := bodyOf Go.Proofs.Tryz.f114
noncomputable def c115 : Code := bodyOf Go.Proofs.Tryz.f115
noncomputable def c48 : Code := bodyOf Go.Proofs.Tryz.f48
noncomputable def c102 : Code := bodyOf Go.Proofs.Tryz.f102
noncomputable def c103 : Code := bodyOf Go.Proofs.Tryz.f103
noncomputable def c65 : Code := bodyOf Go.Proofs.Tryz.f65
noncomputable def c49 : Code := bodyOf Go.Proofs.Tryz.f49
noncomputable def c8 : Code := bodyOf Go.Proofs.Tryz.f8
noncomputable def o67 : List (Nat × PI) := []
noncomputable def o20 : List (Nat × PI) := []
noncomputable def o145 : List (Nat × PI) := []
noncomputable def o86 : List (Nat × PI) := []
noncomputable def o87 : List (Nat × PI) := []
noncomputable def o35 : List (Nat × PI) := []
noncomputable def o69 : List (Nat × PI) := []
noncomputable def o22 : List (Nat × PI) := []
noncomputable def o147 : List (Nat × PI) := []
noncomputable def o90 : List (Nat × PI) := []
noncomputable def o91 : List (Nat × PI) := []
noncomputable def o37 : List (Nat × PI) := []
noncomputable def o152 : List (Nat × PI) := [(1, PI.of [0, 1, 3, 4, 6, 7, 8, 9, 2, 5, 10, 11])]
noncomputable def o151 : List (Nat × PI) := []
noncomputable def o104 : List (Nat × PI) := [(1, .one 0 (.one 1 (.one 2 (.one 3 (.two 4 (PI.of [5, 6, 7]) 6 (PI.of [4, 5, 7])))))), (5, PI.of [0, 1, 2, 3, 4, 5, 6, 7, 8, 9, 10, 11, 12, 13, 15, 16, 17, 18, 19, 20, 14, 21, 22, 23, 24, 25])]
noncomputable def o83 : List (Nat × PI) := []
noncomputable def o172 : List (Nat × PI) := []
noncomputable def o141 : List (Nat × PI) := []
noncomputable def o82 : List (Nat × PI) := []
noncomputable def o190 : List (Nat × PI) := []
noncomputable def o191 : List (Nat × PI) := []
noncomputable def o173 : List (Nat × PI) := []
noncomputable def o142 : List (Nat × PI) := []
noncomputable def o143 : List (Nat × PI) := []
noncomputable def o144 : List (Nat × PI) := []
noncomputable def o84 : List (Nat × PI) := [(9, PI.of [0, 1, 2, 3, 4, 5, 6, 7, 8, 9, 10, 11, 12])]
noncomputable def o105 : List (Nat × PI) := []
noncomputable def o106 : List (Nat × PI) := [(3, PI.of [0, 1, 3, 4, 5, 2, 6, 7, 8, 9])]
noncomputable def o89 : List (Nat × PI) := [(1, PI.of [0, 1, 2, 3, 4, 5, 6, 7, 9, 10, 8, 11, 12, 13])]
noncomputable def o153 : List (Nat × PI) := []
noncomputable def o107 : List (Nat × PI) := []
noncomputable def o44 : List (Nat × PI) := [(7, PI.of [0, 1, 2, 3, 4, 5]), (16, PI.of [0, 1, 2, 3, 4, 5, 6])]
noncomputable def o149 : List (Nat × PI) := []
noncomputable def o155 : List (Nat × PI) := []
noncomputable def o154 : List (Nat × PI) := []
noncomputable def o108 : List (Nat × PI) := [(1, .one 0 (.one 1 (.one 2 (.one 3 (.two 4 (PI.of [5, 6, 7]) 6 (PI.of [4, 5, 7])))))), (5, PI.of [0, 1, 2, 3, 4, 5, 7, 8, 6, 9, 10, 11, 12, 13])]
noncomputable def o128 : List (Nat × PI) := []
noncomputable def o137 : List (Nat × PI) := []
noncomputable def o158 : List (Nat × PI) := []
noncomputable def o157 : List (Nat × PI) := []
noncomputable def o116 : List (Nat × PI) := []
noncomputable def o189 : List (Nat × PI) := []
noncomputable def o169 : List (Nat × PI) := []
noncomputable def o170 : List (Nat × PI) := []
noncomputable def o138 : List (Nat × PI) := []
noncomputable def o139 : List (Nat × PI) := []
noncomputable def o171 : List (Nat × PI) := []
noncomputable def o140 : List (Nat × PI) := []
noncomputable def o80 : List (Nat × PI) := []
noncomputable def o109 : List (Nat × PI) := []
noncomputable def o110 : List (Nat × PI) := [(4, PI.of [0, 1, 2, 3, 4, 5, 6, 7])]
noncomputable def o93 : List (Nat × PI) := [(1, PI.of [0, 1, 2, 3, 4, 5, 6, 7, 8, 9, 10, 11, 12, 13])]
noncomputable def o111 : List (Nat × PI) := []
noncomputable def o45 : List (Nat × PI) := [(7, PI.of [0, 1, 2, 3, 4, 5]), (17, PI.of [0, 1, 2, 3, 4, 5, 6])]
noncomputable def o71 : List (Nat × PI) := [(6, PI.of [0, 1, 2, 3, 4, 5, 6, 7, 8])]
noncomputable def o24 : List (Nat × PI) := []
noncomputable def o150 : List (Nat × PI) := []
noncomputable def o94 : List (Nat × PI) := [(6, PI.of [0, 1, 2, 3, 4, 5, 6, 7, 8, 9])]
noncomputable def o95 : List (Nat × PI) := [(6, PI.of [0, 1, 2, 3, 4, 5, 6, 7, 8, 9])]
noncomputable def o40 : List (Nat × PI) := []
noncomputable def o156 : List (Nat × PI) := []
noncomputable def o112 : List (Nat × PI) := [(6, PI.of [0, 1, 2, 3, 4, 5, 6, 7, 8, 9])]
noncomputable def o113 : List (Nat × PI) := [(6, PI.of [0, 1, 2, 3, 4, 5, 6, 7, 8])]
noncomputable def o63 : List (Nat × PI) := [(6, PI.of [0, 1, 2, 3, 4, 5, 6, 7, 8])]
noncomputable def o46 : List (Nat × PI) := []
noncomputable def o98 : List (Nat × PI) := []
noncomputable def o72 : List (Nat × PI) := []
noncomputable def o96 : List (Nat × PI) := []
noncomputable def o97 : List (Nat × PI) := []
noncomputable def o41 : List (Nat × PI) := []
noncomputable def o99 : List (Nat × PI) := []
noncomputable def o100 : List (Nat × PI) := []
noncomputable def o64 : List (Nat × PI) := []
noncomputable def o47 : List (Nat × PI) := []
noncomputable def o101 : List (Nat × PI) := []
noncomputable def o114 : List (Nat × PI) := [(7, PI.of [0, 1, 2, 3, 4, 5, 6, 7, 8])]
noncomputable def o115 : List (Nat × PI) := [(4, PI.of [0, 1, 2, 3, 4, 5, 6, 7])]
noncomputable def o48 : List (Nat × PI) := []
noncomputable def o102 : List (Nat × PI) := [(4, PI.of [0, 1, 2, 3, 4, 5, 6, 7])]
noncomputable def o103 : List (Nat × PI) := [(4, PI.of [0, 1, 2, 3, 4, 5, 6])]
noncomputable def o65 : List (Nat × PI) := []
noncomputable def o49 : List (Nat × PI) := []
noncomputable def o8 : List (Nat × PI) := [(10, PI.of [0, 1, 2, 3, 4])]
abbrev uu : AV := .sc undef
noncomputable def tzG : Nat → List AV → Tm
 | _, [] => []
 | i, x :: l => (i, x) :: tzG (i + 1) l
noncomputable def tz (l : List AV) : Tm := tzG 0 l
noncomputable def ti0 (t : Nat) : Option TI := (tis[t]?).getD none
noncomputable def cd : Code → List Nat → Code
 | c, [] => c
 | .seq a b, i :: p => cd (if i = 0 then a else b) p
 | .cond _ a b, i :: p => cd (if i = 1 then a else b) p
 | .block _ a, _ :: p => cd a p
 | .loop a, _ :: p => cd a p
 | c, _ => c
noncomputable def f67 (p : Pr β) (n : Nat) (a0 a1 : AV) (H : Heap) (k : AV → Heap → Option β) : Option β :=
 p.len a0 fun t7 =>
 p.bin .sub a1 t7 fun t8 =>
 p.bin .lss t8 (.sc (.int .i64 0)) fun t10 =>
 p.cond t10
 (k (.sc (.int .i64 (-1))) H)
 (k t8 H)
theorem f67_body (p : Pr β) (n : Nat) (a0 a1 : AV) (H : Heap) (k : AV → Heap → Option β) : evalBody ti0 p n ⟨c67, 12, Go.Proofs.Tryz.f67.results.toList, o67⟩ [a0, a1] H k = f67 p n a0 a1 H k := by kernel_rfl
noncomputable def f20 (p : Pr β) (n : Nat) (a0 a1 : AV) (H : Heap) (k : AV → Heap → Option β) : Option β :=
 p.box a0 H fun t2 H =>
 p.fadr 0 t2 fun t6 =>
 p.load false 1 t6 H fun t7 =>
 p.lenS t7 fun t8 =>
 p.bin .sub a1 t8 fun t9 =>
 p.bin .lss t9 (.sc (.int .i64 0)) fun t11 =>
 p.cond t11
 (k (.sc (.int .i64 (-1))) H)
 (p.fadr 1 t2 fun t12 =>
 p.load false 1 t12 H fun t13 =>
 p.call 3 (.fn 67 [] []) [t13, t9] H fun t15 H =>
 p.bin .lss t15 (.sc (.int .i64 0)) fun t17 =>
 p.cond t17
 (k (.sc (.int .i64 (-1))) H)
 (k t15 H))
theorem f20_body (p : Pr β) (n : Nat) (a0 a1 : AV) (H : Heap) (k : AV → Heap → Option β) : evalBody ti0 p n ⟨c20, 19, Go.Proofs.Tryz.f20.results.toList, o20⟩ [a0, a1] H k = f20 p n a0 a1 H k := by kernel_rfl
noncomputable def f145 (p : Pr β) (n : Nat) (a0 a1 : AV) (H : Heap) (k : AV → Heap → Option β) : Option β :=
 p.box a0 H fun t2 H =>
 p.fadr 1 t2 fun t5 =>
 p.load true 4 t5 H fun t6 =>
 p.call 3 (.fn 20 [] []) [t6, a1] H fun t8 H =>
 p.bin .lss t8 (.sc (.int .i64 0)) fun t10 =>
 p.cond t10
 (k (.sc (.int .i64 (-1))) H)
 (k t8 H)
theorem f145_body (p : Pr β) (n : Nat) (a0 a1 : AV) (H : Heap) (k : AV → Heap → Option β) : evalBody ti0 p n ⟨c145, 12, Go.Proofs.Tryz.f145.results.toList, o145⟩ [a0, a1] H k = f145 p n a0 a1 H k := by kernel_rfl
noncomputable def f86_l0 (p : Pr β) (n : Nat)  (k : AV → Heap → Option β) : Nat → AV → AV → AV → Heap → Option β
 | 0, _, _, _, _ => none
 | m + 1, t0, t1, t5, H => p.len t0 fun t14 =>
   p.bin .lss t5 t14 fun t15 =>
   p.cond t15
   (p.iadr 6 t0 t5 fun t20 =>
   p.load true 6 t20 H fun t21 =>
   p.call 3 (.fn 145 [] []) [t21, t1] H fun t23 H =>
   p.bin .lss t23 (.sc (.int .i64 0)) fun t25 =>
   p.cond t25
   (k (.sc (.int .i64 (-1))) H)
   (p.bin .add t5 (.sc (.int .i64 1)) fun t17 =>
   f86_l0 p n  k m t0 t23 t17 H))
   (k t1 H)
noncomputable def f86 (p : Pr β) (n : Nat) (a0 a1 : AV) (H : Heap) (k : AV → Heap → Option β) : Option β :=
 p.len a0 fun t8 =>
 p.bin .sub a1 t8 fun t9 =>
 p.bin .lss t9 (.sc (.int .i64 0)) fun t11 =>
 p.cond t11
 (k (.sc (.int .i64 (-1))) H)
 (f86_l0 p n  k n a0 t9 (.sc (.int .i64 0)) H)
noncomputable def f86_L0 (p : Pr β) (n : Nat)  (k : AV → Heap → Option β) (m : Nat) (tm : Tm) (H : Heap) : Option β :=
 iterC 27 (fun tm H k => evalCode ti0 p o86 27 n (cd c86 [1, 1, 1, 0, 1, 0, 0]) tm H k) (blkK 0 (seqK (fun tm H => evalCode ti0 p o86 27 n (cd c86 [1, 1, 1, 1]) tm H (endK ti0 p Go.Proofs.Tryz.f86.results.toList k)) (endK ti0 p Go.Proofs.Tryz.f86.results.toList k))) m tm H
theorem f86_L0_step (p : Pr β) (n : Nat)  (k : AV → Heap → Option β) (m0 : Nat) (t0 t1 t2 t3 t4 t5 t6 t7 t8 t9 t10 t11 t12 t13 t14 t15 t16 t17 t18 t19 t20 t21 t22 t23 t24 t25 t26 : AV) (H : Heap) : f86_L0 p n  k (m0 + 1) (tz [t0, t1, t2, t3, t4, t5, t6, t7, t8, t9, t10, t11, t12, t13, t14, t15, t16, t17, t18, t19, t20, t21, t22, t23, t24, t25, t26]) H =
 p.len t0 fun t14 =>
 p.bin .lss t5 t14 fun t15 =>
 p.cond t15
 (p.iadr 6 t0 t5 fun t20 =>
 p.load true 6 t20 H fun t21 =>
 p.call 3 (.fn 145 [] []) [t21, t1] H fun t23 H =>
 p.bin .lss t23 (.sc (.int .i64 0)) fun t25 =>
 p.cond t25
 (k (.sc (.int .i64 (-1))) H)
 (p.bin .add t5 (.sc (.int .i64 1)) fun t17 =>
 f86_L0 p n  k m0 (tz [t0, t23, t2, t3, t4, t17, t6, t7, t8, t9, t10, t11, t5, t0, t14, t15, t5, t17, t0, t5, t20, t21, t1, t23, t23, t25, t26]) H))
 (k t1 H) := by kernel_rfl
theorem f86_l0_eq (p : Pr β) (n : Nat)  (k : AV → Heap → Option β)   (m0 : Nat) : ∀ (t0 t1 t2 t3 t4 t5 t6 t7 t8 t9 t10 t11 t12 t13 t14 t15 t16 t17 t18 t19 t20 t21 t22 t23 t24 t25 t26 : AV) (H : Heap), f86_L0 p n  k m0 (tz [t0, t1, t2, t3, t4, t5, t6, t7, t8, t9, t10, t11, t12, t13, t14, t15, t16, t17, t18, t19, t20, t21, t22, t23, t24, t25, t26]) H = f86_l0 p n  k m0 t0 t1 t5 H := by
 induction m0 with
 | zero => intros; rfl
 | succ m0 ih =>
  intro t0 t1 t2 t3 t4 t5 t6 t7 t8 t9 t10 t11 t12 t13 t14 t15 t16 t17 t18 t19 t20 t21 t22 t23 t24 t25 t26 H
  rw [f86_L0_step]
  simp only [ih]
  rfl
theorem f86_raw (p : Pr β) (n : Nat) (a0 a1 : AV) (H : Heap) (k : AV → Heap → Option β) : evalBody ti0 p n ⟨c86, 27, Go.Proofs.Tryz.f86.results.toList, o86⟩ [a0, a1] H k =
 p.len a0 fun t8 =>
 p.bin .sub a1 t8 fun t9 =>
 p.bin .lss t9 (.sc (.int .i64 0)) fun t11 =>
 p.cond t11
 (k (.sc (.int .i64 (-1))) H)
 (f86_L0 p n  k n (tz [a0, t9, uu, uu, (.sc (.int .i64 0)), (.sc (.int .i64 0)), a1, a0, t8, t9, t9, t11, uu, uu, uu, uu, uu, uu, uu, uu, uu, uu, uu, uu, uu, uu, uu]) H) := by kernel_rfl
theorem f86_body (p : Pr β) (n : Nat) (a0 a1 : AV) (H : Heap) (k : AV → Heap → Option β) : evalBody ti0 p n ⟨c86, 27, Go.Proofs.Tryz.f86.results.toList, o86⟩ [a0, a1] H k = f86 p n a0 a1 H k := by
 rw [f86_raw]
 simp only [f86_l0_eq]
 rfl
noncomputable def f87_l0 (p : Pr β) (n : Nat)  (k : AV → Heap → Option β) : Nat → AV → AV → AV → Heap → Option β
 | 0, _, _, _, _ => none
 | m + 1, t0, t1, t5, H => p.len t0 fun t14 =>
   p.bin .lss t5 t14 fun t15 =>
   p.cond t15
   (p.iadr 4 t0 t5 fun t20 =>
   p.load true 4 t20 H fun t21 =>
   p.call 3 (.fn 20 [] []) [t21, t1] H fun t23 H =>
   p.bin .lss t23 (.sc (.int .i64 0)) fun t25 =>
   p.cond t25
   (k (.sc (.int .i64 (-1))) H)
   (p.bin .add t5 (.sc (.int .i64 1)) fun t17 =>
   f87_l0 p n  k m t0 t23 t17 H))
   (k t1 H)
noncomputable def f87 (p : Pr β) (n : Nat) (a0 a1 : AV) (H : Heap) (k : AV → Heap → Option β) : Option β :=
 p.len a0 fun t8 =>
 p.bin .sub a1 t8 fun t9 =>
 p.bin .lss t9 (.sc (.int .i64 0)) fun t11 =>
 p.cond t11
 (k (.sc (.int .i64 (-1))) H)
 (f87_l0 p n  k n a0 t9 (.sc (.int .i64 0)) H)
noncomputable def f87_L0 (p : Pr β) (n : Nat)  (k : AV → Heap → Option β) (m : Nat) (tm : Tm) (H : Heap) : Option β :=
 iterC 27 (fun tm H k => evalCode ti0 p o87 27 n (cd c87 [1, 1, 1, 0, 1, 0, 0]) tm H k) (blkK 0 (seqK (fun tm H => evalCode ti0 p o87 27 n (cd c87 [1, 1, 1, 1]) tm H (endK ti0 p Go.Proofs.Tryz.f87.results.toList k)) (endK ti0 p Go.Proofs.Tryz.f87.results.toList k))) m tm H
theorem f87_L0_step (p : Pr β) (n : Nat)  (k : AV → Heap → Option β) (m0 : Nat) (t0 t1 t2 t3 t4 t5 t6 t7 t8 t9 t10 t11 t12 t13 t14 t15 t16 t17 t18 t19 t20 t21 t22 t23 t24 t25 t26 : AV) (H : Heap) : f87_L0 p n  k (m0 + 1) (tz [t0, t1, t2, t3, t4, t5, t6, t7, t8, t9, t10, t11, t12, t13, t14, t15, t16, t17, t18, t19, t20, t21, t22, t23, t24, t25, t26]) H =
 p.len t0 fun t14 =>
 p.bin .lss t5 t14 fun t15 =>
 p.cond t15
 (p.iadr 4 t0 t5 fun t20 =>
 p.load true 4 t20 H fun t21 =>
 p.call 3 (.fn 20 [] []) [t21, t1] H fun t23 H =>
 p.bin .lss t23 (.sc (.int .i64 0)) fun t25 =>
 p.cond t25
 (k (.sc (.int .i64 (-1))) H)
 (p.bin .add t5 (.sc (.int .i64 1)) fun t17 =>
 f87_L0 p n  k m0 (tz [t0, t23, t2, t3, t4, t17, t6, t7, t8, t9, t10, t11, t5, t0, t14, t15, t5, t17, t0, t5, t20, t21, t1, t23, t23, t25, t26]) H))
 (k t1 H) := by kernel_rfl
theorem f87_l0_eq (p : Pr β) (n : Nat)  (k : AV → Heap → Option β)   (m0 : Nat) : ∀ (t0 t1 t2 t3 t4 t5 t6 t7 t8 t9 t10 t11 t12 t13 t14 t15 t16 t17 t18 t19 t20 t21 t22 t23 t24 t25 t26 : AV) (H : Heap), f87_L0 p n  k m0 (tz [t0, t1, t2, t3, t4, t5, t6, t7, t8, t9, t10, t11, t12, t13, t14, t15, t16, t17, t18, t19, t20, t21, t22, t23, t24, t25, t26]) H = f87_l0 p n  k m0 t0 t1 t5 H := by
 induction m0 with
 | zero => intros; rfl
 | succ m0 ih =>
  intro t0 t1 t2 t3 t4 t5 t6 t7 t8 t9 t10 t11 t12 t13 t14 t15 t16 t17 t18 t19 t20 t21 t22 t23 t24 t25 t26 H
  rw [f87_L0_step]
  simp only [ih]
  rfl
theorem f87_raw (p : Pr β) (n : Nat) (a0 a1 : AV) (H : Heap) (k : AV → Heap → Option β) : evalBody ti0 p n ⟨c87, 27, Go.Proofs.Tryz.f87.results.toList, o87⟩ [a0, a1] H k =
 p.len a0 fun t8 =>
 p.bin .sub a1 t8 fun t9 =>
 p.bin .lss t9 (.sc (.int .i64 0)) fun t11 =>
 p.cond t11
 (k (.sc (.int .i64 (-1))) H)
 (f87_L0 p n  k n (tz [a0, t9, uu, uu, (.sc (.int .i64 0)), (.sc (.int .i64 0)), a1, a0, t8, t9, t9, t11, uu, uu, uu, uu, uu, uu, uu, uu, uu, uu, uu, uu, uu, uu, uu]) H) := by kernel_rfl
theorem f87_body (p : Pr β) (n : Nat) (a0 a1 : AV) (H : Heap) (k : AV → Heap → Option β) : evalBody ti0 p n ⟨c87, 27, Go.Proofs.Tryz.f87.results.toList, o87⟩ [a0, a1] H k = f87 p n a0 a1 H k := by
 rw [f87_raw]
 simp only [f87_l0_eq]
 rfl
noncomputable def f35 (p : Pr β) (n : Nat) (a0 a1 : AV) (H : Heap) (k : AV → Heap → Option β) : Option β :=
 p.box a0 H fun t2 H =>
 p.fadr 1 t2 fun t5 =>
 p.load false 1 t5 H fun t6 =>
 p.call 3 (.fn 86 [] []) [t6, a1] H fun t8 H =>
 p.bin .lss t8 (.sc (.int .i64 0)) fun t10 =>
 p.cond t10
 (k (.sc (.int .i64 (-1))) H)
 (p.fadr 2 t2 fun t11 =>
 p.load false 1 t11 H fun t12 =>
 p.call 3 (.fn 87 [] []) [t12, t8] H fun t14 H =>
 p.bin .lss t14 (.sc (.int .i64 0)) fun t16 =>
 p.cond t16
 (k (.sc (.int .i64 (-1))) H)
 (k t14 H))
theorem f35_body (p : Pr β) (n : Nat) (a0 a1 : AV) (H : Heap) (k : AV → Heap → Option β) : evalBody ti0 p n ⟨c35, 18, Go.Proofs.Tryz.f35.results.toList, o35⟩ [a0, a1] H k = f35 p n a0 a1 H k := by kernel_rfl
noncomputable def f69_l0 (p : Pr β) (n : Nat)  (k : AV → Heap → Option β) : Nat → AV → AV → AV → Heap → Option β
 | 0, _, _, _, _ => none
 | m + 1, t0, t3, t4, H => p.len t0 fun t10 =>
   p.bin .lss t4 t10 fun t11 =>
   p.cond t11
   (p.iadr 1 t0 t4 fun t18 =>
   p.load false 1 t18 H fun t19 =>
   p.iadr 1 t3 t4 fun t20 =>
   p.store 1 t20 t19 H fun H =>
   p.bin .add t4 (.sc (.int .i64 1)) fun t13 =>
   f69_l0 p n  k m t0 t3 t13 H)
   (k t3 H)
noncomputable def f69 (p : Pr β) (n : Nat) (a0 : AV) (H : Heap) (k : AV → Heap → Option β) : Option β :=
 p.len a0 fun t6 =>
 p.make 1 1 [(.sc (.int .u8 0))] t6 t6 H fun t7 H =>
 f69_l0 p n  k n a0 t7 (.sc (.int .i64 0)) H
noncomputable def f69_L0 (p : Pr β) (n : Nat)  (k : AV → Heap → Option β) (m : Nat) (tm : Tm) (H : Heap) : Option β :=
 iterC 22 (fun tm H k => evalCode ti0 p o69 22 n (cd c69 [1, 1, 0, 1, 0, 0]) tm H k) (blkK 0 (seqK (fun tm H => evalCode ti0 p o69 22 n (cd c69 [1, 1, 1]) tm H (endK ti0 p Go.Proofs.Tryz.f69.results.toList k)) (endK ti0 p Go.Proofs.Tryz.f69.results.toList k))) m tm H
theorem f69_L0_step (p : Pr β) (n : Nat)  (k : AV → Heap → Option β) (m0 : Nat) (t0 t1 t2 t3 t4 t5 t6 t7 t8 t9 t10 t11 t12 t13 t14 t15 t16 t17 t18 t19 t20 t21 : AV) (H : Heap) : f69_L0 p n  k (m0 + 1) (tz [t0, t1, t2, t3, t4, t5, t6, t7, t8, t9, t10, t11, t12, t13, t14, t15, t16, t17, t18, t19, t20, t21]) H =
 p.len t0 fun t10 =>
 p.bin .lss t4 t10 fun t11 =>
 p.cond t11
 (p.iadr 1 t0 t4 fun t18 =>
 p.load false 1 t18 H fun t19 =>
 p.iadr 1 t3 t4 fun t20 =>
 p.store 1 t20 t19 H fun H =>
 p.bin .add t4 (.sc (.int .i64 1)) fun t13 =>
 f69_L0 p n  k m0 (tz [t0, t1, t2, t3, t13, t5, t6, t7, t4, t0, t10, t11, t4, t13, t3, t4, t0, t4, t18, t19, t20, t21]) H)
 (k t3 H) := by kernel_rfl
theorem f69_l0_eq (p : Pr β) (n : Nat)  (k : AV → Heap → Option β)   (m0 : Nat) : ∀ (t0 t1 t2 t3 t4 t5 t6 t7 t8 t9 t10 t11 t12 t13 t14 t15 t16 t17 t18 t19 t20 t21 : AV) (H : Heap), f69_L0 p n  k m0 (tz [t0, t1, t2, t3, t4, t5, t6, t7, t8, t9, t10, t11, t12, t13, t14, t15, t16, t17, t18, t19, t20, t21]) H = f69_l0 p n  k m0 t0 t3 t4 H := by
 induction m0 with
 | zero => intros; rfl
 | succ m0 ih =>
  intro t0 t1 t2 t3 t4 t5 t6 t7 t8 t9 t10 t11 t12 t13 t14 t15 t16 t17 t18 t19 t20 t21 H
  rw [f69_L0_step]
  simp only [ih]
  rfl
theorem f69_raw (p : Pr β) (n : Nat) (a0 : AV) (H : Heap) (k : AV → Heap → Option β) : evalBody ti0 p n ⟨c69, 22, Go.Proofs.Tryz.f69.results.toList, o69⟩ [a0] H k =
 p.len a0 fun t6 =>
 p.make 1 1 [(.sc (.int .u8 0))] t6 t6 H fun t7 H =>
 f69_L0 p n  k n (tz [a0, uu, .nl, t7, (.sc (.int .i64 0)), a0, t6, t7, uu, uu, uu, uu, uu, uu, uu, uu, uu, uu, uu, uu, uu, uu]) H := by kernel_rfl
theorem f69_body (p : Pr β) (n : Nat) (a0 : AV) (H : Heap) (k : AV → Heap → Option β) : evalBody ti0 p n ⟨c69, 22, Go.Proofs.Tryz.f69.results.toList, o69⟩ [a0] H k = f69 p n a0 H k := by
 rw [f69_raw]
 simp only [f69_l0_eq]
 rfl
noncomputable def f22 (p : Pr β) (n : Nat) (a0 : AV) (H : Heap) (k : AV → Heap → Option β) : Option β :=
 p.box a0 H fun t1 H =>
 p.new [(.sc (.string ⟨#[]⟩)), .nl, (.sc (.int .i64 0)), (.sc (.bool false))] H fun t2 H =>
 p.new [(.sc (.string ⟨#[]⟩)), .nl, (.sc (.int .i64 0)), (.sc (.bool false))] H fun t3 H =>
 p.fadr 0 t1 fun t4 =>
 p.load false 1 t4 H fun t5 =>
 p.fadr 0 t3 fun t6 =>
 p.store 1 t6 t5 H fun H =>
 p.fadr 1 t1 fun t7 =>
 p.load false 1 t7 H fun t8 =>
 p.call 43 (.fn 69 [] []) [t8] H fun t9 H =>
 p.fadr 1 t3 fun t10 =>
 p.store 1 t10 t9 H fun H =>
 p.fadr 2 t1 fun t11 =>
 p.load false 1 t11 H fun t12 =>
 p.fadr 2 t3 fun t13 =>
 p.store 1 t13 t12 H fun H =>
 p.fadr 3 t1 fun t14 =>
 p.load false 1 t14 H fun t15 =>
 p.fadr 3 t3 fun t16 =>
 p.store 1 t16 t15 H fun H =>
 p.load true 4 t3 H fun t17 =>
 p.store 4 t2 t17 H fun H =>
 p.load true 4 t2 H fun r0 =>
 k r0 H
theorem f22_body (p : Pr β) (n : Nat) (a0 : AV) (H : Heap) (k : AV → Heap → Option β) : evalBody ti0 p n ⟨c22, 18, Go.Proofs.Tryz.f22.results.toList, o22⟩ [a0] H k = f22 p n a0 H k := by kernel_rfl
noncomputable def f147 (p : Pr β) (n : Nat) (a0 : AV) (H : Heap) (k : AV → Heap → Option β) : Option β :=
 p.box a0 H fun t1 H =>
 p.new [(.sc (.int .i64 0)), (.sc (.string ⟨#[]⟩)), .nl, (.sc (.int .i64 0)), (.sc (.bool false)), (.sc (.int .i64 0))] H fun t2 H =>
 p.new [(.sc (.int .i64 0)), (.sc (.string ⟨#[]⟩)), .nl, (.sc (.int .i64 0)), (.sc (.bool false)), (.sc (.int .i64 0))] H fun t3 H =>
 p.fadr 0 t1 fun t4 =>
 p.load false 1 t4 H fun t5 =>
 p.fadr 0 t3 fun t6 =>
 p.store 1 t6 t5 H fun H =>
 p.fadr 1 t1 fun t7 =>
 p.load true 4 t7 H fun t8 =>
 p.call 49 (.fn 22 [] []) [t8] H fun t9 H =>
 p.fadr 1 t3 fun t10 =>
 p.store 4 t10 t9 H fun H =>
 p.fadr 5 t1 fun t11 =>
 p.load false 1 t11 H fun t12 =>
 p.fadr 5 t3 fun t13 =>
 p.store 1 t13 t12 H fun H =>
 p.load true 6 t3 H fun t14 =>
 p.store 6 t2 t14 H fun H =>
 p.load true 6 t2 H fun r0 =>
 k r0 H
theorem f147_body (p : Pr β) (n : Nat) (a0 : AV) (H : Heap) (k : AV → Heap → Option β) : evalBody ti0 p n ⟨c147, 15, Go.Proofs.Tryz.f147.results.toList, o147⟩ [a0] H k = f147 p n a0 H k := by kernel_rfl
noncomputable def f90_l0 (p : Pr β) (n : Nat)  (k : AV → Heap → Option β) : Nat → AV → AV → AV → Heap → Option β
 | 0, _, _, _, _ => none
 | m + 1, t0, t3, t4, H => p.len t0 fun t10 =>
   p.bin .lss t4 t10 fun t11 =>
   p.cond t11
   (p.iadr 6 t0 t4 fun t18 =>
   p.load true 6 t18 H fun t19 =>
   p.call 116 (.fn 147 [] []) [t19] H fun t20 H =>
   p.iadr 6 t3 t4 fun t21 =>
   p.store 6 t21 t20 H fun H =>
   p.bin .add t4 (.sc (.int .i64 1)) fun t13 =>
   f90_l0 p n  k m t0 t3 t13 H)
   (k t3 H)
noncomputable def f90 (p : Pr β) (n : Nat) (a0 : AV) (H : Heap) (k : AV → Heap → Option β) : Option β :=
 p.len a0 fun t6 =>
 p.make 6 72 [(.sc (.int .i64 0)), (.sc (.string ⟨#[]⟩)), .nl, (.sc (.int .i64 0)), (.sc (.bool false)), (.sc (.int .i64 0))] t6 t6 H fun t7 H =>
 f90_l0 p n  k n a0 t7 (.sc (.int .i64 0)) H
noncomputable def f90_L0 (p : Pr β) (n : Nat)  (k : AV → Heap → Option β) (m : Nat) (tm : Tm) (H : Heap) : Option β :=
 iterC 23 (fun tm H k => evalCode ti0 p o90 23 n (cd c90 [1, 1, 0, 1, 0, 0]) tm H k) (blkK 0 (seqK (fun tm H => evalCode ti0 p o90 23 n (cd c90 [1, 1, 1]) tm H (endK ti0 p Go.Proofs.Tryz.f90.results.toList k)) (endK ti0 p Go.Proofs.Tryz.f90.results.toList k))) m tm H
theorem f90_L0_step (p : Pr β) (n : Nat)  (k : AV → Heap → Option β) (m0 : Nat) (t0 t1 t2 t3 t4 t5 t6 t7 t8 t9 t10 t11 t12 t13 t14 t15 t16 t17 t18 t19 t20 t21 t22 : AV) (H : Heap) : f90_L0 p n  k (m0 + 1) (tz [t0, t1, t2, t3, t4, t5, t6, t7, t8, t9, t10, t11, t12, t13, t14, t15, t16, t17, t18, t19, t20, t21, t22]) H =
 p.len t0 fun t10 =>
 p.bin .lss t4 t10 fun t11 =>
 p.cond t11
 (p.iadr 6 t0 t4 fun t18 =>
 p.load true 6 t18 H fun t19 =>
 p.call 116 (.fn 147 [] []) [t19] H fun t20 H =>
 p.iadr 6 t3 t4 fun t21 =>
 p.store 6 t21 t20 H fun H =>
 p.bin .add t4 (.sc (.int .i64 1)) fun t13 =>
 f90_L0 p n  k m0 (tz [t0, t1, t2, t3, t13, t5, t6, t7, t4, t0, t10, t11, t4, t13, t3, t4, t0, t4, t18, t19, t20, t21, t22]) H)
 (k t3 H) := by kernel_rfl
theorem f90_l0_eq (p : Pr β) (n : Nat)  (k : AV → Heap → Option β)   (m0 : Nat) : ∀ (t0 t1 t2 t3 t4 t5 t6 t7 t8 t9 t10 t11 t12 t13 t14 t15 t16 t17 t18 t19 t20 t21 t22 : AV) (H : Heap), f90_L0 p n  k m0 (tz [t0, t1, t2, t3, t4, t5, t6, t7, t8, t9, t10, t11, t12, t13, t14, t15, t16, t17, t18, t19, t20, t21, t22]) H = f90_l0 p n  k m0 t0 t3 t4 H := by
 induction m0 with
 | zero => intros; rfl
 | succ m0 ih =>
  intro t0 t1 t2 t3 t4 t5 t6 t7 t8 t9 t10 t11 t12 t13 t14 t15 t16 t17 t18 t19 t20 t21 t22 H
  rw [f90_L0_step]
  simp only [ih]
  rfl
theorem f90_raw (p : Pr β) (n : Nat) (a0 : AV) (H : Heap) (k : AV → Heap → Option β) : evalBody ti0 p n ⟨c90, 23, Go.Proofs.Tryz.f90.results.toList, o90⟩ [a0] H k =
 p.len a0 fun t6 =>
 p.make 6 72 [(.sc (.int .i64 0)), (.sc (.string ⟨#[]⟩)), .nl, (.sc (.int .i64 0)), (.sc (.bool false)), (.sc (.int .i64 0))] t6 t6 H fun t7 H =>
 f90_L0 p n  k n (tz [a0, uu, .nl, t7, (.sc (.int .i64 0)), a0, t6, t7, uu, uu, uu, uu, uu, uu, uu, uu, uu, uu, uu, uu, uu, uu, uu]) H := by kernel_rfl
theorem f90_body (p : Pr β) (n : Nat) (a0 : AV) (H : Heap) (k : AV → Heap → Option β) : evalBody ti0 p n ⟨c90, 23, Go.Proofs.Tryz.f90.results.toList, o90⟩ [a0] H k = f90 p n a0 H k := by
 rw [f90_raw]
 simp only [f90_l0_eq]
 rfl
noncomputable def f91_l0 (p : Pr β) (n : Nat)  (k : AV → Heap → Option β) : Nat → AV → AV → AV → Heap → Option β
 | 0, _, _, _, _ => none
 | m + 1, t0, t3, t4, H => p.len t0 fun t10 =>
   p.bin .lss t4 t10 fun t11 =>
   p.cond t11
   (p.iadr 4 t0 t4 fun t18 =>
   p.load true 4 t18 H fun t19 =>
   p.call 49 (.fn 22 [] []) [t19] H fun t20 H =>
   p.iadr 4 t3 t4 fun t21 =>
   p.store 4 t21 t20 H fun H =>
   p.bin .add t4 (.sc (.int .i64 1)) fun t13 =>
   f91_l0 p n  k m t0 t3 t13 H)
   (k t3 H)
noncomputable def f91 (p : Pr β) (n : Nat) (a0 : AV) (H : Heap) (k : AV → Heap → Option β) : Option β :=
 p.len a0 fun t6 =>
 p.make 4 56 [(.sc (.string ⟨#[]⟩)), .nl, (.sc (.int .i64 0)), (.sc (.bool false))] t6 t6 H fun t7 H =>
 f91_l0 p n  k n a0 t7 (.sc (.int .i64 0)) H
noncomputable def f91_L0 (p : Pr β) (n : Nat)  (k : AV → Heap → Option β) (m : Nat) (tm : Tm) (H : Heap) : Option β :=
 iterC 23 (fun tm H k => evalCode ti0 p o91 23 n (cd c91 [1, 1, 0, 1, 0, 0]) tm H k) (blkK 0 (seqK (fun tm H => evalCode ti0 p o91 23 n (cd c91 [1, 1, 1]) tm H (endK ti0 p Go.Proofs.Tryz.f91.results.toList k)) (endK ti0 p Go.Proofs.Tryz.f91.results.toList k))) m tm H
theorem f91_L0_step (p : Pr β) (n : Nat)  (k : AV → Heap → Option β) (m0 : Nat) (t0 t1 t2 t3 t4 t5 t6 t7 t8 t9 t10 t11 t12 t13 t14 t15 t16 t17 t18 t19 t20 t21 t22 : AV) (H : Heap) : f91_L0 p n  k (m0 + 1) (tz [t0, t1, t2, t3, t4, t5, t6, t7, t8, t9, t10, t11, t12, t13, t14, t15, t16, t17, t18, t19, t20, t21, t22]) H =
 p.len t0 fun t10 =>
 p.bin .lss t4 t10 fun t11 =>
 p.cond t11
 (p.iadr 4 t0 t4 fun t18 =>
 p.load true 4 t18 H fun t19 =>
 p.call 49 (.fn 22 [] []) [t19] H fun t20 H =>
 p.iadr 4 t3 t4 fun t21 =>
 p.store 4 t21 t20 H fun H =>
 p.bin .add t4 (.sc (.int .i64 1)) fun t13 =>
 f91_L0 p n  k m0 (tz [t0, t1, t2, t3, t13, t5, t6, t7, t4, t0, t10, t11, t4, t13, t3, t4, t0, t4, t18, t19, t20, t21, t22]) H)
 (k t3 H) := by kernel_rfl
theorem f91_l0_eq (p : Pr β) (n : Nat)  (k : AV → Heap → Option β)   (m0 : Nat) : ∀ (t0 t1 t2 t3 t4 t5 t6 t7 t8 t9 t10 t11 t12 t13 t14 t15 t16 t17 t18 t19 t20 t21 t22 : AV) (H : Heap), f91_L0 p n  k m0 (tz [t0, t1, t2, t3, t4, t5, t6, t7, t8, t9, t10, t11, t12, t13, t14, t15, t16, t17, t18, t19, t20, t21, t22]) H = f91_l0 p n  k m0 t0 t3 t4 H := by
 induction m0 with
 | zero => intros; rfl
 | succ m0 ih =>
  intro t0 t1 t2 t3 t4 t5 t6 t7 t8 t9 t10 t11 t12 t13 t14 t15 t16 t17 t18 t19 t20 t21 t22 H
  rw [f91_L0_step]
  simp only [ih]
  rfl
theorem f91_raw (p : Pr β) (n : Nat) (a0 : AV) (H : Heap) (k : AV → Heap → Option β) : evalBody ti0 p n ⟨c91, 23, Go.Proofs.Tryz.f91.results.toList, o91⟩ [a0] H k =
 p.len a0 fun t6 =>
 p.make 4 56 [(.sc (.string ⟨#[]⟩)), .nl, (.sc (.int .i64 0)), (.sc (.bool false))] t6 t6 H fun t7 H =>
 f91_L0 p n  k n (tz [a0, uu, .nl, t7, (.sc (.int .i64 0)), a0, t6, t7, uu, uu, uu, uu, uu, uu, uu, uu, uu, uu, uu, uu, uu, uu, uu]) H := by kernel_rfl
theorem f91_body (p : Pr β) (n : Nat) (a0 : AV) (H : Heap) (k : AV → Heap → Option β) : evalBody ti0 p n ⟨c91, 23, Go.Proofs.Tryz.f91.results.toList, o91⟩ [a0] H k = f91 p n a0 H k := by
 rw [f91_raw]
 simp only [f91_l0_eq]
 rfl
noncomputable def f37 (p : Pr β) (n : Nat) (a0 : AV) (H : Heap) (k : AV → Heap → Option β) : Option β :=
 p.box a0 H fun t1 H =>
 p.new [(.sc (.int .i64 0)), .nl, .nl] H fun t2 H =>
 p.new [(.sc (.int .i64 0)), .nl, .nl] H fun t3 H =>
 p.fadr 0 t1 fun t4 =>
 p.load false 1 t4 H fun t5 =>
 p.fadr 0 t3 fun t6 =>
 p.store 1 t6 t5 H fun H =>
 p.fadr 1 t1 fun t7 =>
 p.load false 1 t7 H fun t8 =>
 p.call 30 (.fn 90 [] []) [t8] H fun t9 H =>
 p.fadr 1 t3 fun t10 =>
 p.store 1 t10 t9 H fun H =>
 p.fadr 2 t1 fun t11 =>
 p.load false 1 t11 H fun t12 =>
 p.call 31 (.fn 91 [] []) [t12] H fun t13 H =>
 p.fadr 2 t3 fun t14 =>
 p.store 1 t14 t13 H fun H =>
 p.load true 3 t3 H fun t15 =>
 p.store 3 t2 t15 H fun H =>
 p.load true 3 t2 H fun r0 =>
 k r0 H
theorem f37_body (p : Pr β) (n : Nat) (a0 : AV) (H : Heap) (k : AV → Heap → Option β) : evalBody ti0 p n ⟨c37, 16, Go.Proofs.Tryz.f37.results.toList, o37⟩ [a0] H k = f37 p n a0 H k := by kernel_rfl
noncomputable def f152 (p : Pr β) (n : Nat) (a0 : AV) (H : Heap) (k : AV → Heap → Option β) : Option β :=
 p.box a0 H fun t1 H =>
 p.new [(.sc (.string ⟨#[]⟩)), .nl, (.sc (.int .i64 0)), (.sc (.bool false))] H fun t2 H =>
 p.fadr 0 t1 fun t3 =>
 p.load false 1 t3 H fun t4 =>
 p.fadr 1 t1 fun t6 =>
 p.load false 1 t6 H fun t7 =>
 p.fadr 2 t1 fun t9 =>
 p.load false 1 t9 H fun t10 =>
 p.fadr 3 t1 fun t11 =>
 p.load false 1 t11 H fun t12 =>
 p.app 1 1 .nl t7 H fun t8 H =>
 p.fill [(.sc (.string ⟨#[]⟩)), .nl, (.sc (.int .i64 0)), (.sc (.bool false))] [(0, 1, t4), (1, 1, t8), (2, 1, t10), (3, 1, t12)] fun ct13 =>
 p.store 4 t2 (.agg ct13) H fun H =>
 p.load true 4 t2 H fun r0 =>
 k r0 H
theorem f152_body (p : Pr β) (n : Nat) (a0 : AV) (H : Heap) (k : AV → Heap → Option β) : evalBody ti0 p n ⟨c152, 14, Go.Proofs.Tryz.f152.results.toList, o152⟩ [a0] H k = f152 p n a0 H k := by kernel_rfl
noncomputable def f151_l0 (p : Pr β) (n : Nat)  (k : AV → Heap → Option β) : Nat → AV → AV → AV → Heap → Option β
 | 0, _, _, _, _ => none
 | m + 1, t0, t3, t4, H => p.len t0 fun t8 =>
   p.bin .lss t4 t8 fun t9 =>
   p.cond t9
   (p.iadr 4 t0 t4 fun t15 =>
   p.load true 4 t15 H fun t16 =>
   p.call 49 (.fn 152 [] []) [t16] H fun t17 H =>
   p.fill [(.sc (.string ⟨#[]⟩)), .nl, (.sc (.int .i64 0)), (.sc (.bool false))] [(0, 4, t17)] fun ct18 => p.newSl 1 4 ct18 true H fun t18 H =>
   p.app 4 56 t3 t18 H fun t19 H =>
   p.bin .add t4 (.sc (.int .i64 1)) fun t11 =>
   f151_l0 p n  k m t0 t19 t11 H)
   (k t3 H)
noncomputable def f151 (p : Pr β) (n : Nat) (a0 : AV) (H : Heap) (k : AV → Heap → Option β) : Option β :=
 f151_l0 p n  k n a0 .nl (.sc (.int .i64 0)) H
noncomputable def f151_L0 (p : Pr β) (n : Nat)  (k : AV → Heap → Option β) (m : Nat) (tm : Tm) (H : Heap) : Option β :=
 iterC 21 (fun tm H k => evalCode ti0 p o151 21 n (cd c151 [1, 1, 0, 1, 0, 0]) tm H k) (blkK 0 (seqK (fun tm H => evalCode ti0 p o151 21 n (cd c151 [1, 1, 1]) tm H (endK ti0 p Go.Proofs.Tryz.f151.results.toList k)) (endK ti0 p Go.Proofs.Tryz.f151.results.toList k))) m tm H
theorem f151_L0_step (p : Pr β) (n : Nat)  (k : AV → Heap → Option β) (m0 : Nat) (t0 t1 t2 t3 t4 t5 t6 t7 t8 t9 t10 t11 t12 t13 t14 t15 t16 t17 t18 t19 t20 : AV) (H : Heap) : f151_L0 p n  k (m0 + 1) (tz [t0, t1, t2, t3, t4, t5, t6, t7, t8, t9, t10, t11, t12, t13, t14, t15, t16, t17, t18, t19, t20]) H =
 p.len t0 fun t8 =>
 p.bin .lss t4 t8 fun t9 =>
 p.cond t9
 (p.iadr 4 t0 t4 fun t15 =>
 p.load true 4 t15 H fun t16 =>
 p.call 49 (.fn 152 [] []) [t16] H fun t17 H =>
 p.fill [(.sc (.string ⟨#[]⟩)), .nl, (.sc (.int .i64 0)), (.sc (.bool false))] [(0, 4, t17)] fun ct18 => p.newSl 1 4 ct18 true H fun t18 H =>
 p.app 4 56 t3 t18 H fun t19 H =>
 p.bin .add t4 (.sc (.int .i64 1)) fun t11 =>
 f151_L0 p n  k m0 (tz [t0, t1, t2, t19, t11, t5, t4, t0, t8, t9, t4, t11, t3, t0, t4, t15, t16, t17, t18, t19, t20]) H)
 (k t3 H) := by kernel_rfl
theorem f151_l0_eq (p : Pr β) (n : Nat)  (k : AV → Heap → Option β)   (m0 : Nat) : ∀ (t0 t1 t2 t3 t4 t5 t6 t7 t8 t9 t10 t11 t12 t13 t14 t15 t16 t17 t18 t19 t20 : AV) (H : Heap), f151_L0 p n  k m0 (tz [t0, t1, t2, t3, t4, t5, t6, t7, t8, t9, t10, t11, t12, t13, t14, t15, t16, t17, t18, t19, t20]) H = f151_l0 p n  k m0 t0 t3 t4 H := by
 induction m0 with
 | zero => intros; rfl
 | succ m0 ih =>
  intro t0 t1 t2 t3 t4 t5 t6 t7 t8 t9 t10 t11 t12 t13 t14 t15 t16 t17 t18 t19 t20 H
  rw [f151_L0_step]
  simp only [ih]
  rfl
theorem f151_raw (p : Pr β) (n : Nat) (a0 : AV) (H : Heap) (k : AV → Heap → Option β) : evalBody ti0 p n ⟨c151, 21, Go.Proofs.Tryz.f151.results.toList, o151⟩ [a0] H k =
 f151_L0 p n  k n (tz [a0, uu, .nl, .nl, (.sc (.int .i64 0)), .nl, uu, uu, uu, uu, uu, uu, uu, uu, uu, uu, uu, uu, uu, uu, uu]) H := by kernel_rfl
theorem f151_body (p : Pr β) (n : Nat) (a0 : AV) (H : Heap) (k : AV → Heap → Option β) : evalBody ti0 p n ⟨c151, 21, Go.Proofs.Tryz.f151.results.toList, o151⟩ [a0] H k = f151 p n a0 H k := by
 rw [f151_raw]
 simp only [f151_l0_eq]
 rfl
noncomputable def f104_l0 (p : Pr β) (n : Nat)  (k : AV → Heap → Option β) : Nat → AV → AV → AV → AV → Heap → Option β
 | 0, _, _, _, _, _ => none
 | m + 1, t1, t2, t3, t4, H => p.fadr 1 t1 fun t12 =>
   p.load false 1 t12 H fun t13 =>
   p.len t13 fun t14 =>
   p.bin .lss t4 t14 fun t15 =>
   p.cond t15
   (p.fadr 1 t3 fun t18 =>
   p.load false 1 t18 H fun t19 =>
   p.fadr 1 t1 fun t20 =>
   p.load false 1 t20 H fun t21 =>
   p.iadr 6 t21 t4 fun t23 =>
   p.fadr 0 t23 fun t24 =>
   p.load false 1 t24 H fun t25 =>
   p.fadr 1 t1 fun t26 =>
   p.load false 1 t26 H fun t27 =>
   p.iadr 6 t27 t4 fun t29 =>
   p.fadr 1 t29 fun t30 =>
   p.load true 4 t30 H fun t31 =>
   p.fadr 1 t1 fun t33 =>
   p.load false 1 t33 H fun t34 =>
   p.iadr 6 t34 t4 fun t36 =>
   p.fadr 5 t36 fun t37 =>
   p.load false 1 t37 H fun t38 =>
   p.call 49 (.fn 152 [] []) [t31] H fun t32 H =>
   p.fill [(.sc (.int .i64 0)), (.sc (.string ⟨#[]⟩)), .nl, (.sc (.int .i64 0)), (.sc (.bool false)), (.sc (.int .i64 0))] [(0, 1, t25), (1, 4, t32), (5, 1, t38)] fun ct39 =>
   p.fill [(.sc (.int .i64 0)), (.sc (.string ⟨#[]⟩)), .nl, (.sc (.int .i64 0)), (.sc (.bool false)), (.sc (.int .i64 0))] [(0, 6, (.agg ct39))] fun ct40 => p.newSl 1 6 ct40 true H fun t40 H =>
   p.app 6 72 t19 t40 H fun t41 H =>
   p.fadr 1 t3 fun t42 =>
   p.store 1 t42 t41 H fun H =>
   p.bin .add t4 (.sc (.int .i64 1)) fun t17 =>
   f104_l0 p n  k m t1 t2 t3 t17 H)
   (p.load true 3 t3 H fun t43 =>
   p.store 3 t2 t43 H fun H =>
   p.load true 3 t2 H fun r0 =>
   k r0 H)
noncomputable def f104 (p : Pr β) (n : Nat) (a0 : AV) (H : Heap) (k : AV → Heap → Option β) : Option β :=
 p.box a0 H fun t1 H =>
 p.new [(.sc (.int .i64 0)), .nl, .nl] H fun t2 H =>
 p.fadr 0 t1 fun t5 =>
 p.load false 1 t5 H fun t6 =>
 p.fadr 2 t1 fun t7 =>
 p.load false 1 t7 H fun t8 =>
 p.both
 (p.call 31 (.fn 151 [] []) [t8] H fun t9 H =>
 p.fill [(.sc (.int .i64 0)), .nl, .nl] [(0, 1, t6), (2, 1, t9)] fun ct10 =>
 p.new [(.sc (.int .i64 0)), .nl, .nl] H fun t3 H =>
 p.store 3 t3 (.agg ct10) H fun H =>
 f104_l0 p n  k n t1 t2 t3 (.sc (.int .i64 0)) H)
 (p.new [(.sc (.int .i64 0)), .nl, .nl] H fun t3 H =>
 p.call 31 (.fn 151 [] []) [t8] H fun t9 H =>
 p.fill [(.sc (.int .i64 0)), .nl, .nl] [(0, 1, t6), (2, 1, t9)] fun ct10 =>
 p.store 3 t3 (.agg ct10) H fun H =>
 f104_l0 p n  k n t1 t2 t3 (.sc (.int .i64 0)) H)
noncomputable def f104_L0 (p : Pr β) (n : Nat)  (k : AV → Heap → Option β) (m : Nat) (tm : Tm) (H : Heap) : Option β :=
 iterC 44 (fun tm H k => evalCode ti0 p o104 44 n (cd c104 [1, 1, 0, 1, 0, 0]) tm H k) (blkK 0 (seqK (fun tm H => evalCode ti0 p o104 44 n (cd c104 [1, 1, 1]) tm H (endK ti0 p Go.Proofs.Tryz.f104.results.toList k)) (endK ti0 p Go.Proofs.Tryz.f104.results.toList k))) m tm H
theorem f104_L0_step (p : Pr β) (n : Nat)  (k : AV → Heap → Option β) (m0 : Nat) (t0 t1 t2 t3 t4 t5 t6 t7 t8 t9 t10 t11 t12 t13 t14 t15 t16 t17 t18 t19 t20 t21 t22 t23 t24 t25 t26 t27 t28 t29 t30 t31 t32 t33 t34 t35 t36 t37 t38 t39 t40 t41 t42 t43 : AV) (H : Heap) : f104_L0 p n  k (m0 + 1) (tz [t0, t1, t2, t3, t4, t5, t6, t7, t8, t9, t10, t11, t12, t13, t14, t15, t16, t17, t18, t19, t20, t21, t22, t23, t24, t25, t26, t27, t28, t29, t30, t31, t32, t33, t34, t35, t36, t37, t38, t39, t40, t41, t42, t43]) H =
 p.fadr 1 t1 fun t12 =>
 p.load false 1 t12 H fun t13 =>
 p.len t13 fun t14 =>
 p.bin .lss t4 t14 fun t15 =>
 p.cond t15
 (p.fadr 1 t3 fun t18 =>
 p.load false 1 t18 H fun t19 =>
 p.fadr 1 t1 fun t20 =>
 p.load false 1 t20 H fun t21 =>
 p.iadr 6 t21 t4 fun t23 =>
 p.fadr 0 t23 fun t24 =>
 p.load false 1 t24 H fun t25 =>
 p.fadr 1 t1 fun t26 =>
 p.load false 1 t26 H fun t27 =>
 p.iadr 6 t27 t4 fun t29 =>
 p.fadr 1 t29 fun t30 =>
 p.load true 4 t30 H fun t31 =>
 p.fadr 1 t1 fun t33 =>
 p.load false 1 t33 H fun t34 =>
 p.iadr 6 t34 t4 fun t36 =>
 p.fadr 5 t36 fun t37 =>
 p.load false 1 t37 H fun t38 =>
 p.call 49 (.fn 152 [] []) [t31] H fun t32 H =>
 p.fill [(.sc (.int .i64 0)), (.sc (.string ⟨#[]⟩)), .nl, (.sc (.int .i64 0)), (.sc (.bool false)), (.sc (.int .i64 0))] [(0, 1, t25), (1, 4, t32), (5, 1, t38)] fun ct39 =>
 p.fill [(.sc (.int .i64 0)), (.sc (.string ⟨#[]⟩)), .nl, (.sc (.int .i64 0)), (.sc (.bool false)), (.sc (.int .i64 0))] [(0, 6, (.agg ct39))] fun ct40 => p.newSl 1 6 ct40 true H fun t40 H =>
 p.app 6 72 t19 t40 H fun t41 H =>
 p.fadr 1 t3 fun t42 =>
 p.store 1 t42 t41 H fun H =>
 p.bin .add t4 (.sc (.int .i64 1)) fun t17 =>
 f104_L0 p n  k m0 (tz [t0, t1, t2, t3, t17, t5, t6, t7, t8, t9, t10, t4, t12, t13, t14, t15, t4, t17, t18, t19, t20, t21, t4, t23, t24, t25, t26, t27, t4, t29, t30, t31, t32, t33, t34, t4, t36, t37, t38, (.agg ct39), t40, t41, t42, t43]) H)
 (p.load true 3 t3 H fun t43 =>
 p.store 3 t2 t43 H fun H =>
 p.load true 3 t2 H fun r0 =>
 k r0 H) := by kernel_rfl
theorem f104_l0_eq (p : Pr β) (n : Nat)  (k : AV → Heap → Option β)   (m0 : Nat) : ∀ (t0 t1 t2 t3 t4 t5 t6 t7 t8 t9 t10 t11 t12 t13 t14 t15 t16 t17 t18 t19 t20 t21 t22 t23 t24 t25 t26 t27 t28 t29 t30 t31 t32 t33 t34 t35 t36 t37 t38 t39 t40 t41 t42 t43 : AV) (H : Heap), f104_L0 p n  k m0 (tz [t0, t1, t2, t3, t4, t5, t6, t7, t8, t9, t10, t11, t12, t13, t14, t15, t16, t17, t18, t19, t20, t21, t22, t23, t24, t25, t26, t27, t28, t29, t30, t31, t32, t33, t34, t35, t36, t37, t38, t39, t40, t41, t42, t43]) H = f104_l0 p n  k m0 t1 t2 t3 t4 H := by
 induction m0 with
 | zero => intros; rfl
 | succ m0 ih =>
  intro t0 t1 t2 t3 t4 t5 t6 t7 t8 t9 t10 t11 t12 t13 t14 t15 t16 t17 t18 t19 t20 t21 t22 t23 t24 t25 t26 t27 t28 t29 t30 t31 t32 t33 t34 t35 t36 t37 t38 t39 t40 t41 t42 t43 H
  rw [f104_L0_step]
  simp only [ih]
  rfl
theorem f104_raw (p : Pr β) (n : Nat) (a0 : AV) (H : Heap) (k : AV → Heap → Option β) : evalBody ti0 p n ⟨c104, 44, Go.Proofs.Tryz.f104.results.toList, o104⟩ [a0] H k =
 p.box a0 H fun t1 H =>
 p.new [(.sc (.int .i64 0)), .nl, .nl] H fun t2 H =>
 p.fadr 0 t1 fun t5 =>
 p.load false 1 t5 H fun t6 =>
 p.fadr 2 t1 fun t7 =>
 p.load false 1 t7 H fun t8 =>
 p.both
 (p.call 31 (.fn 151 [] []) [t8] H fun t9 H =>
 p.fill [(.sc (.int .i64 0)), .nl, .nl] [(0, 1, t6), (2, 1, t9)] fun ct10 =>
 p.new [(.sc (.int .i64 0)), .nl, .nl] H fun t3 H =>
 p.store 3 t3 (.agg ct10) H fun H =>
 f104_L0 p n  k n (tz [a0, t1, t2, t3, (.sc (.int .i64 0)), t5, t6, t7, t8, t9, (.agg ct10), uu, uu, uu, uu, uu, uu, uu, uu, uu, uu, uu, uu, uu, uu, uu, uu, uu, uu, uu, uu, uu, uu, uu, uu, uu, uu, uu, uu, uu, uu, uu, uu, uu]) H)
 (p.new [(.sc (.int .i64 0)), .nl, .nl] H fun t3 H =>
 p.call 31 (.fn 151 [] []) [t8] H fun t9 H =>
 p.fill [(.sc (.int .i64 0)), .nl, .nl] [(0, 1, t6), (2, 1, t9)] fun ct10 =>
 p.store 3 t3 (.agg ct10) H fun H =>
 f104_L0 p n  k n (tz [a0, t1, t2, t3, (.sc (.int .i64 0)), t5, t6, t7, t8, t9, (.agg ct10), uu, uu, uu, uu, uu, uu, uu, uu, uu, uu, uu, uu, uu, uu, uu, uu, uu, uu, uu, uu, uu, uu, uu, uu, uu, uu, uu, uu, uu, uu, uu, uu, uu]) H) := by kernel_rfl
theorem f104_body (p : Pr β) (n : Nat) (a0 : AV) (H : Heap) (k : AV → Heap → Option β) : evalBody ti0 p n ⟨c104, 44, Go.Proofs.Tryz.f104.results.toList, o104⟩ [a0] H k = f104 p n a0 H k := by
 rw [f104_raw]
 simp only [f104_l0_eq]
 rfl
noncomputable def f83 (p : Pr β) (n : Nat) (a0 a1 a2 : AV) (H : Heap) (k : AV → Heap → Option β) : Option β :=
 p.bin .geq a0 a1 fun t9 =>
 p.guard t9 true H (fun k' => k' a0 H) fun t11 H =>
 p.guard t9 true H (fun k' => k' a2 H) fun t12 H =>
 p.guard t9 true H (fun k' => p.bin .leq t11 t12 fun t' => k' t' H) fun t13 H =>
 p.pick t9 t13 (.sc (.bool false)) fun t14 =>
 k t14 H
theorem f83_body (p : Pr β) (n : Nat) (a0 a1 a2 : AV) (H : Heap) (k : AV → Heap → Option β) : evalBody ti0 p n ⟨c83, 15, Go.Proofs.Tryz.f83.results.toList, o83⟩ [a0, a1, a2] H k = f83 p n a0 a1 a2 H k := by kernel_rfl
noncomputable def f172_l0 (p : Pr β) (n : Nat)  (k : AV → Heap → Option β) : Nat → AV → AV → AV → AV → AV → AV → Heap → Option β
 | 0, _, _, _, _, _, _, _ => none
 | m + 1, t0, t1, t8, t9, t10, t11, H => p.bin .leq t11 t8 fun t67 =>
   p.cond t67
   (p.bin .add t1 t11 fun t73 =>
   p.iadr 1 t0 t73 fun t74 =>
   p.load false 1 t74 H fun t75 =>
   p.cvI .i64 t75 fun t76 =>
   p.bin .lss t76 (.sc (.int .i64 128)) fun t78 =>
   p.guard t78 false H (fun k' => k' t76 H) fun t80 H =>
   p.guard t78 false H (fun k' => p.bin .gtr t80 (.sc (.int .i64 191)) fun t' => k' t' H) fun t81 H =>
   p.pick t78 (.sc (.bool true)) t81 fun t82 =>
   p.cond t82
   (k (packA [(.sc (.int .i64 0)), (.sc (.int .i64 0)), (.sc (.bool false))]) H)
   (p.bin .mul t10 (.sc (.int .i64 64)) fun t84 =>
   p.bin .add t84 t76 fun t86 =>
   p.bin .sub t86 (.sc (.int .i64 128)) fun t87 =>
   p.bin .add t11 (.sc (.int .i64 1)) fun t69 =>
   f172_l0 p n  k m t0 t1 t8 t9 t87 t69 H))
   (p.bin .lss t10 t9 fun t90 =>
   p.guard t90 false H (fun k' => k' t10 H) fun t92 H =>
   p.guard t90 false H (fun k' => p.bin .gtr t92 (.sc (.int .i64 1114111)) fun t' => k' t' H) fun t93 H =>
   p.pick t90 (.sc (.bool true)) t93 fun t94 =>
   p.guard t94 false H (fun k' => k' t10 H) fun t96 H =>
   p.guard t94 false H (fun k' => p.call 4 (.fn 83 [] []) [t96, (.sc (.int .i64 55296)), (.sc (.int .i64 57343))] H fun t' H => k' t' H) fun t97 H =>
   p.pick t94 (.sc (.bool true)) t97 fun t98 =>
   p.cond t98
   (k (packA [(.sc (.int .i64 0)), (.sc (.int .i64 0)), (.sc (.bool false))]) H)
   (p.bin .add t1 (.sc (.int .i64 1)) fun t101 =>
   p.bin .add t101 t8 fun t103 =>
   k (packA [t10, t103, (.sc (.bool true))]) H))
noncomputable def f172 (p : Pr β) (n : Nat) (a0 a1 : AV) (H : Heap) (k : AV → Heap → Option β) : Option β :=
 p.bin .lss a1 (.sc (.int .i64 0)) fun t14 =>
 p.guard t14 false H (fun k' => k' a1 H) fun t16 H =>
 p.guard t14 false H (fun k' => k' a0 H) fun t17 H =>
 p.guard t14 false H (fun k' => p.len t17 fun t' => k' t' H) fun t18 H =>
 p.guard t14 false H (fun k' => p.bin .geq t16 t18 fun t' => k' t' H) fun t19 H =>
 p.pick t14 (.sc (.bool true)) t19 fun t20 =>
 p.cond t20
 (k (packA [(.sc (.int .i64 0)), (.sc (.int .i64 0)), (.sc (.bool false))]) H)
 (p.iadr 1 a0 a1 fun t23 =>
 p.load false 1 t23 H fun t24 =>
 p.cvI .i64 t24 fun t25 =>
 p.bin .lss t25 (.sc (.int .i64 128)) fun t27 =>
 p.cond t27
 (p.bin .add a1 (.sc (.int .i64 1)) fun t30 =>
 k (packA [t25, t30, (.sc (.bool true))]) H)
 (p.bin .geq t25 (.sc (.int .i64 192)) fun t33 =>
 p.guard t33 true H (fun k' => k' t25 H) fun t35 H =>
 p.guard t33 true H (fun k' => p.bin .lss t35 (.sc (.int .i64 224)) fun t' => k' t' H) fun t36 H =>
 p.pick t33 t36 (.sc (.bool false)) fun t37 =>
 p.cond t37
 (p.bin .and t25 (.sc (.int .i64 31)) fun t39 =>
 p.len a0 fun t60 =>
 p.bin .sub t60 (.sc (.int .i64 1)) fun t61 =>
 p.bin .sub t61 (.sc (.int .i64 1)) fun t63 =>
 p.bin .gtr a1 t63 fun t64 =>
 p.cond t64
 (k (packA [(.sc (.int .i64 0)), (.sc (.int .i64 0)), (.sc (.bool false))]) H)
 (f172_l0 p n  k n a0 a1 (.sc (.int .i64 1)) (.sc (.int .i64 128)) t39 (.sc (.int .i64 1)) H))
 (p.bin .geq t25 (.sc (.int .i64 224)) fun t42 =>
 p.guard t42 true H (fun k' => k' t25 H) fun t44 H =>
 p.guard t42 true H (fun k' => p.bin .lss t44 (.sc (.int .i64 240)) fun t' => k' t' H) fun t45 H =>
 p.pick t42 t45 (.sc (.bool false)) fun t46 =>
 p.cond t46
 (p.bin .and t25 (.sc (.int .i64 15)) fun t48 =>
 p.len a0 fun t60 =>
 p.bin .sub t60 (.sc (.int .i64 1)) fun t61 =>
 p.bin .sub t61 (.sc (.int .i64 2)) fun t63 =>
 p.bin .gtr a1 t63 fun t64 =>
 p.cond t64
 (k (packA [(.sc (.int .i64 0)), (.sc (.int .i64 0)), (.sc (.bool false))]) H)
 (f172_l0 p n  k n a0 a1 (.sc (.int .i64 2)) (.sc (.int .i64 2048)) t48 (.sc (.int .i64 1)) H))
 (p.bin .geq t25 (.sc (.int .i64 240)) fun t51 =>
 p.guard t51 true H (fun k' => k' t25 H) fun t53 H =>
 p.guard t51 true H (fun k' => p.bin .lss t53 (.sc (.int .i64 248)) fun t' => k' t' H) fun t54 H =>
 p.pick t51 t54 (.sc (.bool false)) fun t55 =>
 p.cond t55
 (p.bin .and t25 (.sc (.int .i64 7)) fun t57 =>
 p.len a0 fun t60 =>
 p.bin .sub t60 (.sc (.int .i64 1)) fun t61 =>
 p.bin .sub t61 (.sc (.int .i64 3)) fun t63 =>
 p.bin .gtr a1 t63 fun t64 =>
 p.cond t64
 (k (packA [(.sc (.int .i64 0)), (.sc (.int .i64 0)), (.sc (.bool false))]) H)
 (f172_l0 p n  k n a0 a1 (.sc (.int .i64 3)) (.sc (.int .i64 65536)) t57 (.sc (.int .i64 1)) H))
 (k (packA [(.sc (.int .i64 0)), (.sc (.int .i64 0)), (.sc (.bool false))]) H)))))
noncomputable def f172_L0 (p : Pr β) (n : Nat)  (k : AV → Heap → Option β) (m : Nat) (tm : Tm) (H : Heap) : Option β :=
 iterC 104 (fun tm H k => evalCode ti0 p o172 104 n (cd c172 [1, 1, 1, 1, 1, 1, 1, 1, 1, 0, 1, 0, 0]) tm H k) (blkK 1 (seqK (fun tm H => evalCode ti0 p o172 104 n (cd c172 [1, 1, 1, 1, 1, 1, 1, 1, 1, 1]) tm H (endK ti0 p Go.Proofs.Tryz.f172.results.toList k)) (endK ti0 p Go.Proofs.Tryz.f172.results.toList k))) m tm H
theorem f172_L0_step (p : Pr β) (n : Nat)  (k : AV → Heap → Option β) (m0 : Nat) (t0 t1 t2 t3 t4 t5 t6 t7 t8 t9 t10 t11 t12 t13 t14 t15 t16 t17 t18 t19 t20 t21 t22 t23 t24 t25 t26 t27 t28 t29 t30 t31 t32 t33 t34 t35 t36 t37 t38 t39 t40 t41 t42 t43 t44 t45 t46 t47 t48 t49 t50 t51 t52 t53 t54 t55 t56 t57 t58 t59 t60 t61 t62 t63 t64 t65 t66 t67 t68 t69 t70 t71 t72 t73 t74 t75 t76 t77 t78 t79 t80 t81 t82 t83 t84 t85 t86 t87 t88 t89 t90 t91 t92 t93 t94 t95 t96 t97 t98 t99 t100 t101 t102 t103 : AV) (H : Heap) : f172_L0 p n  k (m0 + 1) (tz [t0, t1, t2, t3, t4, t5, t6, t7, t8, t9, t10, t11, t12, t13, t14, t15, t16, t17, t18, t19, t20, t21, t22, t23, t24, t25, t26, t27, t28, t29, t30, t31, t32, t33, t34, t35, t36, t37, t38, t39, t40, t41, t42, t43, t44, t45, t46, t47, t48, t49, t50, t51, t52, t53, t54, t55, t56, t57, t58, t59, t60, t61, t62, t63, t64, t65, t66, t67, t68, t69, t70, t71, t72, t73, t74, t75, t76, t77, t78, t79, t80, t81, t82, t83, t84, t85, t86, t87, t88, t89, t90, t91, t92, t93, t94, t95, t96, t97, t98, t99, t100, t101, t102, t103]) H =
 p.bin .leq t11 t8 fun t67 =>
 p.cond t67
 (p.bin .add t1 t11 fun t73 =>
 p.iadr 1 t0 t73 fun t74 =>
 p.load false 1 t74 H fun t75 =>
 p.cvI .i64 t75 fun t76 =>
 p.bin .lss t76 (.sc (.int .i64 128)) fun t78 =>
 p.guard t78 false H (fun k' => k' t76 H) fun t80 H =>
 p.guard t78 false H (fun k' => p.bin .gtr t80 (.sc (.int .i64 191)) fun t' => k' t' H) fun t81 H =>
 p.pick t78 (.sc (.bool true)) t81 fun t82 =>
 p.cond t82
 (k (packA [(.sc (.int .i64 0)), (.sc (.int .i64 0)), (.sc (.bool false))]) H)
 (p.bin .mul t10 (.sc (.int .i64 64)) fun t84 =>
 p.bin .add t84 t76 fun t86 =>
 p.bin .sub t86 (.sc (.int .i64 128)) fun t87 =>
 p.bin .add t11 (.sc (.int .i64 1)) fun t69 =>
 f172_L0 p n  k m0 (tz [t0, t1, t2, t3, t4, t5, t6, t7, t8, t9, t87, t69, t76, t13, t14, t15, t16, t17, t18, t19, t20, t21, t22, t23, t24, t25, t26, t27, t28, t29, t30, t31, t32, t33, t34, t35, t36, t37, t38, t39, t40, t41, t42, t43, t44, t45, t46, t47, t48, t49, t50, t51, t52, t53, t54, t55, t56, t57, t58, t59, t60, t61, t62, t63, t64, t11, t8, t67, t11, t69, t0, t1, t11, t73, t74, t75, t76, t76, t78, t78, t80, t81, t82, t10, t84, t76, t86, t87, t88, t89, t90, t91, t92, t93, t94, t95, t96, t97, t98, t99, t100, t101, t102, t103]) H))
 (p.bin .lss t10 t9 fun t90 =>
 p.guard t90 false H (fun k' => k' t10 H) fun t92 H =>
 p.guard t90 false H (fun k' => p.bin .gtr t92 (.sc (.int .i64 1114111)) fun t' => k' t' H) fun t93 H =>
 p.pick t90 (.sc (.bool true)) t93 fun t94 =>
 p.guard t94 false H (fun k' => k' t10 H) fun t96 H =>
 p.guard t94 false H (fun k' => p.call 4 (.fn 83 [] []) [t96, (.sc (.int .i64 55296)), (.sc (.int .i64 57343))] H fun t' H => k' t' H) fun t97 H =>
 p.pick t94 (.sc (.bool true)) t97 fun t98 =>
 p.cond t98
 (k (packA [(.sc (.int .i64 0)), (.sc (.int .i64 0)), (.sc (.bool false))]) H)
 (p.bin .add t1 (.sc (.int .i64 1)) fun t101 =>
 p.bin .add t101 t8 fun t103 =>
 k (packA [t10, t103, (.sc (.bool true))]) H)) := by kernel_rfl
theorem f172_l0_eq (p : Pr β) (n : Nat)  (k : AV → Heap → Option β)   (m0 : Nat) : ∀ (t0 t1 t2 t3 t4 t5 t6 t7 t8 t9 t10 t11 t12 t13 t14 t15 t16 t17 t18 t19 t20 t21 t22 t23 t24 t25 t26 t27 t28 t29 t30 t31 t32 t33 t34 t35 t36 t37 t38 t39 t40 t41 t42 t43 t44 t45 t46 t47 t48 t49 t50 t51 t52 t53 t54 t55 t56 t57 t58 t59 t60 t61 t62 t63 t64 t65 t66 t67 t68 t69 t70 t71 t72 t73 t74 t75 t76 t77 t78 t79 t80 t81 t82 t83 t84 t85 t86 t87 t88 t89 t90 t91 t92 t93 t94 t95 t96 t97 t98 t99 t100 t101 t102 t103 : AV) (H : Heap), f172_L0 p n  k m0 (tz [t0, t1, t2, t3, t4, t5, t6, t7, t8, t9, t10, t11, t12, t13, t14, t15, t16, t17, t18, t19, t20, t21, t22, t23, t24, t25, t26, t27, t28, t29, t30, t31, t32, t33, t34, t35, t36, t37, t38, t39, t40, t41, t42, t43, t44, t45, t46, t47, t48, t49, t50, t51, t52, t53, t54, t55, t56, t57, t58, t59, t60, t61, t62, t63, t64, t65, t66, t67, t68, t69, t70, t71, t72, t73, t74, t75, t76, t77, t78, t79, t80, t81, t82, t83, t84, t85, t86, t87, t88, t89, t90, t91, t92, t93, t94, t95, t96, t97, t98, t99, t100, t101, t102, t103]) H = f172_l0 p n  k m0 t0 t1 t8 t9 t10 t11 H := by
 induction m0 with
 | zero => intros; rfl
 | succ m0 ih =>
  intro t0 t1 t2 t3 t4 t5 t6 t7 t8 t9 t10 t11 t12 t13 t14 t15 t16 t17 t18 t19 t20 t21 t22 t23 t24 t25 t26 t27 t28 t29 t30 t31 t32 t33 t34 t35 t36 t37 t38 t39 t40 t41 t42 t43 t44 t45 t46 t47 t48 t49 t50 t51 t52 t53 t54 t55 t56 t57 t58 t59 t60 t61 t62 t63 t64 t65 t66 t67 t68 t69 t70 t71 t72 t73 t74 t75 t76 t77 t78 t79 t80 t81 t82 t83 t84 t85 t86 t87 t88 t89 t90 t91 t92 t93 t94 t95 t96 t97 t98 t99 t100 t101 t102 t103 H
  rw [f172_L0_step]
  simp only [ih]
  rfl
theorem f172_raw (p : Pr β) (n : Nat) (a0 a1 : AV) (H : Heap) (k : AV → Heap → Option β) : evalBody ti0 p n ⟨c172, 104, Go.Proofs.Tryz.f172.results.toList, o172⟩ [a0, a1] H k =
 p.bin .lss a1 (.sc (.int .i64 0)) fun t14 =>
 p.guard t14 false H (fun k' => k' a1 H) fun t16 H =>
 p.guard t14 false H (fun k' => k' a0 H) fun t17 H =>
 p.guard t14 false H (fun k' => p.len t17 fun t' => k' t' H) fun t18 H =>
 p.guard t14 false H (fun k' => p.bin .geq t16 t18 fun t' => k' t' H) fun t19 H =>
 p.pick t14 (.sc (.bool true)) t19 fun t20 =>
 p.cond t20
 (k (packA [(.sc (.int .i64 0)), (.sc (.int .i64 0)), (.sc (.bool false))]) H)
 (p.iadr 1 a0 a1 fun t23 =>
 p.load false 1 t23 H fun t24 =>
 p.cvI .i64 t24 fun t25 =>
 p.bin .lss t25 (.sc (.int .i64 128)) fun t27 =>
 p.cond t27
 (p.bin .add a1 (.sc (.int .i64 1)) fun t30 =>
 k (packA [t25, t30, (.sc (.bool true))]) H)
 (p.bin .geq t25 (.sc (.int .i64 192)) fun t33 =>
 p.guard t33 true H (fun k' => k' t25 H) fun t35 H =>
 p.guard t33 true H (fun k' => p.bin .lss t35 (.sc (.int .i64 224)) fun t' => k' t' H) fun t36 H =>
 p.pick t33 t36 (.sc (.bool false)) fun t37 =>
 p.cond t37
 (p.bin .and t25 (.sc (.int .i64 31)) fun t39 =>
 p.len a0 fun t60 =>
 p.bin .sub t60 (.sc (.int .i64 1)) fun t61 =>
 p.bin .sub t61 (.sc (.int .i64 1)) fun t63 =>
 p.bin .gtr a1 t63 fun t64 =>
 p.cond t64
 (k (packA [(.sc (.int .i64 0)), (.sc (.int .i64 0)), (.sc (.bool false))]) H)
 (f172_L0 p n  k n (tz [a0, a1, uu, uu, (.sc (.int .i64 0)), (.sc (.int .i64 0)), (.sc (.bool false)), t25, (.sc (.int .i64 1)), (.sc (.int .i64 128)), t39, (.sc (.int .i64 1)), uu, a1, t14, t14, t16, t17, t18, t19, t20, a0, a1, t23, t24, t25, t25, t27, uu, uu, uu, t37, t25, t33, t33, t35, t36, t37, t25, t39, uu, uu, uu, uu, uu, uu, uu, uu, uu, uu, uu, uu, uu, uu, uu, uu, uu, uu, a1, a0, t60, t61, (.sc (.int .i64 1)), t63, t64, uu, uu, uu, uu, uu, uu, uu, uu, uu, uu, uu, uu, uu, uu, uu, uu, uu, uu, uu, uu, uu, uu, uu, uu, uu, uu, uu, uu, uu, uu, uu, uu, uu, uu, uu, uu, uu, uu, uu]) H))
 (p.bin .geq t25 (.sc (.int .i64 224)) fun t42 =>
 p.guard t42 true H (fun k' => k' t25 H) fun t44 H =>
 p.guard t42 true H (fun k' => p.bin .lss t44 (.sc (.int .i64 240)) fun t' => k' t' H) fun t45 H =>
 p.pick t42 t45 (.sc (.bool false)) fun t46 =>
 p.cond t46
 (p.bin .and t25 (.sc (.int .i64 15)) fun t48 =>
 p.len a0 fun t60 =>
 p.bin .sub t60 (.sc (.int .i64 1)) fun t61 =>
 p.bin .sub t61 (.sc (.int .i64 2)) fun t63 =>
 p.bin .gtr a1 t63 fun t64 =>
 p.cond t64
 (k (packA [(.sc (.int .i64 0)), (.sc (.int .i64 0)), (.sc (.bool false))]) H)
 (f172_L0 p n  k n (tz [a0, a1, uu, uu, (.sc (.int .i64 0)), (.sc (.int .i64 0)), (.sc (.bool false)), t25, (.sc (.int .i64 2)), (.sc (.int .i64 2048)), t48, (.sc (.int .i64 1)), uu, a1, t14, t14, t16, t17, t18, t19, t20, a0, a1, t23, t24, t25, t25, t27, uu, uu, uu, t37, t25, t33, t33, t35, t36, t37, uu, uu, t46, t25, t42, t42, t44, t45, t46, t25, t48, uu, uu, uu, uu, uu, uu, uu, uu, uu, a1, a0, t60, t61, (.sc (.int .i64 2)), t63, t64, uu, uu, uu, uu, uu, uu, uu, uu, uu, uu, uu, uu, uu, uu, uu, uu, uu, uu, uu, uu, uu, uu, uu, uu, uu, uu, uu, uu, uu, uu, uu, uu, uu, uu, uu, uu, uu, uu, uu]) H))
 (p.bin .geq t25 (.sc (.int .i64 240)) fun t51 =>
 p.guard t51 true H (fun k' => k' t25 H) fun t53 H =>
 p.guard t51 true H (fun k' => p.bin .lss t53 (.sc (.int .i64 248)) fun t' => k' t' H) fun t54 H =>
 p.pick t51 t54 (.sc (.bool false)) fun t55 =>
 p.cond t55
 (p.bin .and t25 (.sc (.int .i64 7)) fun t57 =>
 p.len a0 fun t60 =>
 p.bin .sub t60 (.sc (.int .i64 1)) fun t61 =>
 p.bin .sub t61 (.sc (.int .i64 3)) fun t63 =>
 p.bin .gtr a1 t63 fun t64 =>
 p.cond t64
 (k (packA [(.sc (.int .i64 0)), (.sc (.int .i64 0)), (.sc (.bool false))]) H)
 (f172_L0 p n  k n (tz [a0, a1, uu, uu, (.sc (.int .i64 0)), (.sc (.int .i64 0)), (.sc (.bool false)), t25, (.sc (.int .i64 3)), (.sc (.int .i64 65536)), t57, (.sc (.int .i64 1)), uu, a1, t14, t14, t16, t17, t18, t19, t20, a0, a1, t23, t24, t25, t25, t27, uu, uu, uu, t37, t25, t33, t33, t35, t36, t37, uu, uu, t46, t25, t42, t42, t44, t45, t46, uu, uu, t55, t25, t51, t51, t53, t54, t55, t25, t57, a1, a0, t60, t61, (.sc (.int .i64 3)), t63, t64, uu, uu, uu, uu, uu, uu, uu, uu, uu, uu, uu, uu, uu, uu, uu, uu, uu, uu, uu, uu, uu, uu, uu, uu, uu, uu, uu, uu, uu, uu, uu, uu, uu, uu, uu, uu, uu, uu, uu]) H))
 (k (packA [(.sc (.int .i64 0)), (.sc (.int .i64 0)), (.sc (.bool false))]) H))))) := by kernel_rfl
theorem f172_body (p : Pr β) (n : Nat) (a0 a1 : AV) (H : Heap) (k : AV → Heap → Option β) : evalBody ti0 p n ⟨c172, 104, Go.Proofs.Tryz.f172.results.toList, o172⟩ [a0, a1] H k = f172 p n a0 a1 H k := by
 rw [f172_raw]
 simp only [f172_l0_eq]
 rfl
noncomputable def f141_l0 (p : Pr β) (n : Nat)  (k : AV → Heap → Option β) : Nat → AV → AV → AV → Heap → Option β
 | 0, _, _, _, _ => none
 | m + 1, t3, t4, t5, H => p.len t3 fun t16 =>
   p.bin .lss t5 t16 fun t17 =>
   p.cond t17
   (p.call 177 (.fn 172 [] []) [t3, t5] H fun t21 H =>
   p.extr t21 0 fun t22 =>
   p.extr t21 1 fun t23 =>
   p.extr t21 2 fun t24 =>
   p.un .not t24 fun t26 =>
   p.guard t26 false H (fun k' => k' t22 H) fun t28 H =>
   p.guard t26 false H (fun k' => p.bin .eql t28 (.sc (.int .i64 0)) fun t' => k' t' H) fun t29 H =>
   p.pick t26 (.sc (.bool true)) t29 fun t30 =>
   p.cond t30
   (k (.sc (.int .i64 (-1))) H)
   (p.bin .add t4 (.sc (.int .i64 1)) fun t33 =>
   f141_l0 p n  k m t3 t33 t23 H))
   (k t4 H)
noncomputable def f141 (p : Pr β) (n : Nat) (a0 : AV) (H : Heap) (k : AV → Heap → Option β) : Option β :=
 p.lenS a0 fun t10 =>
 p.bin .gtr t10 (.sc (.int .i64 60)) fun t11 =>
 p.cond t11
 (k (.sc (.int .i64 (-1))) H)
 (p.cvSB a0 H fun t13 H =>
 f141_l0 p n  k n t13 (.sc (.int .i64 0)) (.sc (.int .i64 0)) H)
noncomputable def f141_L0 (p : Pr β) (n : Nat)  (k : AV → Heap → Option β) (m : Nat) (tm : Tm) (H : Heap) : Option β :=
 iterC 35 (fun tm H k => evalCode ti0 p o141 35 n (cd c141 [1, 1, 1, 1, 0, 1, 0, 0]) tm H k) (blkK 0 (seqK (fun tm H => evalCode ti0 p o141 35 n (cd c141 [1, 1, 1, 1, 1]) tm H (endK ti0 p Go.Proofs.Tryz.f141.results.toList k)) (endK ti0 p Go.Proofs.Tryz.f141.results.toList k))) m tm H
theorem f141_L0_step (p : Pr β) (n : Nat)  (k : AV → Heap → Option β) (m0 : Nat) (t0 t1 t2 t3 t4 t5 t6 t7 t8 t9 t10 t11 t12 t13 t14 t15 t16 t17 t18 t19 t20 t21 t22 t23 t24 t25 t26 t27 t28 t29 t30 t31 t32 t33 t34 : AV) (H : Heap) : f141_L0 p n  k (m0 + 1) (tz [t0, t1, t2, t3, t4, t5, t6, t7, t8, t9, t10, t11, t12, t13, t14, t15, t16, t17, t18, t19, t20, t21, t22, t23, t24, t25, t26, t27, t28, t29, t30, t31, t32, t33, t34]) H =
 p.len t3 fun t16 =>
 p.bin .lss t5 t16 fun t17 =>
 p.cond t17
 (p.call 177 (.fn 172 [] []) [t3, t5] H fun t21 H =>
 p.extr t21 0 fun t22 =>
 p.extr t21 1 fun t23 =>
 p.extr t21 2 fun t24 =>
 p.un .not t24 fun t26 =>
 p.guard t26 false H (fun k' => k' t22 H) fun t28 H =>
 p.guard t26 false H (fun k' => p.bin .eql t28 (.sc (.int .i64 0)) fun t' => k' t' H) fun t29 H =>
 p.pick t26 (.sc (.bool true)) t29 fun t30 =>
 p.cond t30
 (k (.sc (.int .i64 (-1))) H)
 (p.bin .add t4 (.sc (.int .i64 1)) fun t33 =>
 f141_L0 p n  k m0 (tz [t0, t1, t2, t3, t33, t23, t22, t23, t24, t9, t10, t11, t12, t13, t5, t3, t16, t17, t21, t3, t5, t21, t22, t23, t24, t24, t26, t26, t28, t29, t30, t23, t4, t33, t34]) H))
 (k t4 H) := by kernel_rfl
theorem f141_l0_eq (p : Pr β) (n : Nat)  (k : AV → Heap → Option β)   (m0 : Nat) : ∀ (t0 t1 t2 t3 t4 t5 t6 t7 t8 t9 t10 t11 t12 t13 t14 t15 t16 t17 t18 t19 t20 t21 t22 t23 t24 t25 t26 t27 t28 t29 t30 t31 t32 t33 t34 : AV) (H : Heap), f141_L0 p n  k m0 (tz [t0, t1, t2, t3, t4, t5, t6, t7, t8, t9, t10, t11, t12, t13, t14, t15, t16, t17, t18, t19, t20, t21, t22, t23, t24, t25, t26, t27, t28, t29, t30, t31, t32, t33, t34]) H = f141_l0 p n  k m0 t3 t4 t5 H := by
 induction m0 with
 | zero => intros; rfl
 | succ m0 ih =>
  intro t0 t1 t2 t3 t4 t5 t6 t7 t8 t9 t10 t11 t12 t13 t14 t15 t16 t17 t18 t19 t20 t21 t22 t23 t24 t25 t26 t27 t28 t29 t30 t31 t32 t33 t34 H
  rw [f141_L0_step]
  simp only [ih]
  rfl
theorem f141_raw (p : Pr β) (n : Nat) (a0 : AV) (H : Heap) (k : AV → Heap → Option β) : evalBody ti0 p n ⟨c141, 35, Go.Proofs.Tryz.f141.results.toList, o141⟩ [a0] H k =
 p.lenS a0 fun t10 =>
 p.bin .gtr t10 (.sc (.int .i64 60)) fun t11 =>
 p.cond t11
 (k (.sc (.int .i64 (-1))) H)
 (p.cvSB a0 H fun t13 H =>
 f141_L0 p n  k n (tz [a0, uu, (.sc (.int .i64 0)), t13, (.sc (.int .i64 0)), (.sc (.int .i64 0)), uu, uu, uu, a0, t10, t11, a0, t13, uu, uu, uu, uu, uu, uu, uu, uu, uu, uu, uu, uu, uu, uu, uu, uu, uu, uu, uu, uu, uu]) H) := by kernel_rfl
theorem f141_body (p : Pr β) (n : Nat) (a0 : AV) (H : Heap) (k : AV → Heap → Option β) : evalBody ti0 p n ⟨c141, 35, Go.Proofs.Tryz.f141.results.toList, o141⟩ [a0] H k = f141 p n a0 H k := by
 rw [f141_raw]
 simp only [f141_l0_eq]
 rfl
noncomputable def f82 (p : Pr β) (n : Nat) (a0 : AV) (H : Heap) (k : AV → Heap → Option β) : Option β :=
 p.call 3 (.fn 141 [] []) [a0] H fun t4 H =>
 p.bin .geq t4 (.sc (.int .i64 0)) fun t5 =>
 k t5 H
theorem f82_body (p : Pr β) (n : Nat) (a0 : AV) (H : Heap) (k : AV → Heap → Option β) : evalBody ti0 p n ⟨c82, 6, Go.Proofs.Tryz.f82.results.toList, o82⟩ [a0] H k = f82 p n a0 H k := by kernel_rfl
noncomputable def f190_l0 (p : Pr β) (n : Nat)  (k : AV → Heap → Option β) : Nat → AV → AV → AV → Heap → Option β
 | 0, _, _, _, _ => none
 | m + 1, t0, t1, t5, H => p.lenS t0 fun t8 =>
   p.bin .lss t5 t8 fun t9 =>
   p.cond t9
   (p.idx t0 t5 fun t14 =>
   p.bin .eql t14 t1 fun t16 =>
   p.cond t16
   (k (.sc (.bool true)) H)
   (p.bin .add t5 (.sc (.int .i64 1)) fun t11 =>
   f190_l0 p n  k m t0 t1 t11 H))
   (k (.sc (.bool false)) H)
noncomputable def f190 (p : Pr β) (n : Nat) (a0 a1 : AV) (H : Heap) (k : AV → Heap → Option β) : Option β :=
 f190_l0 p n  k n a0 a1 (.sc (.int .i64 0)) H
noncomputable def f190_L0 (p : Pr β) (n : Nat)  (k : AV → Heap → Option β) (m : Nat) (tm : Tm) (H : Heap) : Option β :=
 iterC 17 (fun tm H k => evalCode ti0 p o190 17 n (cd c190 [1, 0, 1, 0, 0]) tm H k) (blkK 0 (seqK (fun tm H => evalCode ti0 p o190 17 n (cd c190 [1, 1]) tm H (endK ti0 p Go.Proofs.Tryz.f190.results.toList k)) (endK ti0 p Go.Proofs.Tryz.f190.results.toList k))) m tm H
theorem f190_L0_step (p : Pr β) (n : Nat)  (k : AV → Heap → Option β) (m0 : Nat) (t0 t1 t2 t3 t4 t5 t6 t7 t8 t9 t10 t11 t12 t13 t14 t15 t16 : AV) (H : Heap) : f190_L0 p n  k (m0 + 1) (tz [t0, t1, t2, t3, t4, t5, t6, t7, t8, t9, t10, t11, t12, t13, t14, t15, t16]) H =
 p.lenS t0 fun t8 =>
 p.bin .lss t5 t8 fun t9 =>
 p.cond t9
 (p.idx t0 t5 fun t14 =>
 p.bin .eql t14 t1 fun t16 =>
 p.cond t16
 (k (.sc (.bool true)) H)
 (p.bin .add t5 (.sc (.int .i64 1)) fun t11 =>
 f190_L0 p n  k m0 (tz [t0, t1, t2, t3, t4, t11, t5, t0, t8, t9, t5, t11, t0, t5, t14, t1, t16]) H))
 (k (.sc (.bool false)) H) := by kernel_rfl
theorem f190_l0_eq (p : Pr β) (n : Nat)  (k : AV → Heap → Option β)   (m0 : Nat) : ∀ (t0 t1 t2 t3 t4 t5 t6 t7 t8 t9 t10 t11 t12 t13 t14 t15 t16 : AV) (H : Heap), f190_L0 p n  k m0 (tz [t0, t1, t2, t3, t4, t5, t6, t7, t8, t9, t10, t11, t12, t13, t14, t15, t16]) H = f190_l0 p n  k m0 t0 t1 t5 H := by
 induction m0 with
 | zero => intros; rfl
 | succ m0 ih =>
  intro t0 t1 t2 t3 t4 t5 t6 t7 t8 t9 t10 t11 t12 t13 t14 t15 t16 H
  rw [f190_L0_step]
  simp only [ih]
  rfl
theorem f190_raw (p : Pr β) (n : Nat) (a0 a1 : AV) (H : Heap) (k : AV → Heap → Option β) : evalBody ti0 p n ⟨c190, 17, Go.Proofs.Tryz.f190.results.toList, o190⟩ [a0, a1] H k =
 f190_L0 p n  k n (tz [a0, a1, uu, uu, (.sc (.bool false)), (.sc (.int .i64 0)), uu, uu, uu, uu, uu, uu, uu, uu, uu, uu, uu]) H := by kernel_rfl
theorem f190_body (p : Pr β) (n : Nat) (a0 a1 : AV) (H : Heap) (k : AV → Heap → Option β) : evalBody ti0 p n ⟨c190, 17, Go.Proofs.Tryz.f190.results.toList, o190⟩ [a0, a1] H k = f190 p n a0 a1 H k := by
 rw [f190_raw]
 simp only [f190_l0_eq]
 rfl
noncomputable def f191_l0 (p : Pr β) (n : Nat)  (k : AV → Heap → Option β) : Nat → AV → AV → AV → AV → Heap → Option β
 | 0, _, _, _, _, _ => none
 | m + 1, t0, t3, t4, t5, H => p.lenS t0 fun t9 =>
   p.bin .leq t5 t9 fun t10 =>
   p.cond t10
   (p.lenS t0 fun t15 =>
   p.bin .eql t5 t15 fun t16 =>
   p.guard t16 false H (fun k' => k' t0 H) fun t18 H =>
   p.guard t16 false H (fun k' => k' t5 H) fun t19 H =>
   p.guard t16 false H (fun k' => p.idx t18 t19 fun t' => k' t' H) fun t20 H =>
   p.guard t16 false H (fun k' => p.bin .eql t20 (.sc (.int .u8 47)) fun t' => k' t' H) fun t21 H =>
   p.pick t16 (.sc (.bool true)) t21 fun t22 =>
   p.cond t22
   (p.sliceS t0 (some t4) (some t5) fun t27 =>
   p.fill [(.sc (.string ⟨#[]⟩))] [(0, 1, t27)] fun ct28 => p.newSl 1 1 ct28 true H fun t28 H =>
   p.app 1 16 t3 t28 H fun t29 H =>
   p.bin .add t5 (.sc (.int .i64 1)) fun t31 =>
   p.bin .add t5 (.sc (.int .i64 1)) fun t12 =>
   f191_l0 p n  k m t0 t29 t31 t12 H)
   (p.bin .add t5 (.sc (.int .i64 1)) fun t12 =>
   f191_l0 p n  k m t0 t3 t4 t12 H))
   (k t3 H)
noncomputable def f191 (p : Pr β) (n : Nat) (a0 : AV) (H : Heap) (k : AV → Heap → Option β) : Option β :=
 f191_l0 p n  k n a0 .nl (.sc (.int .i64 0)) (.sc (.int .i64 0)) H
noncomputable def f191_L0 (p : Pr β) (n : Nat)  (k : AV → Heap → Option β) (m : Nat) (tm : Tm) (H : Heap) : Option β :=
 iterC 33 (fun tm H k => evalCode ti0 p o191 33 n (cd c191 [1, 1, 1, 0, 1, 0, 0]) tm H k) (blkK 0 (seqK (fun tm H => evalCode ti0 p o191 33 n (cd c191 [1, 1, 1, 1]) tm H (endK ti0 p Go.Proofs.Tryz.f191.results.toList k)) (endK ti0 p Go.Proofs.Tryz.f191.results.toList k))) m tm H
theorem f191_L0_step (p : Pr β) (n : Nat)  (k : AV → Heap → Option β) (m0 : Nat) (t0 t1 t2 t3 t4 t5 t6 t7 t8 t9 t10 t11 t12 t13 t14 t15 t16 t17 t18 t19 t20 t21 t22 t23 t24 t25 t26 t27 t28 t29 t30 t31 t32 : AV) (H : Heap) : f191_L0 p n  k (m0 + 1) (tz [t0, t1, t2, t3, t4, t5, t6, t7, t8, t9, t10, t11, t12, t13, t14, t15, t16, t17, t18, t19, t20, t21, t22, t23, t24, t25, t26, t27, t28, t29, t30, t31, t32]) H =
 p.lenS t0 fun t9 =>
 p.bin .leq t5 t9 fun t10 =>
 p.cond t10
 (p.lenS t0 fun t15 =>
 p.bin .eql t5 t15 fun t16 =>
 p.guard t16 false H (fun k' => k' t0 H) fun t18 H =>
 p.guard t16 false H (fun k' => k' t5 H) fun t19 H =>
 p.guard t16 false H (fun k' => p.idx t18 t19 fun t' => k' t' H) fun t20 H =>
 p.guard t16 false H (fun k' => p.bin .eql t20 (.sc (.int .u8 47)) fun t' => k' t' H) fun t21 H =>
 p.pick t16 (.sc (.bool true)) t21 fun t22 =>
 p.cond t22
 (p.sliceS t0 (some t4) (some t5) fun t27 =>
 p.fill [(.sc (.string ⟨#[]⟩))] [(0, 1, t27)] fun ct28 => p.newSl 1 1 ct28 true H fun t28 H =>
 p.app 1 16 t3 t28 H fun t29 H =>
 p.bin .add t5 (.sc (.int .i64 1)) fun t31 =>
 p.bin .add t5 (.sc (.int .i64 1)) fun t12 =>
 f191_L0 p n  k m0 (tz [t0, t1, t2, t29, t31, t12, t6, t5, t0, t9, t10, t5, t12, t5, t0, t15, t16, t16, t18, t19, t20, t21, t22, t3, t0, t4, t5, t27, t28, t29, t5, t31, t32]) H)
 (p.bin .add t5 (.sc (.int .i64 1)) fun t12 =>
 f191_L0 p n  k m0 (tz [t0, t1, t2, t3, t4, t12, t6, t5, t0, t9, t10, t5, t12, t5, t0, t15, t16, t16, t18, t19, t20, t21, t22, t23, t24, t25, t26, t27, t28, t29, t30, t31, t32]) H))
 (k t3 H) := by kernel_rfl
theorem f191_l0_eq (p : Pr β) (n : Nat)  (k : AV → Heap → Option β)   (m0 : Nat) : ∀ (t0 t1 t2 t3 t4 t5 t6 t7 t8 t9 t10 t11 t12 t13 t14 t15 t16 t17 t18 t19 t20 t21 t22 t23 t24 t25 t26 t27 t28 t29 t30 t31 t32 : AV) (H : Heap), f191_L0 p n  k m0 (tz [t0, t1, t2, t3, t4, t5, t6, t7, t8, t9, t10, t11, t12, t13, t14, t15, t16, t17, t18, t19, t20, t21, t22, t23, t24, t25, t26, t27, t28, t29, t30, t31, t32]) H = f191_l0 p n  k m0 t0 t3 t4 t5 H := by
 induction m0 with
 | zero => intros; rfl
 | succ m0 ih =>
  intro t0 t1 t2 t3 t4 t5 t6 t7 t8 t9 t10 t11 t12 t13 t14 t15 t16 t17 t18 t19 t20 t21 t22 t23 t24 t25 t26 t27 t28 t29 t30 t31 t32 H
  rw [f191_L0_step]
  simp only [ih]
  rfl
theorem f191_raw (p : Pr β) (n : Nat) (a0 : AV) (H : Heap) (k : AV → Heap → Option β) : evalBody ti0 p n ⟨c191, 33, Go.Proofs.Tryz.f191.results.toList, o191⟩ [a0] H k =
 f191_L0 p n  k n (tz [a0, uu, .nl, .nl, (.sc (.int .i64 0)), (.sc (.int .i64 0)), .nl, uu, uu, uu, uu, uu, uu, uu, uu, uu, uu, uu, uu, uu, uu, uu, uu, uu, uu, uu, uu, uu, uu, uu, uu, uu, uu]) H := by kernel_rfl
theorem f191_body (p : Pr β) (n : Nat) (a0 : AV) (H : Heap) (k : AV → Heap → Option β) : evalBody ti0 p n ⟨c191, 33, Go.Proofs.Tryz.f191.results.toList, o191⟩ [a0] H k = f191 p n a0 H k := by
 rw [f191_raw]
 simp only [f191_l0_eq]
 rfl
noncomputable def f173 (p : Pr β) (n : Nat) (a0 : AV) (H : Heap) (k : AV → Heap → Option β) : Option β :=
 p.call 4 (.fn 82 [] []) [a0] H fun t4 H =>
 p.guard t4 true H (fun k' => k' a0 H) fun t6 H =>
 p.guard t4 true H (fun k' => p.bin .neq t6 (.sc (.string ⟨#[]⟩)) fun t' => k' t' H) fun t7 H =>
 p.pick t4 t7 (.sc (.bool false)) fun t8 =>
 p.guard t8 true H (fun k' => k' a0 H) fun t10 H =>
 p.guard t8 true H (fun k' => p.call 4 (.fn 190 [] []) [t10, (.sc (.int .u8 43))] H fun t' H => k' t' H) fun t11 H =>
 p.guard t8 true H (fun k' => p.un .not t11 fun t' => k' t' H) fun t12 H =>
 p.pick t8 t12 (.sc (.bool false)) fun t13 =>
 p.guard t13 true H (fun k' => k' a0 H) fun t15 H =>
 p.guard t13 true H (fun k' => p.call 4 (.fn 190 [] []) [t15, (.sc (.int .u8 35))] H fun t' H => k' t' H) fun t16 H =>
 p.guard t13 true H (fun k' => p.un .not t16 fun t' => k' t' H) fun t17 H =>
 p.pick t13 t17 (.sc (.bool false)) fun t18 =>
 p.guard t18 true H (fun k' => k' a0 H) fun t20 H =>
 p.guard t18 true H (fun k' => p.call 73 (.fn 191 [] []) [t20] H fun t' H => k' t' H) fun t21 H =>
 p.guard t18 true H (fun k' => p.len t21 fun t' => k' t' H) fun t22 H =>
 p.guard t18 true H (fun k' => p.bin .leq t22 (.sc (.int .i64 6)) fun t' => k' t' H) fun t23 H =>
 p.pick t18 t23 (.sc (.bool false)) fun t24 =>
 k t24 H
theorem f173_body (p : Pr β) (n : Nat) (a0 : AV) (H : Heap) (k : AV → Heap → Option β) : evalBody ti0 p n ⟨c173, 25, Go.Proofs.Tryz.f173.results.toList, o173⟩ [a0] H k = f173 p n a0 H k := by kernel_rfl
noncomputable def f142 (p : Pr β) (n : Nat) (a0 : AV) (H : Heap) (k : AV → Heap → Option β) : Option β :=
 p.box a0 H fun t1 H =>
 p.fadr 0 t1 fun t3 =>
 p.load false 1 t3 H fun t4 =>
 p.call 4 (.fn 173 [] []) [t4] H fun t5 H =>
 p.guard t5 true H (fun k' => p.fadr 1 t1 fun t' => k' t' H) fun t7 H =>
 p.guard t5 true H (fun k' => p.load false 1 t7 H fun t' => k' t' H) fun t8 H =>
 p.guard t5 true H (fun k' => p.len t8 fun t' => k' t' H) fun t9 H =>
 p.guard t5 true H (fun k' => p.bin .leq t9 (.sc (.int .i64 40)) fun t' => k' t' H) fun t10 H =>
 p.pick t5 t10 (.sc (.bool false)) fun t11 =>
 p.guard t11 true H (fun k' => p.fadr 2 t1 fun t' => k' t' H) fun t13 H =>
 p.guard t11 true H (fun k' => p.load false 1 t13 H fun t' => k' t' H) fun t14 H =>
 p.guard t11 true H (fun k' => p.call 4 (.fn 83 [] []) [t14, (.sc (.int .i64 0)), (.sc (.int .i64 2))] H fun t' H => k' t' H) fun t15 H =>
 p.pick t11 t15 (.sc (.bool false)) fun t16 =>
 k t16 H
theorem f142_body (p : Pr β) (n : Nat) (a0 : AV) (H : Heap) (k : AV → Heap → Option β) : evalBody ti0 p n ⟨c142, 17, Go.Proofs.Tryz.f142.results.toList, o142⟩ [a0] H k = f142 p n a0 H k := by kernel_rfl
noncomputable def f143 (p : Pr β) (n : Nat) (a0 : AV) (H : Heap) (k : AV → Heap → Option β) : Option β :=
 p.box a0 H fun t1 H =>
 p.fadr 1 t1 fun t3 =>
 p.fadr 2 t3 fun t4 =>
 p.load false 1 t4 H fun t5 =>
 p.bin .eql t5 (.sc (.int .i64 1)) fun t6 =>
 p.cond t6
 (p.fadr 5 t1 fun t7 =>
 p.load false 1 t7 H fun t8 =>
 p.bin .eql t8 (.sc (.int .i64 1)) fun t9 =>
 k t9 H)
 (p.fadr 1 t1 fun t10 =>
 p.fadr 2 t10 fun t11 =>
 p.load false 1 t11 H fun t12 =>
 p.bin .eql t12 (.sc (.int .i64 2)) fun t13 =>
 p.guard t13 true H (fun k' => p.fadr 5 t1 fun t' => k' t' H) fun t15 H =>
 p.guard t13 true H (fun k' => p.load false 1 t15 H fun t' => k' t' H) fun t16 H =>
 p.guard t13 true H (fun k' => p.bin .eql t16 (.sc (.int .i64 2)) fun t' => k' t' H) fun t17 H =>
 p.guard t13 true H (fun k' => k' t17 H) fun t18 H =>
 p.guard t18 false H (fun k' => p.fadr 5 t1 fun t' => k' t' H) fun t19 H =>
 p.guard t18 false H (fun k' => p.load false 1 t19 H fun t' => k' t' H) fun t20 H =>
 p.guard t18 false H (fun k' => p.bin .eql t20 (.sc (.int .i64 3)) fun t' => k' t' H) fun t21 H =>
 p.guard t13 true H (fun k' => p.pick t18 (.sc (.bool true)) t21 fun t' => k' t' H) fun t22 H =>
 p.pick t13 t22 (.sc (.bool false)) fun t23 =>
 k t23 H)
theorem f143_body (p : Pr β) (n : Nat) (a0 : AV) (H : Heap) (k : AV → Heap → Option β) : evalBody ti0 p n ⟨c143, 24, Go.Proofs.Tryz.f143.results.toList, o143⟩ [a0] H k = f143 p n a0 H k := by kernel_rfl
noncomputable def f144_l0 (p : Pr β) (n : Nat)  (k : AV → Heap → Option β) : Nat → AV → AV → Heap → Option β
 | 0, _, _, _ => none
 | m + 1, t0, t3, H => p.len t0 fun t6 =>
   p.bin .lss t3 t6 fun t7 =>
   p.cond t7
   (p.iadr 4 t0 t3 fun t12 =>
   p.load true 4 t12 H fun t13 =>
   p.call 4 (.fn 142 [] []) [t13] H fun t14 H =>
   p.un .not t14 fun t15 =>
   p.cond t15
   (k (.sc (.bool false)) H)
   (p.bin .add t3 (.sc (.int .i64 1)) fun t9 =>
   f144_l0 p n  k m t0 t9 H))
   (p.len t0 fun t17 =>
   p.bin .leq t17 (.sc (.int .i64 6)) fun t18 =>
   k t18 H)
noncomputable def f144 (p : Pr β) (n : Nat) (a0 : AV) (H : Heap) (k : AV → Heap → Option β) : Option β :=
 f144_l0 p n  k n a0 (.sc (.int .i64 0)) H
noncomputable def f144_L0 (p : Pr β) (n : Nat)  (k : AV → Heap → Option β) (m : Nat) (tm : Tm) (H : Heap) : Option β :=
 iterC 19 (fun tm H k => evalCode ti0 p o144 19 n (cd c144 [1, 0, 1, 0, 0]) tm H k) (blkK 0 (seqK (fun tm H => evalCode ti0 p o144 19 n (cd c144 [1, 1]) tm H (endK ti0 p Go.Proofs.Tryz.f144.results.toList k)) (endK ti0 p Go.Proofs.Tryz.f144.results.toList k))) m tm H
theorem f144_L0_step (p : Pr β) (n : Nat)  (k : AV → Heap → Option β) (m0 : Nat) (t0 t1 t2 t3 t4 t5 t6 t7 t8 t9 t10 t11 t12 t13 t14 t15 t16 t17 t18 : AV) (H : Heap) : f144_L0 p n  k (m0 + 1) (tz [t0, t1, t2, t3, t4, t5, t6, t7, t8, t9, t10, t11, t12, t13, t14, t15, t16, t17, t18]) H =
 p.len t0 fun t6 =>
 p.bin .lss t3 t6 fun t7 =>
 p.cond t7
 (p.iadr 4 t0 t3 fun t12 =>
 p.load true 4 t12 H fun t13 =>
 p.call 4 (.fn 142 [] []) [t13] H fun t14 H =>
 p.un .not t14 fun t15 =>
 p.cond t15
 (k (.sc (.bool false)) H)
 (p.bin .add t3 (.sc (.int .i64 1)) fun t9 =>
 f144_L0 p n  k m0 (tz [t0, t1, t2, t9, t3, t0, t6, t7, t3, t9, t0, t3, t12, t13, t14, t15, t16, t17, t18]) H))
 (p.len t0 fun t17 =>
 p.bin .leq t17 (.sc (.int .i64 6)) fun t18 =>
 k t18 H) := by kernel_rfl
theorem f144_l0_eq (p : Pr β) (n : Nat)  (k : AV → Heap → Option β)   (m0 : Nat) : ∀ (t0 t1 t2 t3 t4 t5 t6 t7 t8 t9 t10 t11 t12 t13 t14 t15 t16 t17 t18 : AV) (H : Heap), f144_L0 p n  k m0 (tz [t0, t1, t2, t3, t4, t5, t6, t7, t8, t9, t10, t11, t12, t13, t14, t15, t16, t17, t18]) H = f144_l0 p n  k m0 t0 t3 H := by
 induction m0 with
 | zero => intros; rfl
 | succ m0 ih =>
  intro t0 t1 t2 t3 t4 t5 t6 t7 t8 t9 t10 t11 t12 t13 t14 t15 t16 t17 t18 H
  rw [f144_L0_step]
  simp only [ih]
  rfl
theorem f144_raw (p : Pr β) (n : Nat) (a0 : AV) (H : Heap) (k : AV → Heap → Option β) : evalBody ti0 p n ⟨c144, 19, Go.Proofs.Tryz.f144.results.toList, o144⟩ [a0] H k =
 f144_L0 p n  k n (tz [a0, uu, (.sc (.bool false)), (.sc (.int .i64 0)), uu, uu, uu, uu, uu, uu, uu, uu, uu, uu, uu, uu, uu, uu, uu]) H := by kernel_rfl
theorem f144_body (p : Pr β) (n : Nat) (a0 : AV) (H : Heap) (k : AV → Heap → Option β) : evalBody ti0 p n ⟨c144, 19, Go.Proofs.Tryz.f144.results.toList, o144⟩ [a0] H k = f144 p n a0 H k := by
 rw [f144_raw]
 simp only [f144_l0_eq]
 rfl
noncomputable def f84_l1 (p : Pr β) (n : Nat) (g0 : AV → AV → Heap → Option β) (k : AV → Heap → Option β) : Nat → AV → AV → AV → Heap → Option β
 | 0, _, _, _, _ => none
 | m + 1, t1, t3, t4, H => p.bin .lss t4 t3 fun t41 =>
   p.cond t41
   (p.fadr 1 t1 fun t44 =>
   p.load false 1 t44 H fun t45 =>
   p.iadr 6 t45 t4 fun t47 =>
   p.fadr 0 t47 fun t48 =>
   p.load false 1 t48 H fun t49 =>
   p.fadr 1 t1 fun t50 =>
   p.load false 1 t50 H fun t51 =>
   p.iadr 6 t51 t3 fun t53 =>
   p.fadr 0 t53 fun t54 =>
   p.load false 1 t54 H fun t55 =>
   p.bin .eql t49 t55 fun t56 =>
   p.cond t56
   (k (.sc (.bool false)) H)
   (p.bin .add t4 (.sc (.int .i64 1)) fun t43 =>
   f84_l1 p n g0 k m t1 t3 t43 H))
   (p.bin .add t3 (.sc (.int .i64 1)) fun t11 =>
   g0 t1 t11 H)
noncomputable def f84_l0 (p : Pr β) (n : Nat)  (k : AV → Heap → Option β) : Nat → AV → AV → Heap → Option β
 | 0, _, _, _ => none
 | m + 1, t1, t3, H => p.fadr 1 t1 fun t6 =>
   p.load false 1 t6 H fun t7 =>
   p.len t7 fun t8 =>
   p.bin .lss t3 t8 fun t9 =>
   p.cond t9
   (p.fadr 1 t1 fun t12 =>
   p.load false 1 t12 H fun t13 =>
   p.iadr 6 t13 t3 fun t15 =>
   p.fadr 0 t15 fun t16 =>
   p.load false 1 t16 H fun t17 =>
   p.call 4 (.fn 83 [] []) [t17, (.sc (.int .i64 1)), (.sc (.int .i64 65535))] H fun t18 H =>
   p.un .not t18 fun t19 =>
   p.guard t19 false H (fun k' => p.fadr 1 t1 fun t' => k' t' H) fun t21 H =>
   p.guard t19 false H (fun k' => p.load false 1 t21 H fun t' => k' t' H) fun t22 H =>
   p.guard t19 false H (fun k' => k' t3 H) fun t23 H =>
   p.guard t19 false H (fun k' => p.iadr 6 t22 t23 fun t' => k' t' H) fun t24 H =>
   p.guard t19 false H (fun k' => p.fadr 1 t24 fun t' => k' t' H) fun t25 H =>
   p.guard t19 false H (fun k' => p.load true 4 t25 H fun t' => k' t' H) fun t26 H =>
   p.guard t19 false H (fun k' => p.call 4 (.fn 142 [] []) [t26] H fun t' H => k' t' H) fun t27 H =>
   p.guard t19 false H (fun k' => p.un .not t27 fun t' => k' t' H) fun t28 H =>
   p.pick t19 (.sc (.bool true)) t28 fun t29 =>
   p.guard t29 false H (fun k' => p.fadr 1 t1 fun t' => k' t' H) fun t31 H =>
   p.guard t29 false H (fun k' => p.load false 1 t31 H fun t' => k' t' H) fun t32 H =>
   p.guard t29 false H (fun k' => k' t3 H) fun t33 H =>
   p.guard t29 false H (fun k' => p.iadr 6 t32 t33 fun t' => k' t' H) fun t34 H =>
   p.guard t29 false H (fun k' => p.load true 6 t34 H fun t' => k' t' H) fun t35 H =>
   p.guard t29 false H (fun k' => p.call 4 (.fn 143 [] []) [t35] H fun t' H => k' t' H) fun t36 H =>
   p.guard t29 false H (fun k' => p.un .not t36 fun t' => k' t' H) fun t37 H =>
   p.pick t29 (.sc (.bool true)) t37 fun t38 =>
   p.cond t38
   (k (.sc (.bool false)) H)
   (f84_l1 p n (f84_l0 p n  k m) k n t1 t3 (.sc (.int .i64 0)) H))
   (p.fadr 0 t1 fun t57 =>
   p.load false 1 t57 H fun t58 =>
   p.call 4 (.fn 83 [] []) [t58, (.sc (.int .i64 0)), (.sc (.int .i64 65535))] H fun t59 H =>
   p.guard t59 true H (fun k' => p.fadr 1 t1 fun t' => k' t' H) fun t61 H =>
   p.guard t59 true H (fun k' => p.load false 1 t61 H fun t' => k' t' H) fun t62 H =>
   p.guard t59 true H (fun k' => p.len t62 fun t' => k' t' H) fun t63 H =>
   p.guard t59 true H (fun k' => p.bin .leq t63 (.sc (.int .i64 3)) fun t' => k' t' H) fun t64 H =>
   p.pick t59 t64 (.sc (.bool false)) fun t65 =>
   p.guard t65 true H (fun k' => p.fadr 2 t1 fun t' => k' t' H) fun t67 H =>
   p.guard t65 true H (fun k' => p.load false 1 t67 H fun t' => k' t' H) fun t68 H =>
   p.guard t65 true H (fun k' => p.call 4 (.fn 144 [] []) [t68] H fun t' H => k' t' H) fun t69 H =>
   p.pick t65 t69 (.sc (.bool false)) fun t70 =>
   k t70 H)
noncomputable def f84 (p : Pr β) (n : Nat) (a0 : AV) (H : Heap) (k : AV → Heap → Option β) : Option β :=
 p.box a0 H fun t1 H =>
 f84_l0 p n  k n t1 (.sc (.int .i64 0)) H
noncomputable def f84_L1 (p : Pr β) (n : Nat) (m0 : Nat) (k : AV → Heap → Option β) (m : Nat) (tm : Tm) (H : Heap) : Option β :=
 iterC 71 (fun tm H k => evalCode ti0 p o84 71 n (cd c84 [1, 0, 1, 0, 0, 1, 0, 0, 1, 1, 0, 0]) tm H k) (blkK 2 (blkK 1 (seqK (fun tm H => evalCode ti0 p o84 71 n (cd c84 [1, 0, 1, 0, 0, 1, 1]) tm H (seqK (fun tm H => iterC 71 (fun tm H k => evalCode ti0 p o84 71 n (cd c84 [1, 0, 1, 0, 0]) tm H k) (blkK 0 (seqK (fun tm H => evalCode ti0 p o84 71 n (cd c84 [1, 1]) tm H (endK ti0 p Go.Proofs.Tryz.f84.results.toList k)) (endK ti0 p Go.Proofs.Tryz.f84.results.toList k))) m0 (nrm 71 tm) H) (blkK 0 (seqK (fun tm H => evalCode ti0 p o84 71 n (cd c84 [1, 1]) tm H (endK ti0 p Go.Proofs.Tryz.f84.results.toList k)) (endK ti0 p Go.Proofs.Tryz.f84.results.toList k))))) (seqK (fun tm H => iterC 71 (fun tm H k => evalCode ti0 p o84 71 n (cd c84 [1, 0, 1, 0, 0]) tm H k) (blkK 0 (seqK (fun tm H => evalCode ti0 p o84 71 n (cd c84 [1, 1]) tm H (endK ti0 p Go.Proofs.Tryz.f84.results.toList k)) (endK ti0 p Go.Proofs.Tryz.f84.results.toList k))) m0 (nrm 71 tm) H) (blkK 0 (seqK (fun tm H => evalCode ti0 p o84 71 n (cd c84 [1, 1]) tm H (endK ti0 p Go.Proofs.Tryz.f84.results.toList k)) (endK ti0 p Go.Proofs.Tryz.f84.results.toList k))))))) m tm H
noncomputable def f84_L0 (p : Pr β) (n : Nat)  (k : AV → Heap → Option β) (m : Nat) (tm : Tm) (H : Heap) : Option β :=
 iterC 71 (fun tm H k => evalCode ti0 p o84 71 n (cd c84 [1, 0, 1, 0, 0]) tm H k) (blkK 0 (seqK (fun tm H => evalCode ti0 p o84 71 n (cd c84 [1, 1]) tm H (endK ti0 p Go.Proofs.Tryz.f84.results.toList k)) (endK ti0 p Go.Proofs.Tryz.f84.results.toList k))) m tm H
theorem f84_L1_step (p : Pr β) (n : Nat) (m0 : Nat) (k : AV → Heap → Option β) (m1 : Nat) (t0 t1 t2 t3 t4 t5 t6 t7 t8 t9 t10 t11 t12 t13 t14 t15 t16 t17 t18 t19 t20 t21 t22 t23 t24 t25 t26 t27 t28 t29 t30 t31 t32 t33 t34 t35 t36 t37 t38 t39 t40 t41 t42 t43 t44 t45 t46 t47 t48 t49 t50 t51 t52 t53 t54 t55 t56 t57 t58 t59 t60 t61 t62 t63 t64 t65 t66 t67 t68 t69 t70 : AV) (H : Heap) : f84_L1 p n m0 k (m1 + 1) (tz [t0, t1, t2, t3, t4, t5, t6, t7, t8, t9, t10, t11, t12, t13, t14, t15, t16, t17, t18, t19, t20, t21, t22, t23, t24, t25, t26, t27, t28, t29, t30, t31, t32, t33, t34, t35, t36, t37, t38, t39, t40, t41, t42, t43, t44, t45, t46, t47, t48, t49, t50, t51, t52, t53, t54, t55, t56, t57, t58, t59, t60, t61, t62, t63, t64, t65, t66, t67, t68, t69, t70]) H =
 p.bin .lss t4 t3 fun t41 =>
 p.cond t41
 (p.fadr 1 t1 fun t44 =>
 p.load false 1 t44 H fun t45 =>
 p.iadr 6 t45 t4 fun t47 =>
 p.fadr 0 t47 fun t48 =>
 p.load false 1 t48 H fun t49 =>
 p.fadr 1 t1 fun t50 =>
 p.load false 1 t50 H fun t51 =>
 p.iadr 6 t51 t3 fun t53 =>
 p.fadr 0 t53 fun t54 =>
 p.load false 1 t54 H fun t55 =>
 p.bin .eql t49 t55 fun t56 =>
 p.cond t56
 (k (.sc (.bool false)) H)
 (p.bin .add t4 (.sc (.int .i64 1)) fun t43 =>
 f84_L1 p n m0 k m1 (tz [t0, t1, t2, t3, t43, t5, t6, t7, t8, t9, t10, t11, t12, t13, t14, t15, t16, t17, t18, t19, t20, t21, t22, t23, t24, t25, t26, t27, t28, t29, t30, t31, t32, t33, t34, t35, t36, t37, t38, t4, t3, t41, t4, t43, t44, t45, t4, t47, t48, t49, t50, t51, t3, t53, t54, t55, t56, t57, t58, t59, t60, t61, t62, t63, t64, t65, t66, t67, t68, t69, t70]) H))
 (p.bin .add t3 (.sc (.int .i64 1)) fun t11 =>
 f84_L0 p n  k m0 (tz [t0, t1, t2, t11, t4, t5, t6, t7, t8, t9, t3, t11, t12, t13, t14, t15, t16, t17, t18, t19, t20, t21, t22, t23, t24, t25, t26, t27, t28, t29, t30, t31, t32, t33, t34, t35, t36, t37, t38, t4, t3, t41, t42, t43, t44, t45, t46, t47, t48, t49, t50, t51, t52, t53, t54, t55, t56, t57, t58, t59, t60, t61, t62, t63, t64, t65, t66, t67, t68, t69, t70]) H) := by kernel_rfl
theorem f84_l1_eq (p : Pr β) (n : Nat) (m0 : Nat) (k : AV → Heap → Option β) (g0 : AV → AV → Heap → Option β) (h0 : ∀ t0 t1 t2 t3 t4 t5 t6 t7 t8 t9 t10 t11 t12 t13 t14 t15 t16 t17 t18 t19 t20 t21 t22 t23 t24 t25 t26 t27 t28 t29 t30 t31 t32 t33 t34 t35 t36 t37 t38 t39 t40 t41 t42 t43 t44 t45 t46 t47 t48 t49 t50 t51 t52 t53 t54 t55 t56 t57 t58 t59 t60 t61 t62 t63 t64 t65 t66 t67 t68 t69 t70 H, f84_L0 p n  k m0 (tz [t0, t1, t2, t3, t4, t5, t6, t7, t8, t9, t10, t11, t12, t13, t14, t15, t16, t17, t18, t19, t20, t21, t22, t23, t24, t25, t26, t27, t28, t29, t30, t31, t32, t33, t34, t35, t36, t37, t38, t39, t40, t41, t42, t43, t44, t45, t46, t47, t48, t49, t50, t51, t52, t53, t54, t55, t56, t57, t58, t59, t60, t61, t62, t63, t64, t65, t66, t67, t68, t69, t70]) H = g0 t1 t3 H) (m1 : Nat) : ∀ (t0 t1 t2 t3 t4 t5 t6 t7 t8 t9 t10 t11 t12 t13 t14 t15 t16 t17 t18 t19 t20 t21 t22 t23 t24 t25 t26 t27 t28 t29 t30 t31 t32 t33 t34 t35 t36 t37 t38 t39 t40 t41 t42 t43 t44 t45 t46 t47 t48 t49 t50 t51 t52 t53 t54 t55 t56 t57 t58 t59 t60 t61 t62 t63 t64 t65 t66 t67 t68 t69 t70 : AV) (H : Heap), f84_L1 p n m0 k m1 (tz [t0, t1, t2, t3, t4, t5, t6, t7, t8, t9, t10, t11, t12, t13, t14, t15, t16, t17, t18, t19, t20, t21, t22, t23, t24, t25, t26, t27, t28, t29, t30, t31, t32, t33, t34, t35, t36, t37, t38, t39, t40, t41, t42, t43, t44, t45, t46, t47, t48, t49, t50, t51, t52, t53, t54, t55, t56, t57, t58, t59, t60, t61, t62, t63, t64, t65, t66, t67, t68, t69, t70]) H = f84_l1 p n g0 k m1 t1 t3 t4 H := by
 induction m1 with
 | zero => intros; rfl
 | succ m1 ih =>
  intro t0 t1 t2 t3 t4 t5 t6 t7 t8 t9 t10 t11 t12 t13 t14 t15 t16 t17 t18 t19 t20 t21 t22 t23 t24 t25 t26 t27 t28 t29 t30 t31 t32 t33 t34 t35 t36 t37 t38 t39 t40 t41 t42 t43 t44 t45 t46 t47 t48 t49 t50 t51 t52 t53 t54 t55 t56 t57 t58 t59 t60 t61 t62 t63 t64 t65 t66 t67 t68 t69 t70 H
  rw [f84_L1_step]
  simp only [ih, h0]
  rfl
theorem f84_L0_step (p : Pr β) (n : Nat)  (k : AV → Heap → Option β) (m0 : Nat) (t0 t1 t2 t3 t4 t5 t6 t7 t8 t9 t10 t11 t12 t13 t14 t15 t16 t17 t18 t19 t20 t21 t22 t23 t24 t25 t26 t27 t28 t29 t30 t31 t32 t33 t34 t35 t36 t37 t38 t39 t40 t41 t42 t43 t44 t45 t46 t47 t48 t49 t50 t51 t52 t53 t54 t55 t56 t57 t58 t59 t60 t61 t62 t63 t64 t65 t66 t67 t68 t69 t70 : AV) (H : Heap) : f84_L0 p n  k (m0 + 1) (tz [t0, t1, t2, t3, t4, t5, t6, t7, t8, t9, t10, t11, t12, t13, t14, t15, t16, t17, t18, t19, t20, t21, t22, t23, t24, t25, t26, t27, t28, t29, t30, t31, t32, t33, t34, t35, t36, t37, t38, t39, t40, t41, t42, t43, t44, t45, t46, t47, t48, t49, t50, t51, t52, t53, t54, t55, t56, t57, t58, t59, t60, t61, t62, t63, t64, t65, t66, t67, t68, t69, t70]) H =
 p.fadr 1 t1 fun t6 =>
 p.load false 1 t6 H fun t7 =>
 p.len t7 fun t8 =>
 p.bin .lss t3 t8 fun t9 =>
 p.cond t9
 (p.fadr 1 t1 fun t12 =>
 p.load false 1 t12 H fun t13 =>
 p.iadr 6 t13 t3 fun t15 =>
 p.fadr 0 t15 fun t16 =>
 p.load false 1 t16 H fun t17 =>
 p.call 4 (.fn 83 [] []) [t17, (.sc (.int .i64 1)), (.sc (.int .i64 65535))] H fun t18 H =>
 p.un .not t18 fun t19 =>
 p.guard t19 false H (fun k' => p.fadr 1 t1 fun t' => k' t' H) fun t21 H =>
 p.guard t19 false H (fun k' => p.load false 1 t21 H fun t' => k' t' H) fun t22 H =>
 p.guard t19 false H (fun k' => k' t3 H) fun t23 H =>
 p.guard t19 false H (fun k' => p.iadr 6 t22 t23 fun t' => k' t' H) fun t24 H =>
 p.guard t19 false H (fun k' => p.fadr 1 t24 fun t' => k' t' H) fun t25 H =>
 p.guard t19 false H (fun k' => p.load true 4 t25 H fun t' => k' t' H) fun t26 H =>
 p.guard t19 false H (fun k' => p.call 4 (.fn 142 [] []) [t26] H fun t' H => k' t' H) fun t27 H =>
 p.guard t19 false H (fun k' => p.un .not t27 fun t' => k' t' H) fun t28 H =>
 p.pick t19 (.sc (.bool true)) t28 fun t29 =>
 p.guard t29 false H (fun k' => p.fadr 1 t1 fun t' => k' t' H) fun t31 H =>
 p.guard t29 false H (fun k' => p.load false 1 t31 H fun t' => k' t' H) fun t32 H =>
 p.guard t29 false H (fun k' => k' t3 H) fun t33 H =>
 p.guard t29 false H (fun k' => p.iadr 6 t32 t33 fun t' => k' t' H) fun t34 H =>
 p.guard t29 false H (fun k' => p.load true 6 t34 H fun t' => k' t' H) fun t35 H =>
 p.guard t29 false H (fun k' => p.call 4 (.fn 143 [] []) [t35] H fun t' H => k' t' H) fun t36 H =>
 p.guard t29 false H (fun k' => p.un .not t36 fun t' => k' t' H) fun t37 H =>
 p.pick t29 (.sc (.bool true)) t37 fun t38 =>
 p.cond t38
 (k (.sc (.bool false)) H)
 (f84_L1 p n m0 k n (tz [t0, t1, t2, t3, (.sc (.int .i64 0)), t3, t6, t7, t8, t9, t10, t11, t12, t13, t3, t15, t16, t17, t18, t19, t19, t21, t22, t23, t24, t25, t26, t27, t28, t29, t29, t31, t32, t33, t34, t35, t36, t37, t38, t39, t40, t41, t42, t43, t44, t45, t46, t47, t48, t49, t50, t51, t52, t53, t54, t55, t56, t57, t58, t59, t60, t61, t62, t63, t64, t65, t66, t67, t68, t69, t70]) H))
 (p.fadr 0 t1 fun t57 =>
 p.load false 1 t57 H fun t58 =>
 p.call 4 (.fn 83 [] []) [t58, (.sc (.int .i64 0)), (.sc (.int .i64 65535))] H fun t59 H =>
 p.guard t59 true H (fun k' => p.fadr 1 t1 fun t' => k' t' H) fun t61 H =>
 p.guard t59 true H (fun k' => p.load false 1 t61 H fun t' => k' t' H) fun t62 H =>
 p.guard t59 true H (fun k' => p.len t62 fun t' => k' t' H) fun t63 H =>
 p.guard t59 true H (fun k' => p.bin .leq t63 (.sc (.int .i64 3)) fun t' => k' t' H) fun t64 H =>
 p.pick t59 t64 (.sc (.bool false)) fun t65 =>
 p.guard t65 true H (fun k' => p.fadr 2 t1 fun t' => k' t' H) fun t67 H =>
 p.guard t65 true H (fun k' => p.load false 1 t67 H fun t' => k' t' H) fun t68 H =>
 p.guard t65 true H (fun k' => p.call 4 (.fn 144 [] []) [t68] H fun t' H => k' t' H) fun t69 H =>
 p.pick t65 t69 (.sc (.bool false)) fun t70 =>
 k t70 H) := by kernel_rfl
theorem f84_l0_eq (p : Pr β) (n : Nat)  (k : AV → Heap → Option β)   (m0 : Nat) : ∀ (t0 t1 t2 t3 t4 t5 t6 t7 t8 t9 t10 t11 t12 t13 t14 t15 t16 t17 t18 t19 t20 t21 t22 t23 t24 t25 t26 t27 t28 t29 t30 t31 t32 t33 t34 t35 t36 t37 t38 t39 t40 t41 t42 t43 t44 t45 t46 t47 t48 t49 t50 t51 t52 t53 t54 t55 t56 t57 t58 t59 t60 t61 t62 t63 t64 t65 t66 t67 t68 t69 t70 : AV) (H : Heap), f84_L0 p n  k m0 (tz [t0, t1, t2, t3, t4, t5, t6, t7, t8, t9, t10, t11, t12, t13, t14, t15, t16, t17, t18, t19, t20, t21, t22, t23, t24, t25, t26, t27, t28, t29, t30, t31, t32, t33, t34, t35, t36, t37, t38, t39, t40, t41, t42, t43, t44, t45, t46, t47, t48, t49, t50, t51, t52, t53, t54, t55, t56, t57, t58, t59, t60, t61, t62, t63, t64, t65, t66, t67, t68, t69, t70]) H = f84_l0 p n  k m0 t1 t3 H := by
 induction m0 with
 | zero => intros; rfl
 | succ m0 ih =>
  intro t0 t1 t2 t3 t4 t5 t6 t7 t8 t9 t10 t11 t12 t13 t14 t15 t16 t17 t18 t19 t20 t21 t22 t23 t24 t25 t26 t27 t28 t29 t30 t31 t32 t33 t34 t35 t36 t37 t38 t39 t40 t41 t42 t43 t44 t45 t46 t47 t48 t49 t50 t51 t52 t53 t54 t55 t56 t57 t58 t59 t60 t61 t62 t63 t64 t65 t66 t67 t68 t69 t70 H
  rw [f84_L0_step]
  simp only [ih, f84_l1_eq p n m0 k (f84_l0 p n  k m0) ih]
  rfl
theorem f84_raw (p : Pr β) (n : Nat) (a0 : AV) (H : Heap) (k : AV → Heap → Option β) : evalBody ti0 p n ⟨c84, 71, Go.Proofs.Tryz.f84.results.toList, o84⟩ [a0] H k =
 p.box a0 H fun t1 H =>
 f84_L0 p n  k n (tz [a0, t1, (.sc (.bool false)), (.sc (.int .i64 0)), uu, uu, uu, uu, uu, uu, uu, uu, uu, uu, uu, uu, uu, uu, uu, uu, uu, uu, uu, uu, uu, uu, uu, uu, uu, uu, uu, uu, uu, uu, uu, uu, uu, uu, uu, uu, uu, uu, uu, uu, uu, uu, uu, uu, uu, uu, uu, uu, uu, uu, uu, uu, uu, uu, uu, uu, uu, uu, uu, uu, uu, uu, uu, uu, uu, uu, uu]) H := by kernel_rfl
theorem f84_body (p : Pr β) (n : Nat) (a0 : AV) (H : Heap) (k : AV → Heap → Option β) : evalBody ti0 p n ⟨c84, 71, Go.Proofs.Tryz.f84.results.toList, o84⟩ [a0] H k = f84 p n a0 H k := by
 rw [f84_raw]
 simp only [f84_l0_eq]
 rfl
noncomputable def f105 (p : Pr β) (n : Nat) (a0 : AV) (H : Heap) (k : AV → Heap → Option β) : Option β :=
 p.box a0 H fun t1 H =>
 p.load true 3 t1 H fun t3 =>
 p.call 4 (.fn 84 [] []) [t3] H fun t4 H =>
 p.guard t4 true H (fun k' => p.fadr 2 t1 fun t' => k' t' H) fun t6 H =>
 p.guard t4 true H (fun k' => p.load false 1 t6 H fun t' => k' t' H) fun t7 H =>
 p.guard t4 true H (fun k' => p.len t7 fun t' => k' t' H) fun t8 H =>
 p.guard t4 true H (fun k' => p.bin .gtr t8 (.sc (.int .i64 0)) fun t' => k' t' H) fun t9 H =>
 p.pick t4 t9 (.sc (.bool false)) fun t10 =>
 p.guard t10 true H (fun k' => p.fadr 2 t1 fun t' => k' t' H) fun t12 H =>
 p.guard t10 true H (fun k' => p.load false 1 t12 H fun t' => k' t' H) fun t13 H =>
 p.guard t10 true H (fun k' => p.iadr 4 t13 (.sc (.int .i64 0)) fun t' => k' t' H) fun t14 H =>
 p.guard t10 true H (fun k' => p.fadr 2 t14 fun t' => k' t' H) fun t15 H =>
 p.guard t10 true H (fun k' => p.load false 1 t15 H fun t' => k' t' H) fun t16 H =>
 p.guard t10 true H (fun k' => p.bin .eql t16 (.sc (.int .i64 0)) fun t' => k' t' H) fun t17 H =>
 p.guard t10 true H (fun k' => k' t17 H) fun t18 H =>
 p.guard t18 false H (fun k' => p.fadr 1 t1 fun t' => k' t' H) fun t19 H =>
 p.guard t18 false H (fun k' => p.load false 1 t19 H fun t' => k' t' H) fun t20 H =>
 p.guard t18 false H (fun k' => p.len t20 fun t' => k' t' H) fun t21 H =>
 p.guard t18 false H (fun k' => p.bin .lss t21 (.sc (.int .i64 3)) fun t' => k' t' H) fun t22 H =>
 p.guard t10 true H (fun k' => p.pick t18 (.sc (.bool true)) t22 fun t' => k' t' H) fun t23 H =>
 p.pick t10 t23 (.sc (.bool false)) fun t24 =>
 k t24 H
theorem f105_body (p : Pr β) (n : Nat) (a0 : AV) (H : Heap) (k : AV → Heap → Option β) : evalBody ti0 p n ⟨c105, 25, Go.Proofs.Tryz.f105.results.toList, o105⟩ [a0] H k = f105 p n a0 H k := by kernel_rfl
noncomputable def f106 (p : Pr β) (n : Nat) (a0 : AV) (H : Heap) (k : AV → Heap → Option β) : Option β :=
 p.new [(.sc (.string ⟨#[]⟩)), .nl, (.sc (.int .i64 0)), (.sc (.bool false))] H fun t3 H =>
 p.len a0 fun t6 =>
 p.bin .eql t6 (.sc (.int .i64 0)) fun t7 =>
 p.cond t7
 (p.fill [(.sc (.string ⟨#[]⟩)), .nl, (.sc (.int .i64 0)), (.sc (.bool false))] [] fun ct9 =>
 p.store 4 t3 (.agg ct9) H fun H =>
 p.load true 4 t3 H fun r1 =>
 k (packA [.nl, r1, (.sc (.bool false))]) H)
 (p.slice 4 a0 (some (.sc (.int .i64 1))) none fun t11 =>
 p.iadr 4 a0 (.sc (.int .i64 0)) fun t14 =>
 p.load true 4 t14 H fun t15 =>
 p.call 31 (.fn 151 [] []) [t11] H fun t12 H =>
 p.call 49 (.fn 152 [] []) [t15] H fun t16 H =>
 p.store 4 t3 t16 H fun H =>
 p.load true 4 t3 H fun r1 =>
 k (packA [t12, r1, (.sc (.bool true))]) H)
theorem f106_body (p : Pr β) (n : Nat) (a0 : AV) (H : Heap) (k : AV → Heap → Option β) : evalBody ti0 p n ⟨c106, 17, Go.Proofs.Tryz.f106.results.toList, o106⟩ [a0] H k = f106 p n a0 H k := by kernel_rfl
noncomputable def f89 (p : Pr β) (n : Nat) (a0 a1 a2 : AV) (H : Heap) (k : AV → Heap → Option β) : Option β :=
 p.box a0 H fun t3 H =>
 p.new [(.sc (.int .i64 0)), (.sc (.bool false)), (.sc (.int .i64 0)), (.sc (.bool false)), (.sc (.int .i64 0)), (.sc (.string ⟨#[]⟩)), .nl, (.sc (.string ⟨#[]⟩)), (.sc (.int .i64 0)), (.sc (.bool false)), (.sc (.int .i64 0)), (.sc (.bool false)), (.sc (.string ⟨#[]⟩)), .nl, (.sc (.int .i64 0)), (.sc (.bool false)), (.sc (.bool false)), (.sc (.string ⟨#[]⟩)), (.sc (.bool false)), .nl, (.sc (.int .i64 0)), (.sc (.bool false)), .nl, .nl, .nl] H fun t6 H =>
 p.fadr 2 t3 fun t8 =>
 p.load false 1 t8 H fun t9 =>
 p.fadr 3 t3 fun t10 =>
 p.load false 1 t10 H fun t11 =>
 p.fadr 0 t3 fun t13 =>
 p.load false 1 t13 H fun t14 =>
 p.fadr 1 t3 fun t16 =>
 p.load false 1 t16 H fun t17 =>
 p.app 1 1 .nl t17 H fun t18 H =>
 p.fill [(.sc (.int .i64 0)), (.sc (.bool false)), (.sc (.int .i64 0)), (.sc (.bool false)), (.sc (.int .i64 0)), (.sc (.string ⟨#[]⟩)), .nl, (.sc (.string ⟨#[]⟩)), (.sc (.int .i64 0)), (.sc (.bool false)), (.sc (.int .i64 0)), (.sc (.bool false)), (.sc (.string ⟨#[]⟩)), .nl, (.sc (.int .i64 0)), (.sc (.bool false)), (.sc (.bool false)), (.sc (.string ⟨#[]⟩)), (.sc (.bool false)), .nl, (.sc (.int .i64 0)), (.sc (.bool false)), .nl, .nl, .nl] [(0, 1, (.sc (.int .i64 3))), (1, 1, a2), (2, 1, t9), (3, 1, t11), (4, 1, a1), (5, 1, t14), (6, 1, t18)] fun ct19 =>
 p.store 25 t6 (.agg ct19) H fun H =>
 p.load true 25 t6 H fun r0 =>
 k r0 H
theorem f89_body (p : Pr β) (n : Nat) (a0 a1 a2 : AV) (H : Heap) (k : AV → Heap → Option β) : evalBody ti0 p n ⟨c89, 20, Go.Proofs.Tryz.f89.results.toList, o89⟩ [a0, a1, a2] H k = f89 p n a0 a1 a2 H k := by kernel_rfl
noncomputable def f153_l0 (p : Pr β) (n : Nat)  (k : AV → Heap → Option β) : Nat → AV → AV → AV → Heap → Option β
 | 0, _, _, _, _ => none
 | m + 1, t0, t1, t5, H => p.len t0 fun t8 =>
   p.bin .lss t5 t8 fun t9 =>
   p.cond t9
   (p.iadr 1 t0 t5 fun t14 =>
   p.load false 1 t14 H fun t15 =>
   p.bin .eql t15 t1 fun t17 =>
   p.cond t17
   (k (.sc (.bool true)) H)
   (p.bin .add t5 (.sc (.int .i64 1)) fun t11 =>
   f153_l0 p n  k m t0 t1 t11 H))
   (k (.sc (.bool false)) H)
noncomputable def f153 (p : Pr β) (n : Nat) (a0 a1 : AV) (H : Heap) (k : AV → Heap → Option β) : Option β :=
 f153_l0 p n  k n a0 a1 (.sc (.int .i64 0)) H
noncomputable def f153_L0 (p : Pr β) (n : Nat)  (k : AV → Heap → Option β) (m : Nat) (tm : Tm) (H : Heap) : Option β :=
 iterC 18 (fun tm H k => evalCode ti0 p o153 18 n (cd c153 [1, 0, 1, 0, 0]) tm H k) (blkK 0 (seqK (fun tm H => evalCode ti0 p o153 18 n (cd c153 [1, 1]) tm H (endK ti0 p Go.Proofs.Tryz.f153.results.toList k)) (endK ti0 p Go.Proofs.Tryz.f153.results.toList k))) m tm H
theorem f153_L0_step (p : Pr β) (n : Nat)  (k : AV → Heap → Option β) (m0 : Nat) (t0 t1 t2 t3 t4 t5 t6 t7 t8 t9 t10 t11 t12 t13 t14 t15 t16 t17 : AV) (H : Heap) : f153_L0 p n  k (m0 + 1) (tz [t0, t1, t2, t3, t4, t5, t6, t7, t8, t9, t10, t11, t12, t13, t14, t15, t16, t17]) H =
 p.len t0 fun t8 =>
 p.bin .lss t5 t8 fun t9 =>
 p.cond t9
 (p.iadr 1 t0 t5 fun t14 =>
 p.load false 1 t14 H fun t15 =>
 p.bin .eql t15 t1 fun t17 =>
 p.cond t17
 (k (.sc (.bool true)) H)
 (p.bin .add t5 (.sc (.int .i64 1)) fun t11 =>
 f153_L0 p n  k m0 (tz [t0, t1, t2, t3, t4, t11, t5, t0, t8, t9, t5, t11, t0, t5, t14, t15, t1, t17]) H))
 (k (.sc (.bool false)) H) := by kernel_rfl
theorem f153_l0_eq (p : Pr β) (n : Nat)  (k : AV → Heap → Option β)   (m0 : Nat) : ∀ (t0 t1 t2 t3 t4 t5 t6 t7 t8 t9 t10 t11 t12 t13 t14 t15 t16 t17 : AV) (H : Heap), f153_L0 p n  k m0 (tz [t0, t1, t2, t3, t4, t5, t6, t7, t8, t9, t10, t11, t12, t13, t14, t15, t16, t17]) H = f153_l0 p n  k m0 t0 t1 t5 H := by
 induction m0 with
 | zero => intros; rfl
 | succ m0 ih =>
  intro t0 t1 t2 t3 t4 t5 t6 t7 t8 t9 t10 t11 t12 t13 t14 t15 t16 t17 H
  rw [f153_L0_step]
  simp only [ih]
  rfl
theorem f153_raw (p : Pr β) (n : Nat) (a0 a1 : AV) (H : Heap) (k : AV → Heap → Option β) : evalBody ti0 p n ⟨c153, 18, Go.Proofs.Tryz.f153.results.toList, o153⟩ [a0, a1] H k =
 f153_L0 p n  k n (tz [a0, a1, uu, uu, (.sc (.bool false)), (.sc (.int .i64 0)), uu, uu, uu, uu, uu, uu, uu, uu, uu, uu, uu, uu]) H := by kernel_rfl
theorem f153_body (p : Pr β) (n : Nat) (a0 a1 : AV) (H : Heap) (k : AV → Heap → Option β) : evalBody ti0 p n ⟨c153, 18, Go.Proofs.Tryz.f153.results.toList, o153⟩ [a0, a1] H k = f153 p n a0 a1 H k := by
 rw [f153_raw]
 simp only [f153_l0_eq]
 rfl
noncomputable def f107_l0 (p : Pr β) (n : Nat)  (k : AV → Heap → Option β) : Nat → AV → AV → AV → Heap → Option β
 | 0, _, _, _, _ => none
 | m + 1, t1, t6, t7, H => p.len t1 fun t14 =>
   p.bin .leq t7 t14 fun t15 =>
   p.guard t15 true H (fun k' => k' t7 H) fun t17 H =>
   p.guard t15 true H (fun k' => p.bin .lss t17 (.sc (.int .i64 65535)) fun t' => k' t' H) fun t18 H =>
   p.pick t15 t18 (.sc (.bool false)) fun t19 =>
   p.cond t19
   (p.bin .add t6 (.sc (.int .i64 1)) fun t23 =>
   p.bin .gtr t23 (.sc (.int .i64 65535)) fun t25 =>
   letJ (fun (t1 t6 t7 : AV) (H : Heap) => p.call 4 (.fn 153 [] []) [t1, t6] H fun t28 H =>
   p.un .not t28 fun t29 =>
   p.cond t29
   (k (packA [t6, (.sc (.bool true))]) H)
   (p.bin .add t7 (.sc (.int .i64 1)) fun t21 =>
   f107_l0 p n  k m t1 t6 t21 H)) fun j1 =>
   p.cond t25
   (j1 t1 (.sc (.int .i64 1)) t7 H)
   (j1 t1 t23 t7 H))
   (k (packA [(.sc (.int .i64 0)), (.sc (.bool false))]) H)
noncomputable def f107 (p : Pr β) (n : Nat) (a0 a1 : AV) (H : Heap) (k : AV → Heap → Option β) : Option β :=
 p.call 4 (.fn 83 [] []) [a0, (.sc (.int .i64 0)), (.sc (.int .i64 65535))] H fun t9 H =>
 p.un .not t9 fun t10 =>
 p.cond t10
 (k (packA [(.sc (.int .i64 0)), (.sc (.bool false))]) H)
 (f107_l0 p n  k n a1 a0 (.sc (.int .i64 0)) H)
noncomputable def f107_L0 (p : Pr β) (n : Nat)  (k : AV → Heap → Option β) (m : Nat) (tm : Tm) (H : Heap) : Option β :=
 iterC 31 (fun tm H k => evalCode ti0 p o107 31 n (cd c107 [1, 1, 1, 0, 1, 0, 0]) tm H k) (blkK 0 (seqK (fun tm H => evalCode ti0 p o107 31 n (cd c107 [1, 1, 1, 1]) tm H (endK ti0 p Go.Proofs.Tryz.f107.results.toList k)) (endK ti0 p Go.Proofs.Tryz.f107.results.toList k))) m tm H
theorem f107_L0_step (p : Pr β) (n : Nat)  (k : AV → Heap → Option β) (m0 : Nat) (t0 t1 t2 t3 t4 t5 t6 t7 t8 t9 t10 t11 t12 t13 t14 t15 t16 t17 t18 t19 t20 t21 t22 t23 t24 t25 t26 t27 t28 t29 t30 : AV) (H : Heap) : f107_L0 p n  k (m0 + 1) (tz [t0, t1, t2, t3, t4, t5, t6, t7, t8, t9, t10, t11, t12, t13, t14, t15, t16, t17, t18, t19, t20, t21, t22, t23, t24, t25, t26, t27, t28, t29, t30]) H =
 p.len t1 fun t14 =>
 p.bin .leq t7 t14 fun t15 =>
 p.guard t15 true H (fun k' => k' t7 H) fun t17 H =>
 p.guard t15 true H (fun k' => p.bin .lss t17 (.sc (.int .i64 65535)) fun t' => k' t' H) fun t18 H =>
 p.pick t15 t18 (.sc (.bool false)) fun t19 =>
 p.cond t19
 (p.bin .add t6 (.sc (.int .i64 1)) fun t23 =>
 p.bin .gtr t23 (.sc (.int .i64 65535)) fun t25 =>
 letJ (fun (t0 t1 t2 t3 t4 t5 t6 t7 t8 t9 t10 t11 t12 t13 t14 t15 t16 t17 t18 t19 t20 t21 t22 t23 t24 t25 t26 t27 t28 t29 t30 : AV) (H : Heap) => p.call 4 (.fn 153 [] []) [t1, t6] H fun t28 H =>
 p.un .not t28 fun t29 =>
 p.cond t29
 (k (packA [t6, (.sc (.bool true))]) H)
 (p.bin .add t7 (.sc (.int .i64 1)) fun t21 =>
 f107_L0 p n  k m0 (tz [t0, t1, t2, t3, t4, t5, t6, t21, t8, t9, t10, t11, t12, t13, t14, t15, t16, t17, t18, t19, t7, t21, t22, t23, t24, t25, t1, t6, t28, t29, t30]) H)) fun j1 =>
 p.cond t25
 (j1 t0 t1 t2 t3 t4 t5 (.sc (.int .i64 1)) t7 t8 t9 t10 t11 t7 t1 t14 t15 t15 t17 t18 t19 t20 t21 t6 t23 t23 t25 t26 t27 t28 t29 t30 H)
 (j1 t0 t1 t2 t3 t4 t5 t23 t7 t8 t9 t10 t11 t7 t1 t14 t15 t15 t17 t18 t19 t20 t21 t6 t23 t23 t25 t26 t27 t28 t29 t30 H))
 (k (packA [(.sc (.int .i64 0)), (.sc (.bool false))]) H) := by kernel_rfl
theorem f107_l0_eq (p : Pr β) (n : Nat)  (k : AV → Heap → Option β)   (m0 : Nat) : ∀ (t0 t1 t2 t3 t4 t5 t6 t7 t8 t9 t10 t11 t12 t13 t14 t15 t16 t17 t18 t19 t20 t21 t22 t23 t24 t25 t26 t27 t28 t29 t30 : AV) (H : Heap), f107_L0 p n  k m0 (tz [t0, t1, t2, t3, t4, t5, t6, t7, t8, t9, t10, t11, t12, t13, t14, t15, t16, t17, t18, t19, t20, t21, t22, t23, t24, t25, t26, t27, t28, t29, t30]) H = f107_l0 p n  k m0 t1 t6 t7 H := by
 induction m0 with
 | zero => intros; rfl
 | succ m0 ih =>
  intro t0 t1 t2 t3 t4 t5 t6 t7 t8 t9 t10 t11 t12 t13 t14 t15 t16 t17 t18 t19 t20 t21 t22 t23 t24 t25 t26 t27 t28 t29 t30 H
  rw [f107_L0_step]
  simp only [ih]
  rfl
theorem f107_raw (p : Pr β) (n : Nat) (a0 a1 : AV) (H : Heap) (k : AV → Heap → Option β) : evalBody ti0 p n ⟨c107, 31, Go.Proofs.Tryz.f107.results.toList, o107⟩ [a0, a1] H k =
 p.call 4 (.fn 83 [] []) [a0, (.sc (.int .i64 0)), (.sc (.int .i64 65535))] H fun t9 H =>
 p.un .not t9 fun t10 =>
 p.cond t10
 (k (packA [(.sc (.int .i64 0)), (.sc (.bool false))]) H)
 (f107_L0 p n  k n (tz [a0, a1, uu, uu, (.sc (.int .i64 0)), (.sc (.bool false)), a0, (.sc (.int .i64 0)), a0, t9, t10, a0, uu, uu, uu, uu, uu, uu, uu, uu, uu, uu, uu, uu, uu, uu, uu, uu, uu, uu, uu]) H) := by kernel_rfl
theorem f107_body (p : Pr β) (n : Nat) (a0 a1 : AV) (H : Heap) (k : AV → Heap → Option β) : evalBody ti0 p n ⟨c107, 31, Go.Proofs.Tryz.f107.results.toList, o107⟩ [a0, a1] H k = f107 p n a0 a1 H k := by
 rw [f107_raw]
 simp only [f107_l0_eq]
 rfl
noncomputable def f44_l0 (p : Pr β) (n : Nat)  (k : AV → Heap → Option β) : Nat → AV → AV → AV → AV → AV → AV → AV → Heap → Option β
 | 0, _, _, _, _, _, _, _, _ => none
 | m + 1, t1, t2, t3, t5, t7, t9, t10, H => p.fadr 1 t1 fun t37 =>
   p.load false 1 t37 H fun t38 =>
   p.len t38 fun t39 =>
   p.bin .lss t10 t39 fun t40 =>
   p.cond t40
   (p.fadr 1 t1 fun t44 =>
   p.load false 1 t44 H fun t45 =>
   p.iadr 6 t45 t10 fun t47 =>
   p.fadr 0 t47 fun t48 =>
   p.load false 1 t48 H fun t49 =>
   p.fill [(.sc (.int .i64 0))] [(0, 1, t49)] fun ct50 => p.newSl 1 1 ct50 true H fun t50 H =>
   p.app 1 8 t9 t50 H fun t51 H =>
   p.bin .add t10 (.sc (.int .i64 1)) fun t42 =>
   f44_l0 p n  k m t1 t2 t3 t5 t7 t51 t42 H)
   (p.fadr 0 t1 fun t53 =>
   p.load false 1 t53 H fun t54 =>
   p.call 131 (.fn 107 [] []) [t54, t9] H fun t56 H =>
   p.extr t56 0 fun t57 =>
   p.extr t56 1 fun t58 =>
   p.fadr 0 t5 fun t60 =>
   p.store 1 t60 t57 H fun H =>
   p.fadr 1 t5 fun t61 =>
   p.load false 1 t61 H fun t62 =>
   p.load true 4 t7 H fun t64 =>
   p.fadr 2 t7 fun t65 =>
   p.load false 1 t65 H fun t66 =>
   p.fill [(.sc (.int .i64 0)), (.sc (.string ⟨#[]⟩)), .nl, (.sc (.int .i64 0)), (.sc (.bool false)), (.sc (.int .i64 0))] [(0, 1, t57), (1, 4, t64), (5, 1, t66)] fun ct67 =>
   p.fill [(.sc (.int .i64 0)), (.sc (.string ⟨#[]⟩)), .nl, (.sc (.int .i64 0)), (.sc (.bool false)), (.sc (.int .i64 0))] [(0, 6, (.agg ct67))] fun ct68 => p.newSl 1 6 ct68 true H fun t68 H =>
   p.app 6 72 t62 t68 H fun t69 H =>
   p.fadr 1 t5 fun t70 =>
   p.store 1 t70 t69 H fun H =>
   p.load true 3 t5 H fun t71 =>
   p.load true 4 t7 H fun t72 =>
   p.call 75 (.fn 89 [] []) [t72, t57, (.sc (.bool false))] H fun t74 H =>
   p.store 3 t2 t71 H fun H =>
   p.store 25 t3 t74 H fun H =>
   p.load true 3 t2 H fun r0 =>
   p.load true 25 t3 H fun r1 =>
   k (packA [r0, r1, (.sc (.bool true))]) H)
noncomputable def f44 (p : Pr β) (n : Nat) (a0 : AV) (H : Heap) (k : AV → Heap → Option β) : Option β :=
 p.box a0 H fun t1 H =>
 p.new [(.sc (.int .i64 0)), .nl, .nl] H fun t2 H =>
 p.new [(.sc (.int .i64 0)), (.sc (.bool false)), (.sc (.int .i64 0)), (.sc (.bool false)), (.sc (.int .i64 0)), (.sc (.string ⟨#[]⟩)), .nl, (.sc (.string ⟨#[]⟩)), (.sc (.int .i64 0)), (.sc (.bool false)), (.sc (.int .i64 0)), (.sc (.bool false)), (.sc (.string ⟨#[]⟩)), .nl, (.sc (.int .i64 0)), (.sc (.bool false)), (.sc (.bool false)), (.sc (.string ⟨#[]⟩)), (.sc (.bool false)), .nl, (.sc (.int .i64 0)), (.sc (.bool false)), .nl, .nl, .nl] H fun t3 H =>
 p.load true 3 t1 H fun t13 =>
 p.call 33 (.fn 104 [] []) [t13] H fun t14 H =>
 p.new [(.sc (.int .i64 0)), .nl, .nl] H fun t5 H =>
 p.store 3 t5 t14 H fun H =>
 p.load true 3 t1 H fun t15 =>
 p.call 4 (.fn 105 [] []) [t15] H fun t16 H =>
 p.un .not t16 fun t17 =>
 p.cond t17
 (p.load true 3 t5 H fun t18 =>
 p.fill [(.sc (.int .i64 0)), (.sc (.bool false)), (.sc (.int .i64 0)), (.sc (.bool false)), (.sc (.int .i64 0)), (.sc (.string ⟨#[]⟩)), .nl, (.sc (.string ⟨#[]⟩)), (.sc (.int .i64 0)), (.sc (.bool false)), (.sc (.int .i64 0)), (.sc (.bool false)), (.sc (.string ⟨#[]⟩)), .nl, (.sc (.int .i64 0)), (.sc (.bool false)), (.sc (.bool false)), (.sc (.string ⟨#[]⟩)), (.sc (.bool false)), .nl, (.sc (.int .i64 0)), (.sc (.bool false)), .nl, .nl, .nl] [] fun ct19 =>
 p.store 3 t2 t18 H fun H =>
 p.store 25 t3 (.agg ct19) H fun H =>
 p.load true 3 t2 H fun r0 =>
 p.load true 25 t3 H fun r1 =>
 k (packA [r0, r1, (.sc (.bool false))]) H)
 (p.fadr 2 t1 fun t21 =>
 p.load false 1 t21 H fun t22 =>
 p.call 129 (.fn 106 [] []) [t22] H fun t23 H =>
 p.extr t23 0 fun t24 =>
 p.extr t23 1 fun t25 =>
 p.extr t23 2 fun t26 =>
 p.new [(.sc (.string ⟨#[]⟩)), .nl, (.sc (.int .i64 0)), (.sc (.bool false))] H fun t7 H =>
 p.store 4 t7 t25 H fun H =>
 p.fadr 2 t5 fun t28 =>
 p.store 1 t28 t24 H fun H =>
 p.fadr 2 t7 fun t29 =>
 p.load false 1 t29 H fun t30 =>
 p.bin .eql t30 (.sc (.int .i64 0)) fun t31 =>
 p.cond t31
 (p.load true 3 t5 H fun t32 =>
 p.load true 4 t7 H fun t33 =>
 p.call 75 (.fn 89 [] []) [t33, (.sc (.int .i64 0)), (.sc (.bool false))] H fun t34 H =>
 p.store 3 t2 t32 H fun H =>
 p.store 25 t3 t34 H fun H =>
 p.load true 3 t2 H fun r0 =>
 p.load true 25 t3 H fun r1 =>
 k (packA [r0, r1, (.sc (.bool true))]) H)
 (f44_l0 p n  k n t1 t2 t3 t5 t7 .nl (.sc (.int .i64 0)) H))
noncomputable def f44_L0 (p : Pr β) (n : Nat)  (k : AV → Heap → Option β) (m : Nat) (tm : Tm) (H : Heap) : Option β :=
 iterC 75 (fun tm H k => evalCode ti0 p o44 75 n (cd c44 [1, 1, 1, 1, 1, 1, 1, 0, 1, 0, 0]) tm H k) (blkK 0 (seqK (fun tm H => evalCode ti0 p o44 75 n (cd c44 [1, 1, 1, 1, 1, 1, 1, 1]) tm H (endK ti0 p Go.Proofs.Tryz.f44.results.toList k)) (endK ti0 p Go.Proofs.Tryz.f44.results.toList k))) m tm H
theorem f44_L0_step (p : Pr β) (n : Nat)  (k : AV → Heap → Option β) (m0 : Nat) (t0 t1 t2 t3 t4 t5 t6 t7 t8 t9 t10 t11 t12 t13 t14 t15 t16 t17 t18 t19 t20 t21 t22 t23 t24 t25 t26 t27 t28 t29 t30 t31 t32 t33 t34 t35 t36 t37 t38 t39 t40 t41 t42 t43 t44 t45 t46 t47 t48 t49 t50 t51 t52 t53 t54 t55 t56 t57 t58 t59 t60 t61 t62 t63 t64 t65 t66 t67 t68 t69 t70 t71 t72 t73 t74 : AV) (H : Heap) : f44_L0 p n  k (m0 + 1) (tz [t0, t1, t2, t3, t4, t5, t6, t7, t8, t9, t10, t11, t12, t13, t14, t15, t16, t17, t18, t19, t20, t21, t22, t23, t24, t25, t26, t27, t28, t29, t30, t31, t32, t33, t34, t35, t36, t37, t38, t39, t40, t41, t42, t43, t44, t45, t46, t47, t48, t49, t50, t51, t52, t53, t54, t55, t56, t57, t58, t59, t60, t61, t62, t63, t64, t65, t66, t67, t68, t69, t70, t71, t72, t73, t74]) H =
 p.fadr 1 t1 fun t37 =>
 p.load false 1 t37 H fun t38 =>
 p.len t38 fun t39 =>
 p.bin .lss t10 t39 fun t40 =>
 p.cond t40
 (p.fadr 1 t1 fun t44 =>
 p.load false 1 t44 H fun t45 =>
 p.iadr 6 t45 t10 fun t47 =>
 p.fadr 0 t47 fun t48 =>
 p.load false 1 t48 H fun t49 =>
 p.fill [(.sc (.int .i64 0))] [(0, 1, t49)] fun ct50 => p.newSl 1 1 ct50 true H fun t50 H =>
 p.app 1 8 t9 t50 H fun t51 H =>
 p.bin .add t10 (.sc (.int .i64 1)) fun t42 =>
 f44_L0 p n  k m0 (tz [t0, t1, t2, t3, t4, t5, t6, t7, t8, t51, t42, t11, t12, t13, t14, t15, t16, t17, t18, t19, t20, t21, t22, t23, t24, t25, t26, t27, t28, t29, t30, t31, t32, t33, t34, t35, t10, t37, t38, t39, t40, t10, t42, t9, t44, t45, t10, t47, t48, t49, t50, t51, t52, t53, t54, t55, t56, t57, t58, t59, t60, t61, t62, t63, t64, t65, t66, t67, t68, t69, t70, t71, t72, t73, t74]) H)
 (p.fadr 0 t1 fun t53 =>
 p.load false 1 t53 H fun t54 =>
 p.call 131 (.fn 107 [] []) [t54, t9] H fun t56 H =>
 p.extr t56 0 fun t57 =>
 p.extr t56 1 fun t58 =>
 p.fadr 0 t5 fun t60 =>
 p.store 1 t60 t57 H fun H =>
 p.fadr 1 t5 fun t61 =>
 p.load false 1 t61 H fun t62 =>
 p.load true 4 t7 H fun t64 =>
 p.fadr 2 t7 fun t65 =>
 p.load false 1 t65 H fun t66 =>
 p.fill [(.sc (.int .i64 0)), (.sc (.string ⟨#[]⟩)), .nl, (.sc (.int .i64 0)), (.sc (.bool false)), (.sc (.int .i64 0))] [(0, 1, t57), (1, 4, t64), (5, 1, t66)] fun ct67 =>
 p.fill [(.sc (.int .i64 0)), (.sc (.string ⟨#[]⟩)), .nl, (.sc (.int .i64 0)), (.sc (.bool false)), (.sc (.int .i64 0))] [(0, 6, (.agg ct67))] fun ct68 => p.newSl 1 6 ct68 true H fun t68 H =>
 p.app 6 72 t62 t68 H fun t69 H =>
 p.fadr 1 t5 fun t70 =>
 p.store 1 t70 t69 H fun H =>
 p.load true 3 t5 H fun t71 =>
 p.load true 4 t7 H fun t72 =>
 p.call 75 (.fn 89 [] []) [t72, t57, (.sc (.bool false))] H fun t74 H =>
 p.store 3 t2 t71 H fun H =>
 p.store 25 t3 t74 H fun H =>
 p.load true 3 t2 H fun r0 =>
 p.load true 25 t3 H fun r1 =>
 k (packA [r0, r1, (.sc (.bool true))]) H) := by kernel_rfl
theorem f44_l0_eq (p : Pr β) (n : Nat)  (k : AV → Heap → Option β)   (m0 : Nat) : ∀ (t0 t1 t2 t3 t4 t5 t6 t7 t8 t9 t10 t11 t12 t13 t14 t15 t16 t17 t18 t19 t20 t21 t22 t23 t24 t25 t26 t27 t28 t29 t30 t31 t32 t33 t34 t35 t36 t37 t38 t39 t40 t41 t42 t43 t44 t45 t46 t47 t48 t49 t50 t51 t52 t53 t54 t55 t56 t57 t58 t59 t60 t61 t62 t63 t64 t65 t66 t67 t68 t69 t70 t71 t72 t73 t74 : AV) (H : Heap), f44_L0 p n  k m0 (tz [t0, t1, t2, t3, t4, t5, t6, t7, t8, t9, t10, t11, t12, t13, t14, t15, t16, t17, t18, t19, t20, t21, t22, t23, t24, t25, t26, t27, t28, t29, t30, t31, t32, t33, t34, t35, t36, t37, t38, t39, t40, t41, t42, t43, t44, t45, t46, t47, t48, t49, t50, t51, t52, t53, t54, t55, t56, t57, t58, t59, t60, t61, t62, t63, t64, t65, t66, t67, t68, t69, t70, t71, t72, t73, t74]) H = f44_l0 p n  k m0 t1 t2 t3 t5 t7 t9 t10 H := by
 induction m0 with
 | zero => intros; rfl
 | succ m0 ih =>
  intro t0 t1 t2 t3 t4 t5 t6 t7 t8 t9 t10 t11 t12 t13 t14 t15 t16 t17 t18 t19 t20 t21 t22 t23 t24 t25 t26 t27 t28 t29 t30 t31 t32 t33 t34 t35 t36 t37 t38 t39 t40 t41 t42 t43 t44 t45 t46 t47 t48 t49 t50 t51 t52 t53 t54 t55 t56 t57 t58 t59 t60 t61 t62 t63 t64 t65 t66 t67 t68 t69 t70 t71 t72 t73 t74 H
  rw [f44_L0_step]
  simp only [ih]
  rfl
theorem f44_raw (p : Pr β) (n : Nat) (a0 : AV) (H : Heap) (k : AV → Heap → Option β) : evalBody ti0 p n ⟨c44, 75, Go.Proofs.Tryz.f44.results.toList, o44⟩ [a0] H k =
 p.box a0 H fun t1 H =>
 p.new [(.sc (.int .i64 0)), .nl, .nl] H fun t2 H =>
 p.new [(.sc (.int .i64 0)), (.sc (.bool false)), (.sc (.int .i64 0)), (.sc (.bool false)), (.sc (.int .i64 0)), (.sc (.string ⟨#[]⟩)), .nl, (.sc (.string ⟨#[]⟩)), (.sc (.int .i64 0)), (.sc (.bool false)), (.sc (.int .i64 0)), (.sc (.bool false)), (.sc (.string ⟨#[]⟩)), .nl, (.sc (.int .i64 0)), (.sc (.bool false)), (.sc (.bool false)), (.sc (.string ⟨#[]⟩)), (.sc (.bool false)), .nl, (.sc (.int .i64 0)), (.sc (.bool false)), .nl, .nl, .nl] H fun t3 H =>
 p.load true 3 t1 H fun t13 =>
 p.call 33 (.fn 104 [] []) [t13] H fun t14 H =>
 p.new [(.sc (.int .i64 0)), .nl, .nl] H fun t5 H =>
 p.store 3 t5 t14 H fun H =>
 p.load true 3 t1 H fun t15 =>
 p.call 4 (.fn 105 [] []) [t15] H fun t16 H =>
 p.un .not t16 fun t17 =>
 p.cond t17
 (p.load true 3 t5 H fun t18 =>
 p.fill [(.sc (.int .i64 0)), (.sc (.bool false)), (.sc (.int .i64 0)), (.sc (.bool false)), (.sc (.int .i64 0)), (.sc (.string ⟨#[]⟩)), .nl, (.sc (.string ⟨#[]⟩)), (.sc (.int .i64 0)), (.sc (.bool false)), (.sc (.int .i64 0)), (.sc (.bool false)), (.sc (.string ⟨#[]⟩)), .nl, (.sc (.int .i64 0)), (.sc (.bool false)), (.sc (.bool false)), (.sc (.string ⟨#[]⟩)), (.sc (.bool false)), .nl, (.sc (.int .i64 0)), (.sc (.bool false)), .nl, .nl, .nl] [] fun ct19 =>
 p.store 3 t2 t18 H fun H =>
 p.store 25 t3 (.agg ct19) H fun H =>
 p.load true 3 t2 H fun r0 =>
 p.load true 25 t3 H fun r1 =>
 k (packA [r0, r1, (.sc (.bool false))]) H)
 (p.fadr 2 t1 fun t21 =>
 p.load false 1 t21 H fun t22 =>
 p.call 129 (.fn 106 [] []) [t22] H fun t23 H =>
 p.extr t23 0 fun t24 =>
 p.extr t23 1 fun t25 =>
 p.extr t23 2 fun t26 =>
 p.new [(.sc (.string ⟨#[]⟩)), .nl, (.sc (.int .i64 0)), (.sc (.bool false))] H fun t7 H =>
 p.store 4 t7 t25 H fun H =>
 p.fadr 2 t5 fun t28 =>
 p.store 1 t28 t24 H fun H =>
 p.fadr 2 t7 fun t29 =>
 p.load false 1 t29 H fun t30 =>
 p.bin .eql t30 (.sc (.int .i64 0)) fun t31 =>
 p.cond t31
 (p.load true 3 t5 H fun t32 =>
 p.load true 4 t7 H fun t33 =>
 p.call 75 (.fn 89 [] []) [t33, (.sc (.int .i64 0)), (.sc (.bool false))] H fun t34 H =>
 p.store 3 t2 t32 H fun H =>
 p.store 25 t3 t34 H fun H =>
 p.load true 3 t2 H fun r0 =>
 p.load true 25 t3 H fun r1 =>
 k (packA [r0, r1, (.sc (.bool true))]) H)
 (f44_L0 p n  k n (tz [a0, t1, t2, t3, (.sc (.bool false)), t5, t24, t7, t26, .nl, (.sc (.int .i64 0)), uu, uu, t13, t14, t15, t16, t17, uu, uu, t23, t21, t22, t23, t24, t25, t26, t24, t28, t29, t30, t31, uu, uu, uu, .nl, uu, uu, uu, uu, uu, uu, uu, uu, uu, uu, uu, uu, uu, uu, uu, uu, uu, uu, uu, uu, uu, uu, uu, uu, uu, uu, uu, uu, uu, uu, uu, uu, uu, uu, uu, uu, uu, uu, uu]) H)) := by kernel_rfl
theorem f44_body (p : Pr β) (n : Nat) (a0 : AV) (H : Heap) (k : AV → Heap → Option β) : evalBody ti0 p n ⟨c44, 75, Go.Proofs.Tryz.f44.results.toList, o44⟩ [a0] H k = f44 p n a0 H k := by
 rw [f44_raw]
 simp only [f44_l0_eq]
 rfl
noncomputable def f149_l0 (p : Pr β) (n : Nat)  (k : AV → Heap → Option β) : Nat → AV → AV → AV → AV → Heap → Option β
 | 0, _, _, _, _, _ => none
 | m + 1, t3, t7, t8, t9, H => p.bin .lss t9 t8 fun t10 =>
   p.cond t10
   (p.iadr 1 t7 t9 fun t11 =>
   p.load false 1 t11 H fun t12 =>
   p.app 1 1 t3 t12 H fun t15 H =>
   p.bin .add t9 (.sc (.int .i64 1)) fun t16 =>
   f149_l0 p n  k m t15 t7 t8 t16 H)
   (k t3 H)
noncomputable def f149 (p : Pr β) (n : Nat) (a0 : AV) (H : Heap) (k : AV → Heap → Option β) : Option β :=
 p.len a0 fun t8 =>
 f149_l0 p n  k n .nl a0 t8 (.sc (.int .i64 0)) H
noncomputable def f149_L0 (p : Pr β) (n : Nat)  (k : AV → Heap → Option β) (m : Nat) (tm : Tm) (H : Heap) : Option β :=
 iterC 18 (fun tm H k => evalCode ti0 p o149 18 n (cd c149 [1, 1, 0, 1, 0, 0]) tm H k) (blkK 0 (seqK (fun tm H => evalCode ti0 p o149 18 n (cd c149 [1, 1, 1]) tm H (endK ti0 p Go.Proofs.Tryz.f149.results.toList k)) (endK ti0 p Go.Proofs.Tryz.f149.results.toList k))) m tm H
theorem f149_L0_step (p : Pr β) (n : Nat)  (k : AV → Heap → Option β) (m0 : Nat) (t0 t1 t2 t3 t4 t5 t6 t7 t8 t9 t10 t11 t12 t13 t14 t15 t16 t17 : AV) (H : Heap) : f149_L0 p n  k (m0 + 1) (tz [t0, t1, t2, t3, t4, t5, t6, t7, t8, t9, t10, t11, t12, t13, t14, t15, t16, t17]) H =
 p.bin .lss t9 t8 fun t10 =>
 p.cond t10
 (p.iadr 1 t7 t9 fun t11 =>
 p.load false 1 t11 H fun t12 =>
 p.app 1 1 t3 t12 H fun t15 H =>
 p.bin .add t9 (.sc (.int .i64 1)) fun t16 =>
 f149_L0 p n  k m0 (tz [t0, t1, t2, t15, t4, t12, t6, t7, t8, t16, t10, t11, t12, t3, t12, t15, t16, t17]) H)
 (k t3 H) := by kernel_rfl
theorem f149_l0_eq (p : Pr β) (n : Nat)  (k : AV → Heap → Option β)   (m0 : Nat) : ∀ (t0 t1 t2 t3 t4 t5 t6 t7 t8 t9 t10 t11 t12 t13 t14 t15 t16 t17 : AV) (H : Heap), f149_L0 p n  k m0 (tz [t0, t1, t2, t3, t4, t5, t6, t7, t8, t9, t10, t11, t12, t13, t14, t15, t16, t17]) H = f149_l0 p n  k m0 t3 t7 t8 t9 H := by
 induction m0 with
 | zero => intros; rfl
 | succ m0 ih =>
  intro t0 t1 t2 t3 t4 t5 t6 t7 t8 t9 t10 t11 t12 t13 t14 t15 t16 t17 H
  rw [f149_L0_step]
  simp only [ih]
  rfl
theorem f149_raw (p : Pr β) (n : Nat) (a0 : AV) (H : Heap) (k : AV → Heap → Option β) : evalBody ti0 p n ⟨c149, 18, Go.Proofs.Tryz.f149.results.toList, o149⟩ [a0] H k =
 p.len a0 fun t8 =>
 f149_L0 p n  k n (tz [a0, uu, .nl, .nl, uu, uu, .nl, a0, t8, (.sc (.int .i64 0)), uu, uu, uu, uu, uu, uu, uu, uu]) H := by kernel_rfl
theorem f149_body (p : Pr β) (n : Nat) (a0 : AV) (H : Heap) (k : AV → Heap → Option β) : evalBody ti0 p n ⟨c149, 18, Go.Proofs.Tryz.f149.results.toList, o149⟩ [a0] H k = f149 p n a0 H k := by
 rw [f149_raw]
 simp only [f149_l0_eq]
 rfl
noncomputable def f155 (p : Pr β) (n : Nat) (a0 : AV) (H : Heap) (k : AV → Heap → Option β) : Option β :=
 p.box a0 H fun t1 H =>
 p.new [(.sc (.string ⟨#[]⟩)), .nl, (.sc (.int .i64 0)), (.sc (.bool false))] H fun t2 H =>
 p.fadr 1 t1 fun t3 =>
 p.load false 1 t3 H fun t4 =>
 p.fill [.nl] [(0, 1, t4)] fun ct5 => p.newSl 1 1 ct5 true H fun t5 H =>
 p.call 43 (.fn 149 [] []) [t5] H fun t6 H =>
 p.fadr 1 t1 fun t7 =>
 p.store 1 t7 t6 H fun H =>
 p.load true 4 t1 H fun t8 =>
 p.store 4 t2 t8 H fun H =>
 p.load true 4 t2 H fun r0 =>
 k r0 H
theorem f155_body (p : Pr β) (n : Nat) (a0 : AV) (H : Heap) (k : AV → Heap → Option β) : evalBody ti0 p n ⟨c155, 9, Go.Proofs.Tryz.f155.results.toList, o155⟩ [a0] H k = f155 p n a0 H k := by kernel_rfl
noncomputable def f154_l0 (p : Pr β) (n : Nat)  (k : AV → Heap → Option β) : Nat → AV → AV → AV → AV → Heap → Option β
 | 0, _, _, _, _, _ => none
 | m + 1, t3, t7, t8, t9, H => p.bin .lss t9 t8 fun t10 =>
   p.cond t10
   (p.iadr 4 t7 t9 fun t11 =>
   p.load true 4 t11 H fun t12 =>
   p.new [(.sc (.string ⟨#[]⟩)), .nl, (.sc (.int .i64 0)), (.sc (.bool false))] H fun t5 H =>
   p.store 4 t5 t12 H fun H =>
   p.load true 4 t5 H fun t14 =>
   p.call 49 (.fn 155 [] []) [t14] H fun t15 H =>
   p.fill [(.sc (.string ⟨#[]⟩)), .nl, (.sc (.int .i64 0)), (.sc (.bool false))] [(0, 4, t15)] fun ct16 => p.newSl 1 4 ct16 true H fun t16 H =>
   p.app 4 56 t3 t16 H fun t17 H =>
   p.bin .add t9 (.sc (.int .i64 1)) fun t18 =>
   f154_l0 p n  k m t17 t7 t8 t18 H)
   (k t3 H)
noncomputable def f154 (p : Pr β) (n : Nat) (a0 : AV) (H : Heap) (k : AV → Heap → Option β) : Option β :=
 p.len a0 fun t8 =>
 f154_l0 p n  k n .nl a0 t8 (.sc (.int .i64 0)) H
noncomputable def f154_L0 (p : Pr β) (n : Nat)  (k : AV → Heap → Option β) (m : Nat) (tm : Tm) (H : Heap) : Option β :=
 iterC 20 (fun tm H k => evalCode ti0 p o154 20 n (cd c154 [1, 1, 0, 1, 0, 0]) tm H k) (blkK 0 (seqK (fun tm H => evalCode ti0 p o154 20 n (cd c154 [1, 1, 1]) tm H (endK ti0 p Go.Proofs.Tryz.f154.results.toList k)) (endK ti0 p Go.Proofs.Tryz.f154.results.toList k))) m tm H
theorem f154_L0_step (p : Pr β) (n : Nat)  (k : AV → Heap → Option β) (m0 : Nat) (t0 t1 t2 t3 t4 t5 t6 t7 t8 t9 t10 t11 t12 t13 t14 t15 t16 t17 t18 t19 : AV) (H : Heap) : f154_L0 p n  k (m0 + 1) (tz [t0, t1, t2, t3, t4, t5, t6, t7, t8, t9, t10, t11, t12, t13, t14, t15, t16, t17, t18, t19]) H =
 p.bin .lss t9 t8 fun t10 =>
 p.cond t10
 (p.iadr 4 t7 t9 fun t11 =>
 p.load true 4 t11 H fun t12 =>
 p.new [(.sc (.string ⟨#[]⟩)), .nl, (.sc (.int .i64 0)), (.sc (.bool false))] H fun t5 H =>
 p.store 4 t5 t12 H fun H =>
 p.load true 4 t5 H fun t14 =>
 p.call 49 (.fn 155 [] []) [t14] H fun t15 H =>
 p.fill [(.sc (.string ⟨#[]⟩)), .nl, (.sc (.int .i64 0)), (.sc (.bool false))] [(0, 4, t15)] fun ct16 => p.newSl 1 4 ct16 true H fun t16 H =>
 p.app 4 56 t3 t16 H fun t17 H =>
 p.bin .add t9 (.sc (.int .i64 1)) fun t18 =>
 f154_L0 p n  k m0 (tz [t0, t1, t2, t17, t4, t5, t6, t7, t8, t18, t10, t11, t12, t3, t14, t15, t16, t17, t18, t19]) H)
 (k t3 H) := by kernel_rfl
theorem f154_l0_eq (p : Pr β) (n : Nat)  (k : AV → Heap → Option β)   (m0 : Nat) : ∀ (t0 t1 t2 t3 t4 t5 t6 t7 t8 t9 t10 t11 t12 t13 t14 t15 t16 t17 t18 t19 : AV) (H : Heap), f154_L0 p n  k m0 (tz [t0, t1, t2, t3, t4, t5, t6, t7, t8, t9, t10, t11, t12, t13, t14, t15, t16, t17, t18, t19]) H = f154_l0 p n  k m0 t3 t7 t8 t9 H := by
 induction m0 with
 | zero => intros; rfl
 | succ m0 ih =>
  intro t0 t1 t2 t3 t4 t5 t6 t7 t8 t9 t10 t11 t12 t13 t14 t15 t16 t17 t18 t19 H
  rw [f154_L0_step]
  simp only [ih]
  rfl
theorem f154_raw (p : Pr β) (n : Nat) (a0 : AV) (H : Heap) (k : AV → Heap → Option β) : evalBody ti0 p n ⟨c154, 20, Go.Proofs.Tryz.f154.results.toList, o154⟩ [a0] H k =
 p.len a0 fun t8 =>
 f154_L0 p n  k n (tz [a0, uu, .nl, .nl, uu, uu, .nl, a0, t8, (.sc (.int .i64 0)), uu, uu, uu, uu, uu, uu, uu, uu, uu, uu]) H := by kernel_rfl
theorem f154_body (p : Pr β) (n : Nat) (a0 : AV) (H : Heap) (k : AV → Heap → Option β) : evalBody ti0 p n ⟨c154, 20, Go.Proofs.Tryz.f154.results.toList, o154⟩ [a0] H k = f154 p n a0 H k := by
 rw [f154_raw]
 simp only [f154_l0_eq]
 rfl
noncomputable def f108_l0 (p : Pr β) (n : Nat)  (k : AV → Heap → Option β) : Nat → AV → AV → AV → AV → AV → Heap → Option β
 | 0, _, _, _, _, _, _ => none
 | m + 1, t2, t3, t13, t14, t15, H => p.bin .lss t15 t14 fun t16 =>
   p.cond t16
   (p.iadr 6 t13 t15 fun t17 =>
   p.load true 6 t17 H fun t18 =>
   p.new [(.sc (.int .i64 0)), (.sc (.string ⟨#[]⟩)), .nl, (.sc (.int .i64 0)), (.sc (.bool false)), (.sc (.int .i64 0))] H fun t5 H =>
   p.store 6 t5 t18 H fun H =>
   p.fadr 1 t3 fun t19 =>
   p.load false 1 t19 H fun t20 =>
   p.fadr 0 t5 fun t21 =>
   p.load false 1 t21 H fun t22 =>
   p.fadr 1 t5 fun t23 =>
   p.load true 4 t23 H fun t24 =>
   p.fadr 5 t5 fun t26 =>
   p.load false 1 t26 H fun t27 =>
   p.call 49 (.fn 155 [] []) [t24] H fun t25 H =>
   p.fill [(.sc (.int .i64 0)), (.sc (.string ⟨#[]⟩)), .nl, (.sc (.int .i64 0)), (.sc (.bool false)), (.sc (.int .i64 0))] [(0, 1, t22), (1, 4, t25), (5, 1, t27)] fun ct28 =>
   p.fill [(.sc (.int .i64 0)), (.sc (.string ⟨#[]⟩)), .nl, (.sc (.int .i64 0)), (.sc (.bool false)), (.sc (.int .i64 0))] [(0, 6, (.agg ct28))] fun ct29 => p.newSl 1 6 ct29 true H fun t29 H =>
   p.app 6 72 t20 t29 H fun t30 H =>
   p.fadr 1 t3 fun t31 =>
   p.store 1 t31 t30 H fun H =>
   p.bin .add t15 (.sc (.int .i64 1)) fun t32 =>
   f108_l0 p n  k m t2 t3 t13 t14 t32 H)
   (p.load true 3 t3 H fun t33 =>
   p.store 3 t2 t33 H fun H =>
   p.load true 3 t2 H fun r0 =>
   k r0 H)
noncomputable def f108 (p : Pr β) (n : Nat) (a0 : AV) (H : Heap) (k : AV → Heap → Option β) : Option β :=
 p.box a0 H fun t1 H =>
 p.new [(.sc (.int .i64 0)), .nl, .nl] H fun t2 H =>
 p.fadr 0 t1 fun t6 =>
 p.load false 1 t6 H fun t7 =>
 p.fadr 2 t1 fun t8 =>
 p.load false 1 t8 H fun t9 =>
 p.both
 (p.call 31 (.fn 154 [] []) [t9] H fun t10 H =>
 p.fill [(.sc (.int .i64 0)), .nl, .nl] [(0, 1, t7), (2, 1, t10)] fun ct11 =>
 p.new [(.sc (.int .i64 0)), .nl, .nl] H fun t3 H =>
 p.store 3 t3 (.agg ct11) H fun H =>
 p.fadr 1 t1 fun t12 =>
 p.load false 1 t12 H fun t13 =>
 p.len t13 fun t14 =>
 f108_l0 p n  k n t2 t3 t13 t14 (.sc (.int .i64 0)) H)
 (p.new [(.sc (.int .i64 0)), .nl, .nl] H fun t3 H =>
 p.call 31 (.fn 154 [] []) [t9] H fun t10 H =>
 p.fill [(.sc (.int .i64 0)), .nl, .nl] [(0, 1, t7), (2, 1, t10)] fun ct11 =>
 p.store 3 t3 (.agg ct11) H fun H =>
 p.fadr 1 t1 fun t12 =>
 p.load false 1 t12 H fun t13 =>
 p.len t13 fun t14 =>
 f108_l0 p n  k n t2 t3 t13 t14 (.sc (.int .i64 0)) H)
noncomputable def f108_L0 (p : Pr β) (n : Nat)  (k : AV → Heap → Option β) (m : Nat) (tm : Tm) (H : Heap) : Option β :=
 iterC 34 (fun tm H k => evalCode ti0 p o108 34 n (cd c108 [1, 1, 0, 1, 0, 0]) tm H k) (blkK 0 (seqK (fun tm H => evalCode ti0 p o108 34 n (cd c108 [1, 1, 1]) tm H (endK ti0 p Go.Proofs.Tryz.f108.results.toList k)) (endK ti0 p Go.Proofs.Tryz.f108.results.toList k))) m tm H
theorem f108_L0_step (p : Pr β) (n : Nat)  (k : AV → Heap → Option β) (m0 : Nat) (t0 t1 t2 t3 t4 t5 t6 t7 t8 t9 t10 t11 t12 t13 t14 t15 t16 t17 t18 t19 t20 t21 t22 t23 t24 t25 t26 t27 t28 t29 t30 t31 t32 t33 : AV) (H : Heap) : f108_L0 p n  k (m0 + 1) (tz [t0, t1, t2, t3, t4, t5, t6, t7, t8, t9, t10, t11, t12, t13, t14, t15, t16, t17, t18, t19, t20, t21, t22, t23, t24, t25, t26, t27, t28, t29, t30, t31, t32, t33]) H =
 p.bin .lss t15 t14 fun t16 =>
 p.cond t16
 (p.iadr 6 t13 t15 fun t17 =>
 p.load true 6 t17 H fun t18 =>
 p.new [(.sc (.int .i64 0)), (.sc (.string ⟨#[]⟩)), .nl, (.sc (.int .i64 0)), (.sc (.bool false)), (.sc (.int .i64 0))] H fun t5 H =>
 p.store 6 t5 t18 H fun H =>
 p.fadr 1 t3 fun t19 =>
 p.load false 1 t19 H fun t20 =>
 p.fadr 0 t5 fun t21 =>
 p.load false 1 t21 H fun t22 =>
 p.fadr 1 t5 fun t23 =>
 p.load true 4 t23 H fun t24 =>
 p.fadr 5 t5 fun t26 =>
 p.load false 1 t26 H fun t27 =>
 p.call 49 (.fn 155 [] []) [t24] H fun t25 H =>
 p.fill [(.sc (.int .i64 0)), (.sc (.string ⟨#[]⟩)), .nl, (.sc (.int .i64 0)), (.sc (.bool false)), (.sc (.int .i64 0))] [(0, 1, t22), (1, 4, t25), (5, 1, t27)] fun ct28 =>
 p.fill [(.sc (.int .i64 0)), (.sc (.string ⟨#[]⟩)), .nl, (.sc (.int .i64 0)), (.sc (.bool false)), (.sc (.int .i64 0))] [(0, 6, (.agg ct28))] fun ct29 => p.newSl 1 6 ct29 true H fun t29 H =>
 p.app 6 72 t20 t29 H fun t30 H =>
 p.fadr 1 t3 fun t31 =>
 p.store 1 t31 t30 H fun H =>
 p.bin .add t15 (.sc (.int .i64 1)) fun t32 =>
 f108_L0 p n  k m0 (tz [t0, t1, t2, t3, t4, t5, t6, t7, t8, t9, t10, t11, t12, t13, t14, t32, t16, t17, t18, t19, t20, t21, t22, t23, t24, t25, t26, t27, (.agg ct28), t29, t30, t31, t32, t33]) H)
 (p.load true 3 t3 H fun t33 =>
 p.store 3 t2 t33 H fun H =>
 p.load true 3 t2 H fun r0 =>
 k r0 H) := by kernel_rfl
theorem f108_l0_eq (p : Pr β) (n : Nat)  (k : AV → Heap → Option β)   (m0 : Nat) : ∀ (t0 t1 t2 t3 t4 t5 t6 t7 t8 t9 t10 t11 t12 t13 t14 t15 t16 t17 t18 t19 t20 t21 t22 t23 t24 t25 t26 t27 t28 t29 t30 t31 t32 t33 : AV) (H : Heap), f108_L0 p n  k m0 (tz [t0, t1, t2, t3, t4, t5, t6, t7, t8, t9, t10, t11, t12, t13, t14, t15, t16, t17, t18, t19, t20, t21, t22, t23, t24, t25, t26, t27, t28, t29, t30, t31, t32, t33]) H = f108_l0 p n  k m0 t2 t3 t13 t14 t15 H := by
 induction m0 with
 | zero => intros; rfl
 | succ m0 ih =>
  intro t0 t1 t2 t3 t4 t5 t6 t7 t8 t9 t10 t11 t12 t13 t14 t15 t16 t17 t18 t19 t20 t21 t22 t23 t24 t25 t26 t27 t28 t29 t30 t31 t32 t33 H
  rw [f108_L0_step]
  simp only [ih]
  rfl
theorem f108_raw (p : Pr β) (n : Nat) (a0 : AV) (H : Heap) (k : AV → Heap → Option β) : evalBody ti0 p n ⟨c108, 34, Go.Proofs.Tryz.f108.results.toList, o108⟩ [a0] H k =
 p.box a0 H fun t1 H =>
 p.new [(.sc (.int .i64 0)), .nl, .nl] H fun t2 H =>
 p.fadr 0 t1 fun t6 =>
 p.load false 1 t6 H fun t7 =>
 p.fadr 2 t1 fun t8 =>
 p.load false 1 t8 H fun t9 =>
 p.both
 (p.call 31 (.fn 154 [] []) [t9] H fun t10 H =>
 p.fill [(.sc (.int .i64 0)), .nl, .nl] [(0, 1, t7), (2, 1, t10)] fun ct11 =>
 p.new [(.sc (.int .i64 0)), .nl, .nl] H fun t3 H =>
 p.store 3 t3 (.agg ct11) H fun H =>
 p.fadr 1 t1 fun t12 =>
 p.load false 1 t12 H fun t13 =>
 p.len t13 fun t14 =>
 f108_L0 p n  k n (tz [a0, t1, t2, t3, uu, uu, t6, t7, t8, t9, t10, (.agg ct11), t12, t13, t14, (.sc (.int .i64 0)), uu, uu, uu, uu, uu, uu, uu, uu, uu, uu, uu, uu, uu, uu, uu, uu, uu, uu]) H)
 (p.new [(.sc (.int .i64 0)), .nl, .nl] H fun t3 H =>
 p.call 31 (.fn 154 [] []) [t9] H fun t10 H =>
 p.fill [(.sc (.int .i64 0)), .nl, .nl] [(0, 1, t7), (2, 1, t10)] fun ct11 =>
 p.store 3 t3 (.agg ct11) H fun H =>
 p.fadr 1 t1 fun t12 =>
 p.load false 1 t12 H fun t13 =>
 p.len t13 fun t14 =>
 f108_L0 p n  k n (tz [a0, t1, t2, t3, uu, uu, t6, t7, t8, t9, t10, (.agg ct11), t12, t13, t14, (.sc (.int .i64 0)), uu, uu, uu, uu, uu, uu, uu, uu, uu, uu, uu, uu, uu, uu, uu, uu, uu, uu]) H) := by kernel_rfl
theorem f108_body (p : Pr β) (n : Nat) (a0 : AV) (H : Heap) (k : AV → Heap → Option β) : evalBody ti0 p n ⟨c108, 34, Go.Proofs.Tryz.f108.results.toList, o108⟩ [a0] H k = f108 p n a0 H k := by
 rw [f108_raw]
 simp only [f108_l0_eq]
 rfl
noncomputable def f128 (p : Pr β) (n : Nat) (a0 a1 a2 : AV) (H : Heap) (k : AV → Heap → Option β) : Option β :=
 p.bin .geq a0 a1 fun t9 =>
 p.guard t9 true H (fun k' => k' a0 H) fun t11 H =>
 p.guard t9 true H (fun k' => k' a2 H) fun t12 H =>
 p.guard t9 true H (fun k' => p.bin .leq t11 t12 fun t' => k' t' H) fun t13 H =>
 p.pick t9 t13 (.sc (.bool false)) fun t14 =>
 k t14 H
theorem f128_body (p : Pr β) (n : Nat) (a0 a1 a2 : AV) (H : Heap) (k : AV → Heap → Option β) : evalBody ti0 p n ⟨c128, 15, Go.Proofs.Tryz.f128.results.toList, o128⟩ [a0, a1, a2] H k = f128 p n a0 a1 a2 H k := by kernel_rfl
noncomputable def f137 (p : Pr β) (n : Nat) (a0 : AV) (H : Heap) (k : AV → Heap → Option β) : Option β :=
 p.call 4 (.fn 128 [] []) [a0, (.sc (.int .i64 1)), (.sc (.int .i64 65535))] H fun t4 H =>
 k t4 H
theorem f137_body (p : Pr β) (n : Nat) (a0 : AV) (H : Heap) (k : AV → Heap → Option β) : evalBody ti0 p n ⟨c137, 5, Go.Proofs.Tryz.f137.results.toList, o137⟩ [a0] H k = f137 p n a0 H k := by kernel_rfl
noncomputable def f158 (p : Pr β) (n : Nat) (a0 a1 : AV) (H : Heap) (k : AV → Heap → Option β) : Option β :=
 p.box a0 H fun t2 H =>
 p.fadr 0 t2 fun t4 =>
 p.load false 1 t4 H fun t5 =>
 p.load false 1 a1 H fun t6 =>
 p.bin .eql t5 t6 fun t7 =>
 k t7 H
theorem f158_body (p : Pr β) (n : Nat) (a0 a1 : AV) (H : Heap) (k : AV → Heap → Option β) : evalBody ti0 p n ⟨c158, 8, Go.Proofs.Tryz.f158.results.toList, o158⟩ [a0, a1] H k = f158 p n a0 a1 H k := by kernel_rfl
noncomputable def f157_l0 (p : Pr β) (n : Nat)  (k : AV → Heap → Option β) : Nat → AV → AV → AV → AV → Heap → Option β
 | 0, _, _, _, _, _ => none
 | m + 1, t0, t1, t7, t8, H => p.bin .lss t8 t7 fun t9 =>
   p.cond t9
   (p.iadr 6 t0 t8 fun t14 =>
   p.load true 6 t14 H fun t15 =>
   p.call 4 t1 [t15] H fun t16 H =>
   p.cond t16
   (k t8 H)
   (p.bin .add t8 (.sc (.int .i64 1)) fun t18 =>
   f157_l0 p n  k m t0 t1 t7 t18 H))
   (k (.sc (.int .i64 (-1))) H)
noncomputable def f157 (p : Pr β) (n : Nat) (a0 a1 : AV) (H : Heap) (k : AV → Heap → Option β) : Option β :=
 p.len a0 fun t7 =>
 f157_l0 p n  k n a0 a1 t7 (.sc (.int .i64 0)) H
noncomputable def f157_L0 (p : Pr β) (n : Nat)  (k : AV → Heap → Option β) (m : Nat) (tm : Tm) (H : Heap) : Option β :=
 iterC 19 (fun tm H k => evalCode ti0 p o157 19 n (cd c157 [1, 0, 1, 0, 0]) tm H k) (blkK 0 (seqK (fun tm H => evalCode ti0 p o157 19 n (cd c157 [1, 1]) tm H (endK ti0 p Go.Proofs.Tryz.f157.results.toList k)) (endK ti0 p Go.Proofs.Tryz.f157.results.toList k))) m tm H
theorem f157_L0_step (p : Pr β) (n : Nat)  (k : AV → Heap → Option β) (m0 : Nat) (t0 t1 t2 t3 t4 t5 t6 t7 t8 t9 t10 t11 t12 t13 t14 t15 t16 t17 t18 : AV) (H : Heap) : f157_L0 p n  k (m0 + 1) (tz [t0, t1, t2, t3, t4, t5, t6, t7, t8, t9, t10, t11, t12, t13, t14, t15, t16, t17, t18]) H =
 p.bin .lss t8 t7 fun t9 =>
 p.cond t9
 (p.iadr 6 t0 t8 fun t14 =>
 p.load true 6 t14 H fun t15 =>
 p.call 4 t1 [t15] H fun t16 H =>
 p.cond t16
 (k t8 H)
 (p.bin .add t8 (.sc (.int .i64 1)) fun t18 =>
 f157_L0 p n  k m0 (tz [t0, t1, t2, t3, t4, t8, t6, t7, t18, t9, t8, t1, t0, t8, t14, t15, t16, t17, t18]) H))
 (k (.sc (.int .i64 (-1))) H) := by kernel_rfl
theorem f157_l0_eq (p : Pr β) (n : Nat)  (k : AV → Heap → Option β)   (m0 : Nat) : ∀ (t0 t1 t2 t3 t4 t5 t6 t7 t8 t9 t10 t11 t12 t13 t14 t15 t16 t17 t18 : AV) (H : Heap), f157_L0 p n  k m0 (tz [t0, t1, t2, t3, t4, t5, t6, t7, t8, t9, t10, t11, t12, t13, t14, t15, t16, t17, t18]) H = f157_l0 p n  k m0 t0 t1 t7 t8 H := by
 induction m0 with
 | zero => intros; rfl
 | succ m0 ih =>
  intro t0 t1 t2 t3 t4 t5 t6 t7 t8 t9 t10 t11 t12 t13 t14 t15 t16 t17 t18 H
  rw [f157_L0_step]
  simp only [ih]
  rfl
theorem f157_raw (p : Pr β) (n : Nat) (a0 a1 : AV) (H : Heap) (k : AV → Heap → Option β) : evalBody ti0 p n ⟨c157, 19, Go.Proofs.Tryz.f157.results.toList, o157⟩ [a0, a1] H k =
 p.len a0 fun t7 =>
 f157_L0 p n  k n (tz [a0, a1, uu, uu, (.sc (.int .i64 0)), uu, a0, t7, (.sc (.int .i64 0)), uu, uu, uu, uu, uu, uu, uu, uu, uu, uu]) H := by kernel_rfl
theorem f157_body (p : Pr β) (n : Nat) (a0 a1 : AV) (H : Heap) (k : AV → Heap → Option β) : evalBody ti0 p n ⟨c157, 19, Go.Proofs.Tryz.f157.results.toList, o157⟩ [a0, a1] H k = f157 p n a0 a1 H k := by
 rw [f157_raw]
 simp only [f157_l0_eq]
 rfl
noncomputable def f116 (p : Pr β) (n : Nat) (a0 a1 : AV) (H : Heap) (k : AV → Heap → Option β) : Option β :=
 p.box a1 H fun t3 H =>
 p.call 3 (.fn 157 [] []) [a0, (.fn 158 [] [t3])] H fun t7 H =>
 k t7 H
theorem f116_body (p : Pr β) (n : Nat) (a0 a1 : AV) (H : Heap) (k : AV → Heap → Option β) : evalBody ti0 p n ⟨c116, 8, Go.Proofs.Tryz.f116.results.toList, o116⟩ [a0, a1] H k = f116 p n a0 a1 H k := by kernel_rfl
noncomputable def f189 (p : Pr β) (n : Nat) (a0 : AV) (H : Heap) (k : AV → Heap → Option β) : Option β :=
 p.call 73 (.fn 202 [] []) [a0, (.sc (.string ⟨#[47]⟩))] H fun t4 H =>
 k t4 H
theorem f189_body (p : Pr β) (n : Nat) (a0 : AV) (H : Heap) (k : AV → Heap → Option β) : evalBody ti0 p n ⟨c189, 5, Go.Proofs.Tryz.f189.results.toList, o189⟩ [a0] H k = f189 p n a0 H k := by kernel_rfl
noncomputable def f169 (p : Pr β) (n : Nat) (a0 : AV) (H : Heap) (k : AV → Heap → Option β) : Option β :=
 p.call 4 (.fn 136 [] []) [a0] H fun t4 H =>
 p.guard t4 true H (fun k' => k' a0 H) fun t6 H =>
 p.guard t4 true H (fun k' => p.bin .neq t6 (.sc (.string ⟨#[]⟩)) fun t' => k' t' H) fun t7 H =>
 p.pick t4 t7 (.sc (.bool false)) fun t8 =>
 p.guard t8 true H (fun k' => k' a0 H) fun t10 H =>
 p.guard t8 true H (fun k' => p.call 4 (.fn 188 [] []) [t10, (.sc (.string ⟨#[43, 35]⟩))] H fun t' H => k' t' H) fun t11 H =>
 p.guard t8 true H (fun k' => p.un .not t11 fun t' => k' t' H) fun t12 H =>
 p.pick t8 t12 (.sc (.bool false)) fun t13 =>
 p.guard t13 true H (fun k' => k' a0 H) fun t15 H =>
 p.guard t13 true H (fun k' => p.call 73 (.fn 189 [] []) [t15] H fun t' H => k' t' H) fun t16 H =>
 p.guard t13 true H (fun k' => p.len t16 fun t' => k' t' H) fun t17 H =>
 p.guard t13 true H (fun k' => p.bin .leq t17 (.sc (.int .i64 6)) fun t' => k' t' H) fun t18 H =>
 p.pick t13 t18 (.sc (.bool false)) fun t19 =>
 k t19 H
theorem f169_body (p : Pr β) (n : Nat) (a0 : AV) (H : Heap) (k : AV → Heap → Option β) : evalBody ti0 p n ⟨c169, 20, Go.Proofs.Tryz.f169.results.toList, o169⟩ [a0] H k = f169 p n a0 H k := by kernel_rfl
noncomputable def f170 (p : Pr β) (n : Nat) (a0 : AV) (H : Heap) (k : AV → Heap → Option β) : Option β :=
 p.call 4 (.fn 128 [] []) [a0, (.sc (.int .i64 0)), (.sc (.int .i64 2))] H fun t4 H =>
 k t4 H
theorem f170_body (p : Pr β) (n : Nat) (a0 : AV) (H : Heap) (k : AV → Heap → Option β) : evalBody ti0 p n ⟨c170, 5, Go.Proofs.Tryz.f170.results.toList, o170⟩ [a0] H k = f170 p n a0 H k := by kernel_rfl
noncomputable def f138 (p : Pr β) (n : Nat) (a0 : AV) (H : Heap) (k : AV → Heap → Option β) : Option β :=
 p.box a0 H fun t1 H =>
 p.fadr 0 t1 fun t3 =>
 p.load false 1 t3 H fun t4 =>
 p.call 4 (.fn 169 [] []) [t4] H fun t5 H =>
 p.guard t5 true H (fun k' => p.fadr 1 t1 fun t' => k' t' H) fun t7 H =>
 p.guard t5 true H (fun k' => p.load false 1 t7 H fun t' => k' t' H) fun t8 H =>
 p.guard t5 true H (fun k' => p.len t8 fun t' => k' t' H) fun t9 H =>
 p.guard t5 true H (fun k' => p.bin .leq t9 (.sc (.int .i64 40)) fun t' => k' t' H) fun t10 H =>
 p.pick t5 t10 (.sc (.bool false)) fun t11 =>
 p.guard t11 true H (fun k' => p.fadr 2 t1 fun t' => k' t' H) fun t13 H =>
 p.guard t11 true H (fun k' => p.load false 1 t13 H fun t' => k' t' H) fun t14 H =>
 p.guard t11 true H (fun k' => p.call 4 (.fn 170 [] []) [t14] H fun t' H => k' t' H) fun t15 H =>
 p.pick t11 t15 (.sc (.bool false)) fun t16 =>
 k t16 H
theorem f138_body (p : Pr β) (n : Nat) (a0 : AV) (H : Heap) (k : AV → Heap → Option β) : evalBody ti0 p n ⟨c138, 17, Go.Proofs.Tryz.f138.results.toList, o138⟩ [a0] H k = f138 p n a0 H k := by kernel_rfl
noncomputable def f139 (p : Pr β) (n : Nat) (a0 : AV) (H : Heap) (k : AV → Heap → Option β) : Option β :=
 p.call 4 (.fn 128 [] []) [a0, (.sc (.int .i64 0)), (.sc (.int .i64 65535))] H fun t4 H =>
 k t4 H
theorem f139_body (p : Pr β) (n : Nat) (a0 : AV) (H : Heap) (k : AV → Heap → Option β) : evalBody ti0 p n ⟨c139, 5, Go.Proofs.Tryz.f139.results.toList, o139⟩ [a0] H k = f139 p n a0 H k := by kernel_rfl
noncomputable def f171_l0 (p : Pr β) (n : Nat)  (k : AV → Heap → Option β) : Nat → AV → AV → AV → Heap → Option β
 | 0, _, _, _, _ => none
 | m + 1, t5, t6, t7, H => p.bin .lss t7 t6 fun t8 =>
   p.cond t8
   (p.iadr 4 t5 t7 fun t9 =>
   p.load true 4 t9 H fun t10 =>
   p.new [(.sc (.string ⟨#[]⟩)), .nl, (.sc (.int .i64 0)), (.sc (.bool false))] H fun t4 H =>
   p.store 4 t4 t10 H fun H =>
   p.load true 4 t4 H fun t11 =>
   p.call 4 (.fn 138 [] []) [t11] H fun t12 H =>
   p.un .not t12 fun t13 =>
   p.cond t13
   (k (.sc (.bool false)) H)
   (p.bin .add t7 (.sc (.int .i64 1)) fun t14 =>
   f171_l0 p n  k m t5 t6 t14 H))
   (k (.sc (.bool true)) H)
noncomputable def f171 (p : Pr β) (n : Nat) (a0 : AV) (H : Heap) (k : AV → Heap → Option β) : Option β :=
 p.len a0 fun t6 =>
 f171_l0 p n  k n a0 t6 (.sc (.int .i64 0)) H
noncomputable def f171_L0 (p : Pr β) (n : Nat)  (k : AV → Heap → Option β) (m : Nat) (tm : Tm) (H : Heap) : Option β :=
 iterC 15 (fun tm H k => evalCode ti0 p o171 15 n (cd c171 [1, 0, 1, 0, 0]) tm H k) (blkK 0 (seqK (fun tm H => evalCode ti0 p o171 15 n (cd c171 [1, 1]) tm H (endK ti0 p Go.Proofs.Tryz.f171.results.toList k)) (endK ti0 p Go.Proofs.Tryz.f171.results.toList k))) m tm H
theorem f171_L0_step (p : Pr β) (n : Nat)  (k : AV → Heap → Option β) (m0 : Nat) (t0 t1 t2 t3 t4 t5 t6 t7 t8 t9 t10 t11 t12 t13 t14 : AV) (H : Heap) : f171_L0 p n  k (m0 + 1) (tz [t0, t1, t2, t3, t4, t5, t6, t7, t8, t9, t10, t11, t12, t13, t14]) H =
 p.bin .lss t7 t6 fun t8 =>
 p.cond t8
 (p.iadr 4 t5 t7 fun t9 =>
 p.load true 4 t9 H fun t10 =>
 p.new [(.sc (.string ⟨#[]⟩)), .nl, (.sc (.int .i64 0)), (.sc (.bool false))] H fun t4 H =>
 p.store 4 t4 t10 H fun H =>
 p.load true 4 t4 H fun t11 =>
 p.call 4 (.fn 138 [] []) [t11] H fun t12 H =>
 p.un .not t12 fun t13 =>
 p.cond t13
 (k (.sc (.bool false)) H)
 (p.bin .add t7 (.sc (.int .i64 1)) fun t14 =>
 f171_L0 p n  k m0 (tz [t0, t1, t2, t3, t4, t5, t6, t14, t8, t9, t10, t11, t12, t13, t14]) H))
 (k (.sc (.bool true)) H) := by kernel_rfl
theorem f171_l0_eq (p : Pr β) (n : Nat)  (k : AV → Heap → Option β)   (m0 : Nat) : ∀ (t0 t1 t2 t3 t4 t5 t6 t7 t8 t9 t10 t11 t12 t13 t14 : AV) (H : Heap), f171_L0 p n  k m0 (tz [t0, t1, t2, t3, t4, t5, t6, t7, t8, t9, t10, t11, t12, t13, t14]) H = f171_l0 p n  k m0 t5 t6 t7 H := by
 induction m0 with
 | zero => intros; rfl
 | succ m0 ih =>
  intro t0 t1 t2 t3 t4 t5 t6 t7 t8 t9 t10 t11 t12 t13 t14 H
  rw [f171_L0_step]
  simp only [ih]
  rfl
theorem f171_raw (p : Pr β) (n : Nat) (a0 : AV) (H : Heap) (k : AV → Heap → Option β) : evalBody ti0 p n ⟨c171, 15, Go.Proofs.Tryz.f171.results.toList, o171⟩ [a0] H k =
 p.len a0 fun t6 =>
 f171_L0 p n  k n (tz [a0, uu, (.sc (.bool false)), uu, uu, a0, t6, (.sc (.int .i64 0)), uu, uu, uu, uu, uu, uu, uu]) H := by kernel_rfl
theorem f171_body (p : Pr β) (n : Nat) (a0 : AV) (H : Heap) (k : AV → Heap → Option β) : evalBody ti0 p n ⟨c171, 15, Go.Proofs.Tryz.f171.results.toList, o171⟩ [a0] H k = f171 p n a0 H k := by
 rw [f171_raw]
 simp only [f171_l0_eq]
 rfl
noncomputable def f140 (p : Pr β) (n : Nat) (a0 : AV) (H : Heap) (k : AV → Heap → Option β) : Option β :=
 p.len a0 fun t4 =>
 p.bin .leq t4 (.sc (.int .i64 6)) fun t5 =>
 p.guard t5 true H (fun k' => k' a0 H) fun t7 H =>
 p.guard t5 true H (fun k' => p.call 4 (.fn 171 [] []) [t7] H fun t' H => k' t' H) fun t8 H =>
 p.pick t5 t8 (.sc (.bool false)) fun t9 =>
 k t9 H
theorem f140_body (p : Pr β) (n : Nat) (a0 : AV) (H : Heap) (k : AV → Heap → Option β) : evalBody ti0 p n ⟨c140, 10, Go.Proofs.Tryz.f140.results.toList, o140⟩ [a0] H k = f140 p n a0 H k := by kernel_rfl
noncomputable def f80_l0 (p : Pr β) (n : Nat)  (k : AV → Heap → Option β) : Nat → AV → AV → AV → AV → Heap → Option β
 | 0, _, _, _, _, _ => none
 | m + 1, t1, t6, t7, t8, H => p.bin .lss t8 t7 fun t9 =>
   p.cond t9
   (p.iadr 6 t6 t8 fun t11 =>
   p.load true 6 t11 H fun t12 =>
   p.new [(.sc (.int .i64 0)), (.sc (.string ⟨#[]⟩)), .nl, (.sc (.int .i64 0)), (.sc (.bool false)), (.sc (.int .i64 0))] H fun t4 H =>
   p.store 6 t4 t12 H fun H =>
   p.fadr 0 t4 fun t13 =>
   p.load false 1 t13 H fun t14 =>
   p.call 4 (.fn 137 [] []) [t14] H fun t15 H =>
   p.un .not t15 fun t16 =>
   p.guard t16 false H (fun k' => p.fadr 1 t1 fun t' => k' t' H) fun t18 H =>
   p.guard t16 false H (fun k' => p.load false 1 t18 H fun t' => k' t' H) fun t19 H =>
   p.guard t16 false H (fun k' => p.fadr 0 t4 fun t' => k' t' H) fun t20 H =>
   p.guard t16 false H (fun k' => p.load false 1 t20 H fun t' => k' t' H) fun t21 H =>
   p.guard t16 false H (fun k' => p.call 3 (.fn 116 [] []) [t19, t21] H fun t' H => k' t' H) fun t22 H =>
   p.guard t16 false H (fun k' => k' t8 H) fun t23 H =>
   p.guard t16 false H (fun k' => p.bin .neq t22 t23 fun t' => k' t' H) fun t24 H =>
   p.pick t16 (.sc (.bool true)) t24 fun t25 =>
   p.guard t25 false H (fun k' => p.fadr 1 t4 fun t' => k' t' H) fun t27 H =>
   p.guard t25 false H (fun k' => p.load true 4 t27 H fun t' => k' t' H) fun t28 H =>
   p.guard t25 false H (fun k' => p.call 4 (.fn 138 [] []) [t28] H fun t' H => k' t' H) fun t29 H =>
   p.guard t25 false H (fun k' => p.un .not t29 fun t' => k' t' H) fun t30 H =>
   p.pick t25 (.sc (.bool true)) t30 fun t31 =>
   p.cond t31
   (k (.sc (.bool false)) H)
   (p.fadr 1 t4 fun t32 =>
   p.fadr 2 t32 fun t33 =>
   p.load false 1 t33 H fun t34 =>
   p.bin .eql t34 (.sc (.int .i64 0)) fun t35 =>
   p.guard t35 false H (fun k' => p.fadr 1 t4 fun t' => k' t' H) fun t37 H =>
   p.guard t35 false H (fun k' => p.fadr 2 t37 fun t' => k' t' H) fun t38 H =>
   p.guard t35 false H (fun k' => p.load false 1 t38 H fun t' => k' t' H) fun t39 H =>
   p.guard t35 false H (fun k' => p.bin .eql t39 (.sc (.int .i64 1)) fun t' => k' t' H) fun t40 H =>
   p.guard t35 false H (fun k' => p.fadr 5 t4 fun t' => k' t' H) fun t41 H =>
   p.guard t35 false H (fun k' => p.load false 1 t41 H fun t' => k' t' H) fun t42 H =>
   p.guard t35 false H (fun k' => p.bin .eql t42 (.sc (.int .i64 1)) fun t' => k' t' H) fun t43 H =>
   p.guard t35 false H (fun k' => p.binB .neq t40 t43 fun t' => k' t' H) fun t44 H =>
   p.pick t35 (.sc (.bool true)) t44 fun t45 =>
   p.guard t45 false H (fun k' => p.fadr 5 t4 fun t' => k' t' H) fun t47 H =>
   p.guard t45 false H (fun k' => p.load false 1 t47 H fun t' => k' t' H) fun t48 H =>
   p.guard t45 false H (fun k' => p.call 4 (.fn 128 [] []) [t48, (.sc (.int .i64 1)), (.sc (.int .i64 3))] H fun t' H => k' t' H) fun t49 H =>
   p.guard t45 false H (fun k' => p.un .not t49 fun t' => k' t' H) fun t50 H =>
   p.pick t45 (.sc (.bool true)) t50 fun t51 =>
   p.cond t51
   (k (.sc (.bool false)) H)
   (p.bin .add t8 (.sc (.int .i64 1)) fun t52 =>
   f80_l0 p n  k m t1 t6 t7 t52 H)))
   (p.fadr 0 t1 fun t53 =>
   p.load false 1 t53 H fun t54 =>
   p.call 4 (.fn 139 [] []) [t54] H fun t55 H =>
   p.guard t55 true H (fun k' => p.fadr 1 t1 fun t' => k' t' H) fun t57 H =>
   p.guard t55 true H (fun k' => p.load false 1 t57 H fun t' => k' t' H) fun t58 H =>
   p.guard t55 true H (fun k' => p.len t58 fun t' => k' t' H) fun t59 H =>
   p.guard t55 true H (fun k' => p.bin .leq t59 (.sc (.int .i64 3)) fun t' => k' t' H) fun t60 H =>
   p.pick t55 t60 (.sc (.bool false)) fun t61 =>
   p.guard t61 true H (fun k' => p.fadr 2 t1 fun t' => k' t' H) fun t63 H =>
   p.guard t61 true H (fun k' => p.load false 1 t63 H fun t' => k' t' H) fun t64 H =>
   p.guard t61 true H (fun k' => p.call 4 (.fn 140 [] []) [t64] H fun t' H => k' t' H) fun t65 H =>
   p.pick t61 t65 (.sc (.bool false)) fun t66 =>
   k t66 H)
noncomputable def f80 (p : Pr β) (n : Nat) (a0 : AV) (H : Heap) (k : AV → Heap → Option β) : Option β :=
 p.box a0 H fun t1 H =>
 p.fadr 1 t1 fun t5 =>
 p.load false 1 t5 H fun t6 =>
 p.len t6 fun t7 =>
 f80_l0 p n  k n t1 t6 t7 (.sc (.int .i64 0)) H
noncomputable def f80_L0 (p : Pr β) (n : Nat)  (k : AV → Heap → Option β) (m : Nat) (tm : Tm) (H : Heap) : Option β :=
 iterC 67 (fun tm H k => evalCode ti0 p o80 67 n (cd c80 [1, 0, 1, 0, 0]) tm H k) (blkK 0 (seqK (fun tm H => evalCode ti0 p o80 67 n (cd c80 [1, 1]) tm H (endK ti0 p Go.Proofs.Tryz.f80.results.toList k)) (endK ti0 p Go.Proofs.Tryz.f80.results.toList k))) m tm H
theorem f80_L0_step (p : Pr β) (n : Nat)  (k : AV → Heap → Option β) (m0 : Nat) (t0 t1 t2 t3 t4 t5 t6 t7 t8 t9 t10 t11 t12 t13 t14 t15 t16 t17 t18 t19 t20 t21 t22 t23 t24 t25 t26 t27 t28 t29 t30 t31 t32 t33 t34 t35 t36 t37 t38 t39 t40 t41 t42 t43 t44 t45 t46 t47 t48 t49 t50 t51 t52 t53 t54 t55 t56 t57 t58 t59 t60 t61 t62 t63 t64 t65 t66 : AV) (H : Heap) : f80_L0 p n  k (m0 + 1) (tz [t0, t1, t2, t3, t4, t5, t6, t7, t8, t9, t10, t11, t12, t13, t14, t15, t16, t17, t18, t19, t20, t21, t22, t23, t24, t25, t26, t27, t28, t29, t30, t31, t32, t33, t34, t35, t36, t37, t38, t39, t40, t41, t42, t43, t44, t45, t46, t47, t48, t49, t50, t51, t52, t53, t54, t55, t56, t57, t58, t59, t60, t61, t62, t63, t64, t65, t66]) H =
 p.bin .lss t8 t7 fun t9 =>
 p.cond t9
 (p.iadr 6 t6 t8 fun t11 =>
 p.load true 6 t11 H fun t12 =>
 p.new [(.sc (.int .i64 0)), (.sc (.string ⟨#[]⟩)), .nl, (.sc (.int .i64 0)), (.sc (.bool false)), (.sc (.int .i64 0))] H fun t4 H =>
 p.store 6 t4 t12 H fun H =>
 p.fadr 0 t4 fun t13 =>
 p.load false 1 t13 H fun t14 =>
 p.call 4 (.fn 137 [] []) [t14] H fun t15 H =>
 p.un .not t15 fun t16 =>
 p.guard t16 false H (fun k' => p.fadr 1 t1 fun t' => k' t' H) fun t18 H =>
 p.guard t16 false H (fun k' => p.load false 1 t18 H fun t' => k' t' H) fun t19 H =>
 p.guard t16 false H (fun k' => p.fadr 0 t4 fun t' => k' t' H) fun t20 H =>
 p.guard t16 false H (fun k' => p.load false 1 t20 H fun t' => k' t' H) fun t21 H =>
 p.guard t16 false H (fun k' => p.call 3 (.fn 116 [] []) [t19, t21] H fun t' H => k' t' H) fun t22 H =>
 p.guard t16 false H (fun k' => k' t8 H) fun t23 H =>
 p.guard t16 false H (fun k' => p.bin .neq t22 t23 fun t' => k' t' H) fun t24 H =>
 p.pick t16 (.sc (.bool true)) t24 fun t25 =>
 p.guard t25 false H (fun k' => p.fadr 1 t4 fun t' => k' t' H) fun t27 H =>
 p.guard t25 false H (fun k' => p.load true 4 t27 H fun t' => k' t' H) fun t28 H =>
 p.guard t25 false H (fun k' => p.call 4 (.fn 138 [] []) [t28] H fun t' H => k' t' H) fun t29 H =>
 p.guard t25 false H (fun k' => p.un .not t29 fun t' => k' t' H) fun t30 H =>
 p.pick t25 (.sc (.bool true)) t30 fun t31 =>
 p.cond t31
 (k (.sc (.bool false)) H)
 (p.fadr 1 t4 fun t32 =>
 p.fadr 2 t32 fun t33 =>
 p.load false 1 t33 H fun t34 =>
 p.bin .eql t34 (.sc (.int .i64 0)) fun t35 =>
 p.guard t35 false H (fun k' => p.fadr 1 t4 fun t' => k' t' H) fun t37 H =>
 p.guard t35 false H (fun k' => p.fadr 2 t37 fun t' => k' t' H) fun t38 H =>
 p.guard t35 false H (fun k' => p.load false 1 t38 H fun t' => k' t' H) fun t39 H =>
 p.guard t35 false H (fun k' => p.bin .eql t39 (.sc (.int .i64 1)) fun t' => k' t' H) fun t40 H =>
 p.guard t35 false H (fun k' => p.fadr 5 t4 fun t' => k' t' H) fun t41 H =>
 p.guard t35 false H (fun k' => p.load false 1 t41 H fun t' => k' t' H) fun t42 H =>
 p.guard t35 false H (fun k' => p.bin .eql t42 (.sc (.int .i64 1)) fun t' => k' t' H) fun t43 H =>
 p.guard t35 false H (fun k' => p.binB .neq t40 t43 fun t' => k' t' H) fun t44 H =>
 p.pick t35 (.sc (.bool true)) t44 fun t45 =>
 p.guard t45 false H (fun k' => p.fadr 5 t4 fun t' => k' t' H) fun t47 H =>
 p.guard t45 false H (fun k' => p.load false 1 t47 H fun t' => k' t' H) fun t48 H =>
 p.guard t45 false H (fun k' => p.call 4 (.fn 128 [] []) [t48, (.sc (.int .i64 1)), (.sc (.int .i64 3))] H fun t' H => k' t' H) fun t49 H =>
 p.guard t45 false H (fun k' => p.un .not t49 fun t' => k' t' H) fun t50 H =>
 p.pick t45 (.sc (.bool true)) t50 fun t51 =>
 p.cond t51
 (k (.sc (.bool false)) H)
 (p.bin .add t8 (.sc (.int .i64 1)) fun t52 =>
 f80_L0 p n  k m0 (tz [t0, t1, t2, t8, t4, t5, t6, t7, t52, t9, t8, t11, t12, t13, t14, t15, t16, t16, t18, t19, t20, t21, t22, t23, t24, t25, t25, t27, t28, t29, t30, t31, t32, t33, t34, t35, t35, t37, t38, t39, t40, t41, t42, t43, t44, t45, t45, t47, t48, t49, t50, t51, t52, t53, t54, t55, t56, t57, t58, t59, t60, t61, t62, t63, t64, t65, t66]) H)))
 (p.fadr 0 t1 fun t53 =>
 p.load false 1 t53 H fun t54 =>
 p.call 4 (.fn 139 [] []) [t54] H fun t55 H =>
 p.guard t55 true H (fun k' => p.fadr 1 t1 fun t' => k' t' H) fun t57 H =>
 p.guard t55 true H (fun k' => p.load false 1 t57 H fun t' => k' t' H) fun t58 H =>
 p.guard t55 true H (fun k' => p.len t58 fun t' => k' t' H) fun t59 H =>
 p.guard t55 true H (fun k' => p.bin .leq t59 (.sc (.int .i64 3)) fun t' => k' t' H) fun t60 H =>
 p.pick t55 t60 (.sc (.bool false)) fun t61 =>
 p.guard t61 true H (fun k' => p.fadr 2 t1 fun t' => k' t' H) fun t63 H =>
 p.guard t61 true H (fun k' => p.load false 1 t63 H fun t' => k' t' H) fun t64 H =>
 p.guard t61 true H (fun k' => p.call 4 (.fn 140 [] []) [t64] H fun t' H => k' t' H) fun t65 H =>
 p.pick t61 t65 (.sc (.bool false)) fun t66 =>
 k t66 H) := by kernel_rfl
theorem f80_l0_eq (p : Pr β) (n : Nat)  (k : AV → Heap → Option β)   (m0 : Nat) : ∀ (t0 t1 t2 t3 t4 t5 t6 t7 t8 t9 t10 t11 t12 t13 t14 t15 t16 t17 t18 t19 t20 t21 t22 t23 t24 t25 t26 t27 t28 t29 t30 t31 t32 t33 t34 t35 t36 t37 t38 t39 t40 t41 t42 t43 t44 t45 t46 t47 t48 t49 t50 t51 t52 t53 t54 t55 t56 t57 t58 t59 t60 t61 t62 t63 t64 t65 t66 : AV) (H : Heap), f80_L0 p n  k m0 (tz [t0, t1, t2, t3, t4, t5, t6, t7, t8, t9, t10, t11, t12, t13, t14, t15, t16, t17, t18, t19, t20, t21, t22, t23, t24, t25, t26, t27, t28, t29, t30, t31, t32, t33, t34, t35, t36, t37, t38, t39, t40, t41, t42, t43, t44, t45, t46, t47, t48, t49, t50, t51, t52, t53, t54, t55, t56, t57, t58, t59, t60, t61, t62, t63, t64, t65, t66]) H = f80_l0 p n  k m0 t1 t6 t7 t8 H := by
 induction m0 with
 | zero => intros; rfl
 | succ m0 ih =>
  intro t0 t1 t2 t3 t4 t5 t6 t7 t8 t9 t10 t11 t12 t13 t14 t15 t16 t17 t18 t19 t20 t21 t22 t23 t24 t25 t26 t27 t28 t29 t30 t31 t32 t33 t34 t35 t36 t37 t38 t39 t40 t41 t42 t43 t44 t45 t46 t47 t48 t49 t50 t51 t52 t53 t54 t55 t56 t57 t58 t59 t60 t61 t62 t63 t64 t65 t66 H
  rw [f80_L0_step]
  simp only [ih]
  rfl
theorem f80_raw (p : Pr β) (n : Nat) (a0 : AV) (H : Heap) (k : AV → Heap → Option β) : evalBody ti0 p n ⟨c80, 67, Go.Proofs.Tryz.f80.results.toList, o80⟩ [a0] H k =
 p.box a0 H fun t1 H =>
 p.fadr 1 t1 fun t5 =>
 p.load false 1 t5 H fun t6 =>
 p.len t6 fun t7 =>
 f80_L0 p n  k n (tz [a0, t1, (.sc (.bool false)), uu, uu, t5, t6, t7, (.sc (.int .i64 0)), uu, uu, uu, uu, uu, uu, uu, uu, uu, uu, uu, uu, uu, uu, uu, uu, uu, uu, uu, uu, uu, uu, uu, uu, uu, uu, uu, uu, uu, uu, uu, uu, uu, uu, uu, uu, uu, uu, uu, uu, uu, uu, uu, uu, uu, uu, uu, uu, uu, uu, uu, uu, uu, uu, uu, uu, uu, uu]) H := by kernel_rfl
theorem f80_body (p : Pr β) (n : Nat) (a0 : AV) (H : Heap) (k : AV → Heap → Option β) : evalBody ti0 p n ⟨c80, 67, Go.Proofs.Tryz.f80.results.toList, o80⟩ [a0] H k = f80 p n a0 H k := by
 rw [f80_raw]
 simp only [f80_l0_eq]
 rfl
noncomputable def f109 (p : Pr β) (n : Nat) (a0 : AV) (H : Heap) (k : AV → Heap → Option β) : Option β :=
 p.box a0 H fun t1 H =>
 p.load true 3 t1 H fun t3 =>
 p.call 4 (.fn 80 [] []) [t3] H fun t4 H =>
 p.guard t4 true H (fun k' => p.fadr 2 t1 fun t' => k' t' H) fun t6 H =>
 p.guard t4 true H (fun k' => p.load false 1 t6 H fun t' => k' t' H) fun t7 H =>
 p.guard t4 true H (fun k' => p.len t7 fun t' => k' t' H) fun t8 H =>
 p.guard t4 true H (fun k' => p.bin .gtr t8 (.sc (.int .i64 0)) fun t' => k' t' H) fun t9 H =>
 p.pick t4 t9 (.sc (.bool false)) fun t10 =>
 p.guard t10 true H (fun k' => p.fadr 2 t1 fun t' => k' t' H) fun t12 H =>
 p.guard t10 true H (fun k' => p.load false 1 t12 H fun t' => k' t' H) fun t13 H =>
 p.guard t10 true H (fun k' => p.iadr 4 t13 (.sc (.int .i64 0)) fun t' => k' t' H) fun t14 H =>
 p.guard t10 true H (fun k' => p.fadr 2 t14 fun t' => k' t' H) fun t15 H =>
 p.guard t10 true H (fun k' => p.load false 1 t15 H fun t' => k' t' H) fun t16 H =>
 p.guard t10 true H (fun k' => p.bin .eql t16 (.sc (.int .i64 0)) fun t' => k' t' H) fun t17 H =>
 p.guard t10 true H (fun k' => k' t17 H) fun t18 H =>
 p.guard t18 false H (fun k' => p.fadr 1 t1 fun t' => k' t' H) fun t19 H =>
 p.guard t18 false H (fun k' => p.load false 1 t19 H fun t' => k' t' H) fun t20 H =>
 p.guard t18 false H (fun k' => p.len t20 fun t' => k' t' H) fun t21 H =>
 p.guard t18 false H (fun k' => p.bin .lss t21 (.sc (.int .i64 3)) fun t' => k' t' H) fun t22 H =>
 p.guard t10 true H (fun k' => p.pick t18 (.sc (.bool true)) t22 fun t' => k' t' H) fun t23 H =>
 p.pick t10 t23 (.sc (.bool false)) fun t24 =>
 k t24 H
theorem f109_body (p : Pr β) (n : Nat) (a0 : AV) (H : Heap) (k : AV → Heap → Option β) : evalBody ti0 p n ⟨c109, 25, Go.Proofs.Tryz.f109.results.toList, o109⟩ [a0] H k = f109 p n a0 H k := by kernel_rfl
noncomputable def f110 (p : Pr β) (n : Nat) (a0 : AV) (H : Heap) (k : AV → Heap → Option β) : Option β :=
 p.new [(.sc (.string ⟨#[]⟩)), .nl, (.sc (.int .i64 0)), (.sc (.bool false))] H fun t3 H =>
 p.call 31 (.fn 154 [] []) [a0] H fun t7 H =>
 p.len a0 fun t9 =>
 p.bin .eql t9 (.sc (.int .i64 0)) fun t10 =>
 p.cond t10
 (p.fill [(.sc (.string ⟨#[]⟩)), .nl, (.sc (.int .i64 0)), (.sc (.bool false))] [] fun ct12 =>
 p.store 4 t3 (.agg ct12) H fun H =>
 p.load true 4 t3 H fun r1 =>
 k (packA [t7, r1, (.sc (.bool false))]) H)
 (p.slice 4 t7 (some (.sc (.int .i64 1))) none fun t14 =>
 p.iadr 4 t7 (.sc (.int .i64 0)) fun t16 =>
 p.load true 4 t16 H fun t17 =>
 p.store 4 t3 t17 H fun H =>
 p.load true 4 t3 H fun r1 =>
 k (packA [t14, r1, (.sc (.bool true))]) H)
theorem f110_body (p : Pr β) (n : Nat) (a0 : AV) (H : Heap) (k : AV → Heap → Option β) : evalBody ti0 p n ⟨c110, 18, Go.Proofs.Tryz.f110.results.toList, o110⟩ [a0] H k = f110 p n a0 H k := by kernel_rfl
noncomputable def f93 (p : Pr β) (n : Nat) (a0 a1 a2 : AV) (H : Heap) (k : AV → Heap → Option β) : Option β :=
 p.box a0 H fun t3 H =>
 p.new [(.sc (.int .i64 0)), (.sc (.bool false)), (.sc (.int .i64 0)), (.sc (.bool false)), (.sc (.int .i64 0)), (.sc (.string ⟨#[]⟩)), .nl, (.sc (.string ⟨#[]⟩)), (.sc (.int .i64 0)), (.sc (.bool false)), (.sc (.int .i64 0)), (.sc (.bool false)), (.sc (.string ⟨#[]⟩)), .nl, (.sc (.int .i64 0)), (.sc (.bool false)), (.sc (.bool false)), (.sc (.string ⟨#[]⟩)), (.sc (.bool false)), .nl, (.sc (.int .i64 0)), (.sc (.bool false)), .nl, .nl, .nl] H fun t6 H =>
 p.fadr 2 t3 fun t8 =>
 p.load false 1 t8 H fun t9 =>
 p.fadr 3 t3 fun t10 =>
 p.load false 1 t10 H fun t11 =>
 p.fadr 0 t3 fun t13 =>
 p.load false 1 t13 H fun t14 =>
 p.fadr 1 t3 fun t15 =>
 p.load false 1 t15 H fun t16 =>
 p.fill [.nl] [(0, 1, t16)] fun ct17 => p.newSl 1 1 ct17 true H fun t17 H =>
 p.call 43 (.fn 149 [] []) [t17] H fun t18 H =>
 p.fill [(.sc (.int .i64 0)), (.sc (.bool false)), (.sc (.int .i64 0)), (.sc (.bool false)), (.sc (.int .i64 0)), (.sc (.string ⟨#[]⟩)), .nl, (.sc (.string ⟨#[]⟩)), (.sc (.int .i64 0)), (.sc (.bool false)), (.sc (.int .i64 0)), (.sc (.bool false)), (.sc (.string ⟨#[]⟩)), .nl, (.sc (.int .i64 0)), (.sc (.bool false)), (.sc (.bool false)), (.sc (.string ⟨#[]⟩)), (.sc (.bool false)), .nl, (.sc (.int .i64 0)), (.sc (.bool false)), .nl, .nl, .nl] [(0, 1, (.sc (.int .i64 3))), (1, 1, a2), (2, 1, t9), (3, 1, t11), (4, 1, a1), (5, 1, t14), (6, 1, t18)] fun ct19 =>
 p.store 25 t6 (.agg ct19) H fun H =>
 p.load true 25 t6 H fun r0 =>
 k r0 H
theorem f93_body (p : Pr β) (n : Nat) (a0 a1 a2 : AV) (H : Heap) (k : AV → Heap → Option β) : evalBody ti0 p n ⟨c93, 20, Go.Proofs.Tryz.f93.results.toList, o93⟩ [a0, a1, a2] H k = f93 p n a0 a1 a2 H k := by kernel_rfl
noncomputable def f111_l1 (p : Pr β) (n : Nat)  (k : AV → Heap → Option β) : Nat → AV → AV → AV → Heap → Option β
 | 0, _, _, _, _ => none
 | m + 1, t6, t9, t27, H => p.bin .lss t27 (.sc (.int .i64 65535)) fun t28 =>
   p.cond t28
   (p.bin .add t9 (.sc (.int .i64 1)) fun t30 =>
   p.bin .gtr t30 (.sc (.int .i64 65535)) fun t32 =>
   letJ (fun (t6 t9 t27 : AV) (H : Heap) => p.iadr 1 t6 t9 fun t35 =>
   p.load false 1 t35 H fun t36 =>
   p.un .not t36 fun t37 =>
   p.cond t37
   (k (packA [t9, (.sc (.bool true))]) H)
   (p.bin .add t27 (.sc (.int .i64 1)) fun t39 =>
   f111_l1 p n  k m t6 t9 t39 H)) fun j1 =>
   p.cond t32
   (j1 t6 (.sc (.int .i64 1)) t27 H)
   (j1 t6 t30 t27 H))
   (k (packA [(.sc (.int .i64 0)), (.sc (.bool false))]) H)
noncomputable def f111_l0 (p : Pr β) (n : Nat)  (k : AV → Heap → Option β) : Nat → AV → AV → AV → AV → AV → Heap → Option β
 | 0, _, _, _, _, _, _ => none
 | m + 1, t0, t6, t14, t15, t16, H => p.bin .lss t16 t15 fun t17 =>
   p.cond t17
   (p.iadr 1 t14 t16 fun t18 =>
   p.load false 1 t18 H fun t19 =>
   p.call 4 (.fn 137 [] []) [t19] H fun t21 H =>
   p.cond t21
   (p.iadr 1 t6 t19 fun t24 =>
   p.store 1 t24 (.sc (.bool true)) H fun H =>
   p.bin .add t16 (.sc (.int .i64 1)) fun t25 =>
   f111_l0 p n  k m t0 t6 t14 t15 t25 H)
   (p.bin .add t16 (.sc (.int .i64 1)) fun t25 =>
   f111_l0 p n  k m t0 t6 t14 t15 t25 H))
   (f111_l1 p n  k n t6 t0 (.sc (.int .i64 0)) H)
noncomputable def f111 (p : Pr β) (n : Nat) (a0 a1 : AV) (H : Heap) (k : AV → Heap → Option β) : Option β :=
 p.call 4 (.fn 139 [] []) [a0] H fun t11 H =>
 p.un .not t11 fun t12 =>
 p.cond t12
 (k (packA [(.sc (.int .i64 0)), (.sc (.bool false))]) H)
 (p.make 1 1 [(.sc (.bool false))] (.sc (.int .i64 65536)) (.sc (.int .i64 65536)) H fun t13 H =>
 p.len a1 fun t15 =>
 f111_l0 p n  k n a0 t13 a1 t15 (.sc (.int .i64 0)) H)
noncomputable def f111_L1 (p : Pr β) (n : Nat)  (k : AV → Heap → Option β) (m : Nat) (tm : Tm) (H : Heap) : Option β :=
 iterC 40 (fun tm H k => evalCode ti0 p o111 40 n (cd c111 [1, 1, 1, 1, 1, 0, 1, 0, 0]) tm H k) (blkK 2 (seqK (fun tm H => evalCode ti0 p o111 40 n (cd c111 [1, 1, 1, 1, 1, 1]) tm H (endK ti0 p Go.Proofs.Tryz.f111.results.toList k)) (endK ti0 p Go.Proofs.Tryz.f111.results.toList k))) m tm H
noncomputable def f111_L0 (p : Pr β) (n : Nat)  (k : AV → Heap → Option β) (m : Nat) (tm : Tm) (H : Heap) : Option β :=
 iterC 40 (fun tm H k => evalCode ti0 p o111 40 n (cd c111 [1, 1, 1, 0, 1, 0, 0]) tm H k) (blkK 0 (seqK (fun tm H => evalCode ti0 p o111 40 n (cd c111 [1, 1, 1, 1]) tm H (endK ti0 p Go.Proofs.Tryz.f111.results.toList k)) (endK ti0 p Go.Proofs.Tryz.f111.results.toList k))) m tm H
theorem f111_L1_step (p : Pr β) (n : Nat)  (k : AV → Heap → Option β) (m1 : Nat) (t0 t1 t2 t3 t4 t5 t6 t7 t8 t9 t10 t11 t12 t13 t14 t15 t16 t17 t18 t19 t20 t21 t22 t23 t24 t25 t26 t27 t28 t29 t30 t31 t32 t33 t34 t35 t36 t37 t38 t39 : AV) (H : Heap) : f111_L1 p n  k (m1 + 1) (tz [t0, t1, t2, t3, t4, t5, t6, t7, t8, t9, t10, t11, t12, t13, t14, t15, t16, t17, t18, t19, t20, t21, t22, t23, t24, t25, t26, t27, t28, t29, t30, t31, t32, t33, t34, t35, t36, t37, t38, t39]) H =
 p.bin .lss t27 (.sc (.int .i64 65535)) fun t28 =>
 p.cond t28
 (p.bin .add t9 (.sc (.int .i64 1)) fun t30 =>
 p.bin .gtr t30 (.sc (.int .i64 65535)) fun t32 =>
 letJ (fun (t0 t1 t2 t3 t4 t5 t6 t7 t8 t9 t10 t11 t12 t13 t14 t15 t16 t17 t18 t19 t20 t21 t22 t23 t24 t25 t26 t27 t28 t29 t30 t31 t32 t33 t34 t35 t36 t37 t38 t39 : AV) (H : Heap) => p.iadr 1 t6 t9 fun t35 =>
 p.load false 1 t35 H fun t36 =>
 p.un .not t36 fun t37 =>
 p.cond t37
 (k (packA [t9, (.sc (.bool true))]) H)
 (p.bin .add t27 (.sc (.int .i64 1)) fun t39 =>
 f111_L1 p n  k m1 (tz [t0, t1, t2, t3, t4, t5, t6, t7, t8, t9, t10, t11, t12, t13, t14, t15, t16, t17, t18, t19, t20, t21, t22, t23, t24, t25, t26, t39, t28, t29, t30, t31, t32, t6, t9, t35, t36, t37, t38, t39]) H)) fun j1 =>
 p.cond t32
 (j1 t0 t1 t2 t3 t4 t5 t6 t7 t8 (.sc (.int .i64 1)) t10 t11 t12 t13 t14 t15 t16 t17 t18 t19 t20 t21 t22 t23 t24 t25 t26 t27 t28 t9 t30 t30 t32 t33 t34 t35 t36 t37 t38 t39 H)
 (j1 t0 t1 t2 t3 t4 t5 t6 t7 t8 t30 t10 t11 t12 t13 t14 t15 t16 t17 t18 t19 t20 t21 t22 t23 t24 t25 t26 t27 t28 t9 t30 t30 t32 t33 t34 t35 t36 t37 t38 t39 H))
 (k (packA [(.sc (.int .i64 0)), (.sc (.bool false))]) H) := by kernel_rfl
theorem f111_l1_eq (p : Pr β) (n : Nat)  (k : AV → Heap → Option β)   (m1 : Nat) : ∀ (t0 t1 t2 t3 t4 t5 t6 t7 t8 t9 t10 t11 t12 t13 t14 t15 t16 t17 t18 t19 t20 t21 t22 t23 t24 t25 t26 t27 t28 t29 t30 t31 t32 t33 t34 t35 t36 t37 t38 t39 : AV) (H : Heap), f111_L1 p n  k m1 (tz [t0, t1, t2, t3, t4, t5, t6, t7, t8, t9, t10, t11, t12, t13, t14, t15, t16, t17, t18, t19, t20, t21, t22, t23, t24, t25, t26, t27, t28, t29, t30, t31, t32, t33, t34, t35, t36, t37, t38, t39]) H = f111_l1 p n  k m1 t6 t9 t27 H := by
 induction m1 with
 | zero => intros; rfl
 | succ m1 ih =>
  intro t0 t1 t2 t3 t4 t5 t6 t7 t8 t9 t10 t11 t12 t13 t14 t15 t16 t17 t18 t19 t20 t21 t22 t23 t24 t25 t26 t27 t28 t29 t30 t31 t32 t33 t34 t35 t36 t37 t38 t39 H
  rw [f111_L1_step]
  simp only [ih]
  rfl
theorem f111_L0_step (p : Pr β) (n : Nat)  (k : AV → Heap → Option β) (m0 : Nat) (t0 t1 t2 t3 t4 t5 t6 t7 t8 t9 t10 t11 t12 t13 t14 t15 t16 t17 t18 t19 t20 t21 t22 t23 t24 t25 t26 t27 t28 t29 t30 t31 t32 t33 t34 t35 t36 t37 t38 t39 : AV) (H : Heap) : f111_L0 p n  k (m0 + 1) (tz [t0, t1, t2, t3, t4, t5, t6, t7, t8, t9, t10, t11, t12, t13, t14, t15, t16, t17, t18, t19, t20, t21, t22, t23, t24, t25, t26, t27, t28, t29, t30, t31, t32, t33, t34, t35, t36, t37, t38, t39]) H =
 p.bin .lss t16 t15 fun t17 =>
 p.cond t17
 (p.iadr 1 t14 t16 fun t18 =>
 p.load false 1 t18 H fun t19 =>
 p.call 4 (.fn 137 [] []) [t19] H fun t21 H =>
 p.cond t21
 (p.iadr 1 t6 t19 fun t24 =>
 p.store 1 t24 (.sc (.bool true)) H fun H =>
 p.bin .add t16 (.sc (.int .i64 1)) fun t25 =>
 f111_L0 p n  k m0 (tz [t0, t1, t2, t3, t4, t5, t6, t7, t19, t9, t10, t11, t12, t13, t14, t15, t25, t17, t18, t19, t19, t21, t6, t19, t24, t25, t26, t27, t28, t29, t30, t31, t32, t33, t34, t35, t36, t37, t38, t39]) H)
 (p.bin .add t16 (.sc (.int .i64 1)) fun t25 =>
 f111_L0 p n  k m0 (tz [t0, t1, t2, t3, t4, t5, t6, t7, t19, t9, t10, t11, t12, t13, t14, t15, t25, t17, t18, t19, t19, t21, t22, t23, t24, t25, t26, t27, t28, t29, t30, t31, t32, t33, t34, t35, t36, t37, t38, t39]) H))
 (f111_L1 p n  k n (tz [t0, t1, t2, t3, t4, t5, t6, t7, t8, t0, t10, t11, t12, t13, t14, t15, t16, t17, t18, t19, t20, t21, t22, t23, t24, t25, t0, (.sc (.int .i64 0)), t28, t29, t30, t31, t32, t33, t34, t35, t36, t37, t38, t39]) H) := by kernel_rfl
theorem f111_l0_eq (p : Pr β) (n : Nat)  (k : AV → Heap → Option β)   (m0 : Nat) : ∀ (t0 t1 t2 t3 t4 t5 t6 t7 t8 t9 t10 t11 t12 t13 t14 t15 t16 t17 t18 t19 t20 t21 t22 t23 t24 t25 t26 t27 t28 t29 t30 t31 t32 t33 t34 t35 t36 t37 t38 t39 : AV) (H : Heap), f111_L0 p n  k m0 (tz [t0, t1, t2, t3, t4, t5, t6, t7, t8, t9, t10, t11, t12, t13, t14, t15, t16, t17, t18, t19, t20, t21, t22, t23, t24, t25, t26, t27, t28, t29, t30, t31, t32, t33, t34, t35, t36, t37, t38, t39]) H = f111_l0 p n  k m0 t0 t6 t14 t15 t16 H := by
 induction m0 with
 | zero => intros; rfl
 | succ m0 ih =>
  intro t0 t1 t2 t3 t4 t5 t6 t7 t8 t9 t10 t11 t12 t13 t14 t15 t16 t17 t18 t19 t20 t21 t22 t23 t24 t25 t26 t27 t28 t29 t30 t31 t32 t33 t34 t35 t36 t37 t38 t39 H
  rw [f111_L0_step]
  simp only [ih, f111_l1_eq p n  k  ]
  rfl
theorem f111_raw (p : Pr β) (n : Nat) (a0 a1 : AV) (H : Heap) (k : AV → Heap → Option β) : evalBody ti0 p n ⟨c111, 40, Go.Proofs.Tryz.f111.results.toList, o111⟩ [a0, a1] H k =
 p.call 4 (.fn 139 [] []) [a0] H fun t11 H =>
 p.un .not t11 fun t12 =>
 p.cond t12
 (k (packA [(.sc (.int .i64 0)), (.sc (.bool false))]) H)
 (p.make 1 1 [(.sc (.bool false))] (.sc (.int .i64 65536)) (.sc (.int .i64 65536)) H fun t13 H =>
 p.len a1 fun t15 =>
 f111_L0 p n  k n (tz [a0, a1, uu, uu, (.sc (.int .i64 0)), (.sc (.bool false)), t13, uu, uu, uu, a0, t11, t12, t13, a1, t15, (.sc (.int .i64 0)), uu, uu, uu, uu, uu, uu, uu, uu, uu, uu, uu, uu, uu, uu, uu, uu, uu, uu, uu, uu, uu, uu, uu]) H) := by kernel_rfl
theorem f111_body (p : Pr β) (n : Nat) (a0 a1 : AV) (H : Heap) (k : AV → Heap → Option β) : evalBody ti0 p n ⟨c111, 40, Go.Proofs.Tryz.f111.results.toList, o111⟩ [a0, a1] H k = f111 p n a0 a1 H k := by
 rw [f111_raw]
 simp only [f111_l1_eq, f111_l0_eq]
 rfl
noncomputable def f45_l0 (p : Pr β) (n : Nat)  (k : AV → Heap → Option β) : Nat → AV → AV → AV → AV → AV → AV → AV → AV → AV → Heap → Option β
 | 0, _, _, _, _, _, _, _, _, _, _ => none
 | m + 1, t1, t2, t3, t5, t7, t9, t38, t39, t40, H => p.bin .lss t40 t39 fun t41 =>
   p.cond t41
   (p.iadr 6 t38 t40 fun t42 =>
   p.load true 6 t42 H fun t43 =>
   p.new [(.sc (.int .i64 0)), (.sc (.string ⟨#[]⟩)), .nl, (.sc (.int .i64 0)), (.sc (.bool false)), (.sc (.int .i64 0))] H fun t11 H =>
   p.store 6 t11 t43 H fun H =>
   p.fadr 0 t11 fun t45 =>
   p.load false 1 t45 H fun t46 =>
   p.fill [(.sc (.int .i64 0))] [(0, 1, t46)] fun ct47 => p.newSl 1 1 ct47 true H fun t47 H =>
   p.app 1 8 t9 t47 H fun t48 H =>
   p.bin .add t40 (.sc (.int .i64 1)) fun t49 =>
   f45_l0 p n  k m t1 t2 t3 t5 t7 t48 t38 t39 t49 H)
   (p.fadr 0 t1 fun t51 =>
   p.load false 1 t51 H fun t52 =>
   p.call 131 (.fn 111 [] []) [t52, t9] H fun t54 H =>
   p.extr t54 0 fun t55 =>
   p.extr t54 1 fun t56 =>
   p.fadr 0 t5 fun t58 =>
   p.store 1 t58 t55 H fun H =>
   p.fadr 1 t5 fun t59 =>
   p.load false 1 t59 H fun t60 =>
   p.load true 4 t7 H fun t62 =>
   p.fadr 2 t7 fun t63 =>
   p.load false 1 t63 H fun t64 =>
   p.fill [(.sc (.int .i64 0)), (.sc (.string ⟨#[]⟩)), .nl, (.sc (.int .i64 0)), (.sc (.bool false)), (.sc (.int .i64 0))] [(0, 1, t55), (1, 4, t62), (5, 1, t64)] fun ct65 =>
   p.fill [(.sc (.int .i64 0)), (.sc (.string ⟨#[]⟩)), .nl, (.sc (.int .i64 0)), (.sc (.bool false)), (.sc (.int .i64 0))] [(0, 6, (.agg ct65))] fun ct66 => p.newSl 1 6 ct66 true H fun t66 H =>
   p.app 6 72 t60 t66 H fun t67 H =>
   p.fadr 1 t5 fun t68 =>
   p.store 1 t68 t67 H fun H =>
   p.load true 3 t5 H fun t69 =>
   p.load true 4 t7 H fun t70 =>
   p.call 75 (.fn 93 [] []) [t70, t55, (.sc (.bool false))] H fun t72 H =>
   p.store 3 t2 t69 H fun H =>
   p.store 25 t3 t72 H fun H =>
   p.load true 3 t2 H fun r0 =>
   p.load true 25 t3 H fun r1 =>
   k (packA [r0, r1, (.sc (.bool true))]) H)
noncomputable def f45 (p : Pr β) (n : Nat) (a0 : AV) (H : Heap) (k : AV → Heap → Option β) : Option β :=
 p.box a0 H fun t1 H =>
 p.new [(.sc (.int .i64 0)), .nl, .nl] H fun t2 H =>
 p.new [(.sc (.int .i64 0)), (.sc (.bool false)), (.sc (.int .i64 0)), (.sc (.bool false)), (.sc (.int .i64 0)), (.sc (.string ⟨#[]⟩)), .nl, (.sc (.string ⟨#[]⟩)), (.sc (.int .i64 0)), (.sc (.bool false)), (.sc (.int .i64 0)), (.sc (.bool false)), (.sc (.string ⟨#[]⟩)), .nl, (.sc (.int .i64 0)), (.sc (.bool false)), (.sc (.bool false)), (.sc (.string ⟨#[]⟩)), (.sc (.bool false)), .nl, (.sc (.int .i64 0)), (.sc (.bool false)), .nl, .nl, .nl] H fun t3 H =>
 p.load true 3 t1 H fun t14 =>
 p.call 33 (.fn 108 [] []) [t14] H fun t15 H =>
 p.new [(.sc (.int .i64 0)), .nl, .nl] H fun t5 H =>
 p.store 3 t5 t15 H fun H =>
 p.load true 3 t1 H fun t16 =>
 p.call 4 (.fn 109 [] []) [t16] H fun t17 H =>
 p.un .not t17 fun t18 =>
 p.cond t18
 (p.load true 3 t5 H fun t19 =>
 p.fill [(.sc (.int .i64 0)), (.sc (.bool false)), (.sc (.int .i64 0)), (.sc (.bool false)), (.sc (.int .i64 0)), (.sc (.string ⟨#[]⟩)), .nl, (.sc (.string ⟨#[]⟩)), (.sc (.int .i64 0)), (.sc (.bool false)), (.sc (.int .i64 0)), (.sc (.bool false)), (.sc (.string ⟨#[]⟩)), .nl, (.sc (.int .i64 0)), (.sc (.bool false)), (.sc (.bool false)), (.sc (.string ⟨#[]⟩)), (.sc (.bool false)), .nl, (.sc (.int .i64 0)), (.sc (.bool false)), .nl, .nl, .nl] [] fun ct20 =>
 p.store 3 t2 t19 H fun H =>
 p.store 25 t3 (.agg ct20) H fun H =>
 p.load true 3 t2 H fun r0 =>
 p.load true 25 t3 H fun r1 =>
 k (packA [r0, r1, (.sc (.bool false))]) H)
 (p.fadr 2 t1 fun t22 =>
 p.load false 1 t22 H fun t23 =>
 p.call 129 (.fn 110 [] []) [t23] H fun t24 H =>
 p.extr t24 0 fun t25 =>
 p.extr t24 1 fun t26 =>
 p.extr t24 2 fun t27 =>
 p.new [(.sc (.string ⟨#[]⟩)), .nl, (.sc (.int .i64 0)), (.sc (.bool false))] H fun t7 H =>
 p.store 4 t7 t26 H fun H =>
 p.fadr 2 t5 fun t29 =>
 p.store 1 t29 t25 H fun H =>
 p.fadr 2 t7 fun t30 =>
 p.load false 1 t30 H fun t31 =>
 p.bin .eql t31 (.sc (.int .i64 0)) fun t32 =>
 p.cond t32
 (p.load true 3 t5 H fun t33 =>
 p.load true 4 t7 H fun t34 =>
 p.call 75 (.fn 93 [] []) [t34, (.sc (.int .i64 0)), (.sc (.bool false))] H fun t35 H =>
 p.store 3 t2 t33 H fun H =>
 p.store 25 t3 t35 H fun H =>
 p.load true 3 t2 H fun r0 =>
 p.load true 25 t3 H fun r1 =>
 k (packA [r0, r1, (.sc (.bool true))]) H)
 (p.fadr 1 t1 fun t37 =>
 p.load false 1 t37 H fun t38 =>
 p.len t38 fun t39 =>
 f45_l0 p n  k n t1 t2 t3 t5 t7 .nl t38 t39 (.sc (.int .i64 0)) H))
noncomputable def f45_L0 (p : Pr β) (n : Nat)  (k : AV → Heap → Option β) (m : Nat) (tm : Tm) (H : Heap) : Option β :=
 iterC 73 (fun tm H k => evalCode ti0 p o45 73 n (cd c45 [1, 1, 1, 1, 1, 1, 1, 0, 1, 0, 0]) tm H k) (blkK 0 (seqK (fun tm H => evalCode ti0 p o45 73 n (cd c45 [1, 1, 1, 1, 1, 1, 1, 1]) tm H (endK ti0 p Go.Proofs.Tryz.f45.results.toList k)) (endK ti0 p Go.Proofs.Tryz.f45.results.toList k))) m tm H
theorem f45_L0_step (p : Pr β) (n : Nat)  (k : AV → Heap → Option β) (m0 : Nat) (t0 t1 t2 t3 t4 t5 t6 t7 t8 t9 t10 t11 t12 t13 t14 t15 t16 t17 t18 t19 t20 t21 t22 t23 t24 t25 t26 t27 t28 t29 t30 t31 t32 t33 t34 t35 t36 t37 t38 t39 t40 t41 t42 t43 t44 t45 t46 t47 t48 t49 t50 t51 t52 t53 t54 t55 t56 t57 t58 t59 t60 t61 t62 t63 t64 t65 t66 t67 t68 t69 t70 t71 t72 : AV) (H : Heap) : f45_L0 p n  k (m0 + 1) (tz [t0, t1, t2, t3, t4, t5, t6, t7, t8, t9, t10, t11, t12, t13, t14, t15, t16, t17, t18, t19, t20, t21, t22, t23, t24, t25, t26, t27, t28, t29, t30, t31, t32, t33, t34, t35, t36, t37, t38, t39, t40, t41, t42, t43, t44, t45, t46, t47, t48, t49, t50, t51, t52, t53, t54, t55, t56, t57, t58, t59, t60, t61, t62, t63, t64, t65, t66, t67, t68, t69, t70, t71, t72]) H =
 p.bin .lss t40 t39 fun t41 =>
 p.cond t41
 (p.iadr 6 t38 t40 fun t42 =>
 p.load true 6 t42 H fun t43 =>
 p.new [(.sc (.int .i64 0)), (.sc (.string ⟨#[]⟩)), .nl, (.sc (.int .i64 0)), (.sc (.bool false)), (.sc (.int .i64 0))] H fun t11 H =>
 p.store 6 t11 t43 H fun H =>
 p.fadr 0 t11 fun t45 =>
 p.load false 1 t45 H fun t46 =>
 p.fill [(.sc (.int .i64 0))] [(0, 1, t46)] fun ct47 => p.newSl 1 1 ct47 true H fun t47 H =>
 p.app 1 8 t9 t47 H fun t48 H =>
 p.bin .add t40 (.sc (.int .i64 1)) fun t49 =>
 f45_L0 p n  k m0 (tz [t0, t1, t2, t3, t4, t5, t6, t7, t8, t48, t10, t11, t12, t13, t14, t15, t16, t17, t18, t19, t20, t21, t22, t23, t24, t25, t26, t27, t28, t29, t30, t31, t32, t33, t34, t35, t36, t37, t38, t39, t49, t41, t42, t43, t9, t45, t46, t47, t48, t49, t50, t51, t52, t53, t54, t55, t56, t57, t58, t59, t60, t61, t62, t63, t64, t65, t66, t67, t68, t69, t70, t71, t72]) H)
 (p.fadr 0 t1 fun t51 =>
 p.load false 1 t51 H fun t52 =>
 p.call 131 (.fn 111 [] []) [t52, t9] H fun t54 H =>
 p.extr t54 0 fun t55 =>
 p.extr t54 1 fun t56 =>
 p.fadr 0 t5 fun t58 =>
 p.store 1 t58 t55 H fun H =>
 p.fadr 1 t5 fun t59 =>
 p.load false 1 t59 H fun t60 =>
 p.load true 4 t7 H fun t62 =>
 p.fadr 2 t7 fun t63 =>
 p.load false 1 t63 H fun t64 =>
 p.fill [(.sc (.int .i64 0)), (.sc (.string ⟨#[]⟩)), .nl, (.sc (.int .i64 0)), (.sc (.bool false)), (.sc (.int .i64 0))] [(0, 1, t55), (1, 4, t62), (5, 1, t64)] fun ct65 =>
 p.fill [(.sc (.int .i64 0)), (.sc (.string ⟨#[]⟩)), .nl, (.sc (.int .i64 0)), (.sc (.bool false)), (.sc (.int .i64 0))] [(0, 6, (.agg ct65))] fun ct66 => p.newSl 1 6 ct66 true H fun t66 H =>
 p.app 6 72 t60 t66 H fun t67 H =>
 p.fadr 1 t5 fun t68 =>
 p.store 1 t68 t67 H fun H =>
 p.load true 3 t5 H fun t69 =>
 p.load true 4 t7 H fun t70 =>
 p.call 75 (.fn 93 [] []) [t70, t55, (.sc (.bool false))] H fun t72 H =>
 p.store 3 t2 t69 H fun H =>
 p.store 25 t3 t72 H fun H =>
 p.load true 3 t2 H fun r0 =>
 p.load true 25 t3 H fun r1 =>
 k (packA [r0, r1, (.sc (.bool true))]) H) := by kernel_rfl
theorem f45_l0_eq (p : Pr β) (n : Nat)  (k : AV → Heap → Option β)   (m0 : Nat) : ∀ (t0 t1 t2 t3 t4 t5 t6 t7 t8 t9 t10 t11 t12 t13 t14 t15 t16 t17 t18 t19 t20 t21 t22 t23 t24 t25 t26 t27 t28 t29 t30 t31 t32 t33 t34 t35 t36 t37 t38 t39 t40 t41 t42 t43 t44 t45 t46 t47 t48 t49 t50 t51 t52 t53 t54 t55 t56 t57 t58 t59 t60 t61 t62 t63 t64 t65 t66 t67 t68 t69 t70 t71 t72 : AV) (H : Heap), f45_L0 p n  k m0 (tz [t0, t1, t2, t3, t4, t5, t6, t7, t8, t9, t10, t11, t12, t13, t14, t15, t16, t17, t18, t19, t20, t21, t22, t23, t24, t25, t26, t27, t28, t29, t30, t31, t32, t33, t34, t35, t36, t37, t38, t39, t40, t41, t42, t43, t44, t45, t46, t47, t48, t49, t50, t51, t52, t53, t54, t55, t56, t57, t58, t59, t60, t61, t62, t63, t64, t65, t66, t67, t68, t69, t70, t71, t72]) H = f45_l0 p n  k m0 t1 t2 t3 t5 t7 t9 t38 t39 t40 H := by
 induction m0 with
 | zero => intros; rfl
 | succ m0 ih =>
  intro t0 t1 t2 t3 t4 t5 t6 t7 t8 t9 t10 t11 t12 t13 t14 t15 t16 t17 t18 t19 t20 t21 t22 t23 t24 t25 t26 t27 t28 t29 t30 t31 t32 t33 t34 t35 t36 t37 t38 t39 t40 t41 t42 t43 t44 t45 t46 t47 t48 t49 t50 t51 t52 t53 t54 t55 t56 t57 t58 t59 t60 t61 t62 t63 t64 t65 t66 t67 t68 t69 t70 t71 t72 H
  rw [f45_L0_step]
  simp only [ih]
  rfl
theorem f45_raw (p : Pr β) (n : Nat) (a0 : AV) (H : Heap) (k : AV → Heap → Option β) : evalBody ti0 p n ⟨c45, 73, Go.Proofs.Tryz.f45.results.toList, o45⟩ [a0] H k =
 p.box a0 H fun t1 H =>
 p.new [(.sc (.int .i64 0)), .nl, .nl] H fun t2 H =>
 p.new [(.sc (.int .i64 0)), (.sc (.bool false)), (.sc (.int .i64 0)), (.sc (.bool false)), (.sc (.int .i64 0)), (.sc (.string ⟨#[]⟩)), .nl, (.sc (.string ⟨#[]⟩)), (.sc (.int .i64 0)), (.sc (.bool false)), (.sc (.int .i64 0)), (.sc (.bool false)), (.sc (.string ⟨#[]⟩)), .nl, (.sc (.int .i64 0)), (.sc (.bool false)), (.sc (.bool false)), (.sc (.string ⟨#[]⟩)), (.sc (.bool false)), .nl, (.sc (.int .i64 0)), (.sc (.bool false)), .nl, .nl, .nl] H fun t3 H =>
 p.load true 3 t1 H fun t14 =>
 p.call 33 (.fn 108 [] []) [t14] H fun t15 H =>
 p.new [(.sc (.int .i64 0)), .nl, .nl] H fun t5 H =>
 p.store 3 t5 t15 H fun H =>
 p.load true 3 t1 H fun t16 =>
 p.call 4 (.fn 109 [] []) [t16] H fun t17 H =>
 p.un .not t17 fun t18 =>
 p.cond t18
 (p.load true 3 t5 H fun t19 =>
 p.fill [(.sc (.int .i64 0)), (.sc (.bool false)), (.sc (.int .i64 0)), (.sc (.bool false)), (.sc (.int .i64 0)), (.sc (.string ⟨#[]⟩)), .nl, (.sc (.string ⟨#[]⟩)), (.sc (.int .i64 0)), (.sc (.bool false)), (.sc (.int .i64 0)), (.sc (.bool false)), (.sc (.string ⟨#[]⟩)), .nl, (.sc (.int .i64 0)), (.sc (.bool false)), (.sc (.bool false)), (.sc (.string ⟨#[]⟩)), (.sc (.bool false)), .nl, (.sc (.int .i64 0)), (.sc (.bool false)), .nl, .nl, .nl] [] fun ct20 =>
 p.store 3 t2 t19 H fun H =>
 p.store 25 t3 (.agg ct20) H fun H =>
 p.load true 3 t2 H fun r0 =>
 p.load true 25 t3 H fun r1 =>
 k (packA [r0, r1, (.sc (.bool false))]) H)
 (p.fadr 2 t1 fun t22 =>
 p.load false 1 t22 H fun t23 =>
 p.call 129 (.fn 110 [] []) [t23] H fun t24 H =>
 p.extr t24 0 fun t25 =>
 p.extr t24 1 fun t26 =>
 p.extr t24 2 fun t27 =>
 p.new [(.sc (.string ⟨#[]⟩)), .nl, (.sc (.int .i64 0)), (.sc (.bool false))] H fun t7 H =>
 p.store 4 t7 t26 H fun H =>
 p.fadr 2 t5 fun t29 =>
 p.store 1 t29 t25 H fun H =>
 p.fadr 2 t7 fun t30 =>
 p.load false 1 t30 H fun t31 =>
 p.bin .eql t31 (.sc (.int .i64 0)) fun t32 =>
 p.cond t32
 (p.load true 3 t5 H fun t33 =>
 p.load true 4 t7 H fun t34 =>
 p.call 75 (.fn 93 [] []) [t34, (.sc (.int .i64 0)), (.sc (.bool false))] H fun t35 H =>
 p.store 3 t2 t33 H fun H =>
 p.store 25 t3 t35 H fun H =>
 p.load true 3 t2 H fun r0 =>
 p.load true 25 t3 H fun r1 =>
 k (packA [r0, r1, (.sc (.bool true))]) H)
 (p.fadr 1 t1 fun t37 =>
 p.load false 1 t37 H fun t38 =>
 p.len t38 fun t39 =>
 f45_L0 p n  k n (tz [a0, t1, t2, t3, (.sc (.bool false)), t5, t25, t7, t27, .nl, uu, uu, uu, uu, t14, t15, t16, t17, t18, uu, uu, t24, t22, t23, t24, t25, t26, t27, t25, t29, t30, t31, t32, uu, uu, uu, .nl, t37, t38, t39, (.sc (.int .i64 0)), uu, uu, uu, uu, uu, uu, uu, uu, uu, uu, uu, uu, uu, uu, uu, uu, uu, uu, uu, uu, uu, uu, uu, uu, uu, uu, uu, uu, uu, uu, uu, uu]) H)) := by kernel_rfl
theorem f45_body (p : Pr β) (n : Nat) (a0 : AV) (H : Heap) (k : AV → Heap → Option β) : evalBody ti0 p n ⟨c45, 73, Go.Proofs.Tryz.f45.results.toList, o45⟩ [a0] H k = f45 p n a0 H k := by
 rw [f45_raw]
 simp only [f45_l0_eq]
 rfl
noncomputable def f71_l0 (p : Pr β) (n : Nat)  (k : AV → Heap → Option β) : Nat → AV → AV → AV → Heap → Option β
 | 0, _, _, _, _ => none
 | m + 1, t0, t1, t5, H => p.len t0 fun t13 =>
   p.bin .lss t5 t13 fun t14 =>
   p.cond t14
   (p.iadr 1 t0 t5 fun t19 =>
   p.load false 1 t19 H fun t20 =>
   p.iadr 1 t1 t5 fun t23 =>
   p.load false 1 t23 H fun t24 =>
   p.bin .neq t20 t24 fun t25 =>
   p.cond t25
   (k (.sc (.bool false)) H)
   (p.bin .add t5 (.sc (.int .i64 1)) fun t16 =>
   f71_l0 p n  k m t0 t1 t16 H))
   (k (.sc (.bool true)) H)
noncomputable def f71 (p : Pr β) (n : Nat) (a0 a1 : AV) (H : Heap) (k : AV → Heap → Option β) : Option β :=
 p.len a0 fun t7 =>
 p.len a1 fun t9 =>
 p.bin .neq t7 t9 fun t10 =>
 p.cond t10
 (k (.sc (.bool false)) H)
 (f71_l0 p n  k n a0 a1 (.sc (.int .i64 0)) H)
noncomputable def f71_L0 (p : Pr β) (n : Nat)  (k : AV → Heap → Option β) (m : Nat) (tm : Tm) (H : Heap) : Option β :=
 iterC 26 (fun tm H k => evalCode ti0 p o71 26 n (cd c71 [1, 1, 0, 1, 0, 0]) tm H k) (blkK 0 (seqK (fun tm H => evalCode ti0 p o71 26 n (cd c71 [1, 1, 1]) tm H (endK ti0 p Go.Proofs.Tryz.f71.results.toList k)) (endK ti0 p Go.Proofs.Tryz.f71.results.toList k))) m tm H
theorem f71_L0_step (p : Pr β) (n : Nat)  (k : AV → Heap → Option β) (m0 : Nat) (t0 t1 t2 t3 t4 t5 t6 t7 t8 t9 t10 t11 t12 t13 t14 t15 t16 t17 t18 t19 t20 t21 t22 t23 t24 t25 : AV) (H : Heap) : f71_L0 p n  k (m0 + 1) (tz [t0, t1, t2, t3, t4, t5, t6, t7, t8, t9, t10, t11, t12, t13, t14, t15, t16, t17, t18, t19, t20, t21, t22, t23, t24, t25]) H =
 p.len t0 fun t13 =>
 p.bin .lss t5 t13 fun t14 =>
 p.cond t14
 (p.iadr 1 t0 t5 fun t19 =>
 p.load false 1 t19 H fun t20 =>
 p.iadr 1 t1 t5 fun t23 =>
 p.load false 1 t23 H fun t24 =>
 p.bin .neq t20 t24 fun t25 =>
 p.cond t25
 (k (.sc (.bool false)) H)
 (p.bin .add t5 (.sc (.int .i64 1)) fun t16 =>
 f71_L0 p n  k m0 (tz [t0, t1, t2, t3, t4, t16, t6, t7, t8, t9, t10, t5, t0, t13, t14, t5, t16, t0, t5, t19, t20, t1, t5, t23, t24, t25]) H))
 (k (.sc (.bool true)) H) := by kernel_rfl
theorem f71_l0_eq (p : Pr β) (n : Nat)  (k : AV → Heap → Option β)   (m0 : Nat) : ∀ (t0 t1 t2 t3 t4 t5 t6 t7 t8 t9 t10 t11 t12 t13 t14 t15 t16 t17 t18 t19 t20 t21 t22 t23 t24 t25 : AV) (H : Heap), f71_L0 p n  k m0 (tz [t0, t1, t2, t3, t4, t5, t6, t7, t8, t9, t10, t11, t12, t13, t14, t15, t16, t17, t18, t19, t20, t21, t22, t23, t24, t25]) H = f71_l0 p n  k m0 t0 t1 t5 H := by
 induction m0 with
 | zero => intros; rfl
 | succ m0 ih =>
  intro t0 t1 t2 t3 t4 t5 t6 t7 t8 t9 t10 t11 t12 t13 t14 t15 t16 t17 t18 t19 t20 t21 t22 t23 t24 t25 H
  rw [f71_L0_step]
  simp only [ih]
  rfl
theorem f71_raw (p : Pr β) (n : Nat) (a0 a1 : AV) (H : Heap) (k : AV → Heap → Option β) : evalBody ti0 p n ⟨c71, 26, Go.Proofs.Tryz.f71.results.toList, o71⟩ [a0, a1] H k =
 p.len a0 fun t7 =>
 p.len a1 fun t9 =>
 p.bin .neq t7 t9 fun t10 =>
 p.cond t10
 (k (.sc (.bool false)) H)
 (f71_L0 p n  k n (tz [a0, a1, uu, uu, (.sc (.bool false)), (.sc (.int .i64 0)), a0, t7, a1, t9, t10, uu, uu, uu, uu, uu, uu, uu, uu, uu, uu, uu, uu, uu, uu, uu]) H) := by kernel_rfl
theorem f71_body (p : Pr β) (n : Nat) (a0 a1 : AV) (H : Heap) (k : AV → Heap → Option β) : evalBody ti0 p n ⟨c71, 26, Go.Proofs.Tryz.f71.results.toList, o71⟩ [a0, a1] H k = f71 p n a0 a1 H k := by
 rw [f71_raw]
 simp only [f71_l0_eq]
 rfl
noncomputable def f24 (p : Pr β) (n : Nat) (a0 a1 : AV) (H : Heap) (k : AV → Heap → Option β) : Option β :=
 p.box a0 H fun t2 H =>
 p.box a1 H fun t3 H =>
 p.fadr 0 t2 fun t5 =>
 p.load false 1 t5 H fun t6 =>
 p.fadr 0 t3 fun t7 =>
 p.load false 1 t7 H fun t8 =>
 p.bin .neq t6 t8 fun t9 =>
 p.cond t9
 (k (.sc (.bool false)) H)
 (p.fadr 1 t2 fun t10 =>
 p.load false 1 t10 H fun t11 =>
 p.fadr 1 t3 fun t12 =>
 p.load false 1 t12 H fun t13 =>
 p.call 4 (.fn 71 [] []) [t11, t13] H fun t14 H =>
 p.un .not t14 fun t15 =>
 p.cond t15
 (k (.sc (.bool false)) H)
 (p.fadr 2 t2 fun t16 =>
 p.load false 1 t16 H fun t17 =>
 p.fadr 2 t3 fun t18 =>
 p.load false 1 t18 H fun t19 =>
 p.bin .neq t17 t19 fun t20 =>
 p.cond t20
 (k (.sc (.bool false)) H)
 (p.fadr 3 t2 fun t21 =>
 p.load false 1 t21 H fun t22 =>
 p.fadr 3 t3 fun t23 =>
 p.load false 1 t23 H fun t24 =>
 p.binB .neq t22 t24 fun t25 =>
 p.cond t25
 (k (.sc (.bool false)) H)
 (k (.sc (.bool true)) H))))
theorem f24_body (p : Pr β) (n : Nat) (a0 a1 : AV) (H : Heap) (k : AV → Heap → Option β) : evalBody ti0 p n ⟨c24, 26, Go.Proofs.Tryz.f24.results.toList, o24⟩ [a0, a1] H k = f24 p n a0 a1 H k := by kernel_rfl
noncomputable def f150 (p : Pr β) (n : Nat) (a0 a1 : AV) (H : Heap) (k : AV → Heap → Option β) : Option β :=
 p.box a0 H fun t2 H =>
 p.box a1 H fun t3 H =>
 p.fadr 0 t2 fun t5 =>
 p.load false 1 t5 H fun t6 =>
 p.fadr 0 t3 fun t7 =>
 p.load false 1 t7 H fun t8 =>
 p.bin .neq t6 t8 fun t9 =>
 p.cond t9
 (k (.sc (.bool false)) H)
 (p.fadr 1 t2 fun t10 =>
 p.load true 4 t10 H fun t11 =>
 p.fadr 1 t3 fun t12 =>
 p.load true 4 t12 H fun t13 =>
 p.call 4 (.fn 24 [] []) [t11, t13] H fun t14 H =>
 p.un .not t14 fun t15 =>
 p.cond t15
 (k (.sc (.bool false)) H)
 (p.fadr 5 t2 fun t16 =>
 p.load false 1 t16 H fun t17 =>
 p.fadr 5 t3 fun t18 =>
 p.load false 1 t18 H fun t19 =>
 p.bin .neq t17 t19 fun t20 =>
 p.cond t20
 (k (.sc (.bool false)) H)
 (k (.sc (.bool true)) H)))
theorem f150_body (p : Pr β) (n : Nat) (a0 a1 : AV) (H : Heap) (k : AV → Heap → Option β) : evalBody ti0 p n ⟨c150, 21, Go.Proofs.Tryz.f150.results.toList, o150⟩ [a0, a1] H k = f150 p n a0 a1 H k := by kernel_rfl
noncomputable def f94_l0 (p : Pr β) (n : Nat)  (k : AV → Heap → Option β) : Nat → AV → AV → AV → Heap → Option β
 | 0, _, _, _, _ => none
 | m + 1, t0, t1, t5, H => p.len t0 fun t13 =>
   p.bin .lss t5 t13 fun t14 =>
   p.cond t14
   (p.iadr 6 t0 t5 fun t19 =>
   p.load true 6 t19 H fun t20 =>
   p.iadr 6 t1 t5 fun t23 =>
   p.load true 6 t23 H fun t24 =>
   p.call 4 (.fn 150 [] []) [t20, t24] H fun t25 H =>
   p.un .not t25 fun t26 =>
   p.cond t26
   (k (.sc (.bool false)) H)
   (p.bin .add t5 (.sc (.int .i64 1)) fun t16 =>
   f94_l0 p n  k m t0 t1 t16 H))
   (k (.sc (.bool true)) H)
noncomputable def f94 (p : Pr β) (n : Nat) (a0 a1 : AV) (H : Heap) (k : AV → Heap → Option β) : Option β :=
 p.len a0 fun t7 =>
 p.len a1 fun t9 =>
 p.bin .neq t7 t9 fun t10 =>
 p.cond t10
 (k (.sc (.bool false)) H)
 (f94_l0 p n  k n a0 a1 (.sc (.int .i64 0)) H)
noncomputable def f94_L0 (p : Pr β) (n : Nat)  (k : AV → Heap → Option β) (m : Nat) (tm : Tm) (H : Heap) : Option β :=
 iterC 27 (fun tm H k => evalCode ti0 p o94 27 n (cd c94 [1, 1, 0, 1, 0, 0]) tm H k) (blkK 0 (seqK (fun tm H => evalCode ti0 p o94 27 n (cd c94 [1, 1, 1]) tm H (endK ti0 p Go.Proofs.Tryz.f94.results.toList k)) (endK ti0 p Go.Proofs.Tryz.f94.results.toList k))) m tm H
theorem f94_L0_step (p : Pr β) (n : Nat)  (k : AV → Heap → Option β) (m0 : Nat) (t0 t1 t2 t3 t4 t5 t6 t7 t8 t9 t10 t11 t12 t13 t14 t15 t16 t17 t18 t19 t20 t21 t22 t23 t24 t25 t26 : AV) (H : Heap) : f94_L0 p n  k (m0 + 1) (tz [t0, t1, t2, t3, t4, t5, t6, t7, t8, t9, t10, t11, t12, t13, t14, t15, t16, t17, t18, t19, t20, t21, t22, t23, t24, t25, t26]) H =
 p.len t0 fun t13 =>
 p.bin .lss t5 t13 fun t14 =>
 p.cond t14
 (p.iadr 6 t0 t5 fun t19 =>
 p.load true 6 t19 H fun t20 =>
 p.iadr 6 t1 t5 fun t23 =>
 p.load true 6 t23 H fun t24 =>
 p.call 4 (.fn 150 [] []) [t20, t24] H fun t25 H =>
 p.un .not t25 fun t26 =>
 p.cond t26
 (k (.sc (.bool false)) H)
 (p.bin .add t5 (.sc (.int .i64 1)) fun t16 =>
 f94_L0 p n  k m0 (tz [t0, t1, t2, t3, t4, t16, t6, t7, t8, t9, t10, t5, t0, t13, t14, t5, t16, t0, t5, t19, t20, t1, t5, t23, t24, t25, t26]) H))
 (k (.sc (.bool true)) H) := by kernel_rfl
theorem f94_l0_eq (p : Pr β) (n : Nat)  (k : AV → Heap → Option β)   (m0 : Nat) : ∀ (t0 t1 t2 t3 t4 t5 t6 t7 t8 t9 t10 t11 t12 t13 t14 t15 t16 t17 t18 t19 t20 t21 t22 t23 t24 t25 t26 : AV) (H : Heap), f94_L0 p n  k m0 (tz [t0, t1, t2, t3, t4, t5, t6, t7, t8, t9, t10, t11, t12, t13, t14, t15, t16, t17, t18, t19, t20, t21, t22, t23, t24, t25, t26]) H = f94_l0 p n  k m0 t0 t1 t5 H := by
 induction m0 with
 | zero => intros; rfl
 | succ m0 ih =>
  intro t0 t1 t2 t3 t4 t5 t6 t7 t8 t9 t10 t11 t12 t13 t14 t15 t16 t17 t18 t19 t20 t21 t22 t23 t24 t25 t26 H
  rw [f94_L0_step]
  simp only [ih]
  rfl
theorem f94_raw (p : Pr β) (n : Nat) (a0 a1 : AV) (H : Heap) (k : AV → Heap → Option β) : evalBody ti0 p n ⟨c94, 27, Go.Proofs.Tryz.f94.results.toList, o94⟩ [a0, a1] H k =
 p.len a0 fun t7 =>
 p.len a1 fun t9 =>
 p.bin .neq t7 t9 fun t10 =>
 p.cond t10
 (k (.sc (.bool false)) H)
 (f94_L0 p n  k n (tz [a0, a1, uu, uu, (.sc (.bool false)), (.sc (.int .i64 0)), a0, t7, a1, t9, t10, uu, uu, uu, uu, uu, uu, uu, uu, uu, uu, uu, uu, uu, uu, uu, uu]) H) := by kernel_rfl
theorem f94_body (p : Pr β) (n : Nat) (a0 a1 : AV) (H : Heap) (k : AV → Heap → Option β) : evalBody ti0 p n ⟨c94, 27, Go.Proofs.Tryz.f94.results.toList, o94⟩ [a0, a1] H k = f94 p n a0 a1 H k := by
 rw [f94_raw]
 simp only [f94_l0_eq]
 rfl
noncomputable def f95_l0 (p : Pr β) (n : Nat)  (k : AV → Heap → Option β) : Nat → AV → AV → AV → Heap → Option β
 | 0, _, _, _, _ => none
 | m + 1, t0, t1, t5, H => p.len t0 fun t13 =>
   p.bin .lss t5 t13 fun t14 =>
   p.cond t14
   (p.iadr 4 t0 t5 fun t19 =>
   p.load true 4 t19 H fun t20 =>
   p.iadr 4 t1 t5 fun t23 =>
   p.load true 4 t23 H fun t24 =>
   p.call 4 (.fn 24 [] []) [t20, t24] H fun t25 H =>
   p.un .not t25 fun t26 =>
   p.cond t26
   (k (.sc (.bool false)) H)
   (p.bin .add t5 (.sc (.int .i64 1)) fun t16 =>
   f95_l0 p n  k m t0 t1 t16 H))
   (k (.sc (.bool true)) H)
noncomputable def f95 (p : Pr β) (n : Nat) (a0 a1 : AV) (H : Heap) (k : AV → Heap → Option β) : Option β :=
 p.len a0 fun t7 =>
 p.len a1 fun t9 =>
 p.bin .neq t7 t9 fun t10 =>
 p.cond t10
 (k (.sc (.bool false)) H)
 (f95_l0 p n  k n a0 a1 (.sc (.int .i64 0)) H)
noncomputable def f95_L0 (p : Pr β) (n : Nat)  (k : AV → Heap → Option β) (m : Nat) (tm : Tm) (H : Heap) : Option β :=
 iterC 27 (fun tm H k => evalCode ti0 p o95 27 n (cd c95 [1, 1, 0, 1, 0, 0]) tm H k) (blkK 0 (seqK (fun tm H => evalCode ti0 p o95 27 n (cd c95 [1, 1, 1]) tm H (endK ti0 p Go.Proofs.Tryz.f95.results.toList k)) (endK ti0 p Go.Proofs.Tryz.f95.results.toList k))) m tm H
theorem f95_L0_step (p : Pr β) (n : Nat)  (k : AV → Heap → Option β) (m0 : Nat) (t0 t1 t2 t3 t4 t5 t6 t7 t8 t9 t10 t11 t12 t13 t14 t15 t16 t17 t18 t19 t20 t21 t22 t23 t24 t25 t26 : AV) (H : Heap) : f95_L0 p n  k (m0 + 1) (tz [t0, t1, t2, t3, t4, t5, t6, t7, t8, t9, t10, t11, t12, t13, t14, t15, t16, t17, t18, t19, t20, t21, t22, t23, t24, t25, t26]) H =
 p.len t0 fun t13 =>
 p.bin .lss t5 t13 fun t14 =>
 p.cond t14
 (p.iadr 4 t0 t5 fun t19 =>
 p.load true 4 t19 H fun t20 =>
 p.iadr 4 t1 t5 fun t23 =>
 p.load true 4 t23 H fun t24 =>
 p.call 4 (.fn 24 [] []) [t20, t24] H fun t25 H =>
 p.un .not t25 fun t26 =>
 p.cond t26
 (k (.sc (.bool false)) H)
 (p.bin .add t5 (.sc (.int .i64 1)) fun t16 =>
 f95_L0 p n  k m0 (tz [t0, t1, t2, t3, t4, t16, t6, t7, t8, t9, t10, t5, t0, t13, t14, t5, t16, t0, t5, t19, t20, t1, t5, t23, t24, t25, t26]) H))
 (k (.sc (.bool true)) H) := by kernel_rfl
theorem f95_l0_eq (p : Pr β) (n : Nat)  (k : AV → Heap → Option β)   (m0 : Nat) : ∀ (t0 t1 t2 t3 t4 t5 t6 t7 t8 t9 t10 t11 t12 t13 t14 t15 t16 t17 t18 t19 t20 t21 t22 t23 t24 t25 t26 : AV) (H : Heap), f95_L0 p n  k m0 (tz [t0, t1, t2, t3, t4, t5, t6, t7, t8, t9, t10, t11, t12, t13, t14, t15, t16, t17, t18, t19, t20, t21, t22, t23, t24, t25, t26]) H = f95_l0 p n  k m0 t0 t1 t5 H := by
 induction m0 with
 | zero => intros; rfl
 | succ m0 ih =>
  intro t0 t1 t2 t3 t4 t5 t6 t7 t8 t9 t10 t11 t12 t13 t14 t15 t16 t17 t18 t19 t20 t21 t22 t23 t24 t25 t26 H
  rw [f95_L0_step]
  simp only [ih]
  rfl
theorem f95_raw (p : Pr β) (n : Nat) (a0 a1 : AV) (H : Heap) (k : AV → Heap → Option β) : evalBody ti0 p n ⟨c95, 27, Go.Proofs.Tryz.f95.results.toList, o95⟩ [a0, a1] H k =
 p.len a0 fun t7 =>
 p.len a1 fun t9 =>
 p.bin .neq t7 t9 fun t10 =>
 p.cond t10
 (k (.sc (.bool false)) H)
 (f95_L0 p n  k n (tz [a0, a1, uu, uu, (.sc (.bool false)), (.sc (.int .i64 0)), a0, t7, a1, t9, t10, uu, uu, uu, uu, uu, uu, uu, uu, uu, uu, uu, uu, uu, uu, uu, uu]) H) := by kernel_rfl
theorem f95_body (p : Pr β) (n : Nat) (a0 a1 : AV) (H : Heap) (k : AV → Heap → Option β) : evalBody ti0 p n ⟨c95, 27, Go.Proofs.Tryz.f95.results.toList, o95⟩ [a0, a1] H k = f95 p n a0 a1 H k := by
 rw [f95_raw]
 simp only [f95_l0_eq]
 rfl
noncomputable def f40 (p : Pr β) (n : Nat) (a0 a1 : AV) (H : Heap) (k : AV → Heap → Option β) : Option β :=
 p.box a0 H fun t2 H =>
 p.box a1 H fun t3 H =>
 p.fadr 0 t2 fun t5 =>
 p.load false 1 t5 H fun t6 =>
 p.fadr 0 t3 fun t7 =>
 p.load false 1 t7 H fun t8 =>
 p.bin .neq t6 t8 fun t9 =>
 p.cond t9
 (k (.sc (.bool false)) H)
 (p.fadr 1 t2 fun t10 =>
 p.load false 1 t10 H fun t11 =>
 p.fadr 1 t3 fun t12 =>
 p.load false 1 t12 H fun t13 =>
 p.call 4 (.fn 94 [] []) [t11, t13] H fun t14 H =>
 p.un .not t14 fun t15 =>
 p.cond t15
 (k (.sc (.bool false)) H)
 (p.fadr 2 t2 fun t16 =>
 p.load false 1 t16 H fun t17 =>
 p.fadr 2 t3 fun t18 =>
 p.load false 1 t18 H fun t19 =>
 p.call 4 (.fn 95 [] []) [t17, t19] H fun t20 H =>
 p.un .not t20 fun t21 =>
 p.cond t21
 (k (.sc (.bool false)) H)
 (k (.sc (.bool true)) H)))
theorem f40_body (p : Pr β) (n : Nat) (a0 a1 : AV) (H : Heap) (k : AV → Heap → Option β) : evalBody ti0 p n ⟨c40, 22, Go.Proofs.Tryz.f40.results.toList, o40⟩ [a0, a1] H k = f40 p n a0 a1 H k := by kernel_rfl
noncomputable def f156 (p : Pr β) (n : Nat) (a0 a1 : AV) (H : Heap) (k : AV → Heap → Option β) : Option β :=
 p.box a0 H fun t2 H =>
 p.box a1 H fun t3 H =>
 p.fadr 0 t2 fun t5 =>
 p.load false 1 t5 H fun t6 =>
 p.fadr 0 t3 fun t7 =>
 p.load false 1 t7 H fun t8 =>
 p.bin .neq t6 t8 fun t9 =>
 p.cond t9
 (k (.sc (.bool false)) H)
 (p.fadr 1 t2 fun t10 =>
 p.load false 1 t10 H fun t11 =>
 p.fadr 1 t3 fun t12 =>
 p.load false 1 t12 H fun t13 =>
 p.bin .neq t11 t13 fun t14 =>
 p.cond t14
 (k (.sc (.bool false)) H)
 (k (.sc (.bool true)) H))
theorem f156_body (p : Pr β) (n : Nat) (a0 a1 : AV) (H : Heap) (k : AV → Heap → Option β) : evalBody ti0 p n ⟨c156, 15, Go.Proofs.Tryz.f156.results.toList, o156⟩ [a0, a1] H k = f156 p n a0 a1 H k := by kernel_rfl
noncomputable def f112_l0 (p : Pr β) (n : Nat)  (k : AV → Heap → Option β) : Nat → AV → AV → AV → Heap → Option β
 | 0, _, _, _, _ => none
 | m + 1, t0, t1, t5, H => p.len t0 fun t13 =>
   p.bin .lss t5 t13 fun t14 =>
   p.cond t14
   (p.iadr 2 t0 t5 fun t19 =>
   p.load true 2 t19 H fun t20 =>
   p.iadr 2 t1 t5 fun t23 =>
   p.load true 2 t23 H fun t24 =>
   p.call 4 (.fn 156 [] []) [t20, t24] H fun t25 H =>
   p.un .not t25 fun t26 =>
   p.cond t26
   (k (.sc (.bool false)) H)
   (p.bin .add t5 (.sc (.int .i64 1)) fun t16 =>
   f112_l0 p n  k m t0 t1 t16 H))
   (k (.sc (.bool true)) H)
noncomputable def f112 (p : Pr β) (n : Nat) (a0 a1 : AV) (H : Heap) (k : AV → Heap → Option β) : Option β :=
 p.len a0 fun t7 =>
 p.len a1 fun t9 =>
 p.bin .neq t7 t9 fun t10 =>
 p.cond t10
 (k (.sc (.bool false)) H)
 (f112_l0 p n  k n a0 a1 (.sc (.int .i64 0)) H)
noncomputable def f112_L0 (p : Pr β) (n : Nat)  (k : AV → Heap → Option β) (m : Nat) (tm : Tm) (H : Heap) : Option β :=
 iterC 27 (fun tm H k => evalCode ti0 p o112 27 n (cd c112 [1, 1, 0, 1, 0, 0]) tm H k) (blkK 0 (seqK (fun tm H => evalCode ti0 p o112 27 n (cd c112 [1, 1, 1]) tm H (endK ti0 p Go.Proofs.Tryz.f112.results.toList k)) (endK ti0 p Go.Proofs.Tryz.f112.results.toList k))) m tm H
theorem f112_L0_step (p : Pr β) (n : Nat)  (k : AV → Heap → Option β) (m0 : Nat) (t0 t1 t2 t3 t4 t5 t6 t7 t8 t9 t10 t11 t12 t13 t14 t15 t16 t17 t18 t19 t20 t21 t22 t23 t24 t25 t26 : AV) (H : Heap) : f112_L0 p n  k (m0 + 1) (tz [t0, t1, t2, t3, t4, t5, t6, t7, t8, t9, t10, t11, t12, t13, t14, t15, t16, t17, t18, t19, t20, t21, t22, t23, t24, t25, t26]) H =
 p.len t0 fun t13 =>
 p.bin .lss t5 t13 fun t14 =>
 p.cond t14
 (p.iadr 2 t0 t5 fun t19 =>
 p.load true 2 t19 H fun t20 =>
 p.iadr 2 t1 t5 fun t23 =>
 p.load true 2 t23 H fun t24 =>
 p.call 4 (.fn 156 [] []) [t20, t24] H fun t25 H =>
 p.un .not t25 fun t26 =>
 p.cond t26
 (k (.sc (.bool false)) H)
 (p.bin .add t5 (.sc (.int .i64 1)) fun t16 =>
 f112_L0 p n  k m0 (tz [t0, t1, t2, t3, t4, t16, t6, t7, t8, t9, t10, t5, t0, t13, t14, t5, t16, t0, t5, t19, t20, t1, t5, t23, t24, t25, t26]) H))
 (k (.sc (.bool true)) H) := by kernel_rfl
theorem f112_l0_eq (p : Pr β) (n : Nat)  (k : AV → Heap → Option β)   (m0 : Nat) : ∀ (t0 t1 t2 t3 t4 t5 t6 t7 t8 t9 t10 t11 t12 t13 t14 t15 t16 t17 t18 t19 t20 t21 t22 t23 t24 t25 t26 : AV) (H : Heap), f112_L0 p n  k m0 (tz [t0, t1, t2, t3, t4, t5, t6, t7, t8, t9, t10, t11, t12, t13, t14, t15, t16, t17, t18, t19, t20, t21, t22, t23, t24, t25, t26]) H = f112_l0 p n  k m0 t0 t1 t5 H := by
 induction m0 with
 | zero => intros; rfl
 | succ m0 ih =>
  intro t0 t1 t2 t3 t4 t5 t6 t7 t8 t9 t10 t11 t12 t13 t14 t15 t16 t17 t18 t19 t20 t21 t22 t23 t24 t25 t26 H
  rw [f112_L0_step]
  simp only [ih]
  rfl
theorem f112_raw (p : Pr β) (n : Nat) (a0 a1 : AV) (H : Heap) (k : AV → Heap → Option β) : evalBody ti0 p n ⟨c112, 27, Go.Proofs.Tryz.f112.results.toList, o112⟩ [a0, a1] H k =
 p.len a0 fun t7 =>
 p.len a1 fun t9 =>
 p.bin .neq t7 t9 fun t10 =>
 p.cond t10
 (k (.sc (.bool false)) H)
 (f112_L0 p n  k n (tz [a0, a1, uu, uu, (.sc (.bool false)), (.sc (.int .i64 0)), a0, t7, a1, t9, t10, uu, uu, uu, uu, uu, uu, uu, uu, uu, uu, uu, uu, uu, uu, uu, uu]) H) := by kernel_rfl
theorem f112_body (p : Pr β) (n : Nat) (a0 a1 : AV) (H : Heap) (k : AV → Heap → Option β) : evalBody ti0 p n ⟨c112, 27, Go.Proofs.Tryz.f112.results.toList, o112⟩ [a0, a1] H k = f112 p n a0 a1 H k := by
 rw [f112_raw]
 simp only [f112_l0_eq]
 rfl
noncomputable def f113_l0 (p : Pr β) (n : Nat)  (k : AV → Heap → Option β) : Nat → AV → AV → AV → Heap → Option β
 | 0, _, _, _, _ => none
 | m + 1, t0, t1, t5, H => p.len t0 fun t13 =>
   p.bin .lss t5 t13 fun t14 =>
   p.cond t14
   (p.iadr 1 t0 t5 fun t19 =>
   p.load false 1 t19 H fun t20 =>
   p.iadr 1 t1 t5 fun t23 =>
   p.load false 1 t23 H fun t24 =>
   p.bin .neq t20 t24 fun t25 =>
   p.cond t25
   (k (.sc (.bool false)) H)
   (p.bin .add t5 (.sc (.int .i64 1)) fun t16 =>
   f113_l0 p n  k m t0 t1 t16 H))
   (k (.sc (.bool true)) H)
noncomputable def f113 (p : Pr β) (n : Nat) (a0 a1 : AV) (H : Heap) (k : AV → Heap → Option β) : Option β :=
 p.len a0 fun t7 =>
 p.len a1 fun t9 =>
 p.bin .neq t7 t9 fun t10 =>
 p.cond t10
 (k (.sc (.bool false)) H)
 (f113_l0 p n  k n a0 a1 (.sc (.int .i64 0)) H)
noncomputable def f113_L0 (p : Pr β) (n : Nat)  (k : AV → Heap → Option β) (m : Nat) (tm : Tm) (H : Heap) : Option β :=
 iterC 26 (fun tm H k => evalCode ti0 p o113 26 n (cd c113 [1, 1, 0, 1, 0, 0]) tm H k) (blkK 0 (seqK (fun tm H => evalCode ti0 p o113 26 n (cd c113 [1, 1, 1]) tm H (endK ti0 p Go.Proofs.Tryz.f113.results.toList k)) (endK ti0 p Go.Proofs.Tryz.f113.results.toList k))) m tm H
theorem f113_L0_step (p : Pr β) (n : Nat)  (k : AV → Heap → Option β) (m0 : Nat) (t0 t1 t2 t3 t4 t5 t6 t7 t8 t9 t10 t11 t12 t13 t14 t15 t16 t17 t18 t19 t20 t21 t22 t23 t24 t25 : AV) (H : Heap) : f113_L0 p n  k (m0 + 1) (tz [t0, t1, t2, t3, t4, t5, t6, t7, t8, t9, t10, t11, t12, t13, t14, t15, t16, t17, t18, t19, t20, t21, t22, t23, t24, t25]) H =
 p.len t0 fun t13 =>
 p.bin .lss t5 t13 fun t14 =>
 p.cond t14
 (p.iadr 1 t0 t5 fun t19 =>
 p.load false 1 t19 H fun t20 =>
 p.iadr 1 t1 t5 fun t23 =>
 p.load false 1 t23 H fun t24 =>
 p.bin .neq t20 t24 fun t25 =>
 p.cond t25
 (k (.sc (.bool false)) H)
 (p.bin .add t5 (.sc (.int .i64 1)) fun t16 =>
 f113_L0 p n  k m0 (tz [t0, t1, t2, t3, t4, t16, t6, t7, t8, t9, t10, t5, t0, t13, t14, t5, t16, t0, t5, t19, t20, t1, t5, t23, t24, t25]) H))
 (k (.sc (.bool true)) H) := by kernel_rfl
theorem f113_l0_eq (p : Pr β) (n : Nat)  (k : AV → Heap → Option β)   (m0 : Nat) : ∀ (t0 t1 t2 t3 t4 t5 t6 t7 t8 t9 t10 t11 t12 t13 t14 t15 t16 t17 t18 t19 t20 t21 t22 t23 t24 t25 : AV) (H : Heap), f113_L0 p n  k m0 (tz [t0, t1, t2, t3, t4, t5, t6, t7, t8, t9, t10, t11, t12, t13, t14, t15, t16, t17, t18, t19, t20, t21, t22, t23, t24, t25]) H = f113_l0 p n  k m0 t0 t1 t5 H := by
 induction m0 with
 | zero => intros; rfl
 | succ m0 ih =>
  intro t0 t1 t2 t3 t4 t5 t6 t7 t8 t9 t10 t11 t12 t13 t14 t15 t16 t17 t18 t19 t20 t21 t22 t23 t24 t25 H
  rw [f113_L0_step]
  simp only [ih]
  rfl
theorem f113_raw (p : Pr β) (n : Nat) (a0 a1 : AV) (H : Heap) (k : AV → Heap → Option β) : evalBody ti0 p n ⟨c113, 26, Go.Proofs.Tryz.f113.results.toList, o113⟩ [a0, a1] H k =
 p.len a0 fun t7 =>
 p.len a1 fun t9 =>
 p.bin .neq t7 t9 fun t10 =>
 p.cond t10
 (k (.sc (.bool false)) H)
 (f113_L0 p n  k n (tz [a0, a1, uu, uu, (.sc (.bool false)), (.sc (.int .i64 0)), a0, t7, a1, t9, t10, uu, uu, uu, uu, uu, uu, uu, uu, uu, uu, uu, uu, uu, uu, uu]) H) := by kernel_rfl
theorem f113_body (p : Pr β) (n : Nat) (a0 a1 : AV) (H : Heap) (k : AV → Heap → Option β) : evalBody ti0 p n ⟨c113, 26, Go.Proofs.Tryz.f113.results.toList, o113⟩ [a0, a1] H k = f113 p n a0 a1 H k := by
 rw [f113_raw]
 simp only [f113_l0_eq]
 rfl
noncomputable def f63_l0 (p : Pr β) (n : Nat)  (k : AV → Heap → Option β) : Nat → AV → AV → AV → Heap → Option β
 | 0, _, _, _, _ => none
 | m + 1, t0, t1, t5, H => p.len t0 fun t13 =>
   p.bin .lss t5 t13 fun t14 =>
   p.cond t14
   (p.iadr 1 t0 t5 fun t19 =>
   p.load false 1 t19 H fun t20 =>
   p.iadr 1 t1 t5 fun t23 =>
   p.load false 1 t23 H fun t24 =>
   p.bin .neq t20 t24 fun t25 =>
   p.cond t25
   (k (.sc (.bool false)) H)
   (p.bin .add t5 (.sc (.int .i64 1)) fun t16 =>
   f63_l0 p n  k m t0 t1 t16 H))
   (k (.sc (.bool true)) H)
noncomputable def f63 (p : Pr β) (n : Nat) (a0 a1 : AV) (H : Heap) (k : AV → Heap → Option β) : Option β :=
 p.len a0 fun t7 =>
 p.len a1 fun t9 =>
 p.bin .neq t7 t9 fun t10 =>
 p.cond t10
 (k (.sc (.bool false)) H)
 (f63_l0 p n  k n a0 a1 (.sc (.int .i64 0)) H)
noncomputable def f63_L0 (p : Pr β) (n : Nat)  (k : AV → Heap → Option β) (m : Nat) (tm : Tm) (H : Heap) : Option β :=
 iterC 26 (fun tm H k => evalCode ti0 p o63 26 n (cd c63 [1, 1, 0, 1, 0, 0]) tm H k) (blkK 0 (seqK (fun tm H => evalCode ti0 p o63 26 n (cd c63 [1, 1, 1]) tm H (endK ti0 p Go.Proofs.Tryz.f63.results.toList k)) (endK ti0 p Go.Proofs.Tryz.f63.results.toList k))) m tm H
theorem f63_L0_step (p : Pr β) (n : Nat)  (k : AV → Heap → Option β) (m0 : Nat) (t0 t1 t2 t3 t4 t5 t6 t7 t8 t9 t10 t11 t12 t13 t14 t15 t16 t17 t18 t19 t20 t21 t22 t23 t24 t25 : AV) (H : Heap) : f63_L0 p n  k (m0 + 1) (tz [t0, t1, t2, t3, t4, t5, t6, t7, t8, t9, t10, t11, t12, t13, t14, t15, t16, t17, t18, t19, t20, t21, t22, t23, t24, t25]) H =
 p.len t0 fun t13 =>
 p.bin .lss t5 t13 fun t14 =>
 p.cond t14
 (p.iadr 1 t0 t5 fun t19 =>
 p.load false 1 t19 H fun t20 =>
 p.iadr 1 t1 t5 fun t23 =>
 p.load false 1 t23 H fun t24 =>
 p.bin .neq t20 t24 fun t25 =>
 p.cond t25
 (k (.sc (.bool false)) H)
 (p.bin .add t5 (.sc (.int .i64 1)) fun t16 =>
 f63_L0 p n  k m0 (tz [t0, t1, t2, t3, t4, t16, t6, t7, t8, t9, t10, t5, t0, t13, t14, t5, t16, t0, t5, t19, t20, t1, t5, t23, t24, t25]) H))
 (k (.sc (.bool true)) H) := by kernel_rfl
theorem f63_l0_eq (p : Pr β) (n : Nat)  (k : AV → Heap → Option β)   (m0 : Nat) : ∀ (t0 t1 t2 t3 t4 t5 t6 t7 t8 t9 t10 t11 t12 t13 t14 t15 t16 t17 t18 t19 t20 t21 t22 t23 t24 t25 : AV) (H : Heap), f63_L0 p n  k m0 (tz [t0, t1, t2, t3, t4, t5, t6, t7, t8, t9, t10, t11, t12, t13, t14, t15, t16, t17, t18, t19, t20, t21, t22, t23, t24, t25]) H = f63_l0 p n  k m0 t0 t1 t5 H := by
 induction m0 with
 | zero => intros; rfl
 | succ m0 ih =>
  intro t0 t1 t2 t3 t4 t5 t6 t7 t8 t9 t10 t11 t12 t13 t14 t15 t16 t17 t18 t19 t20 t21 t22 t23 t24 t25 H
  rw [f63_L0_step]
  simp only [ih]
  rfl
theorem f63_raw (p : Pr β) (n : Nat) (a0 a1 : AV) (H : Heap) (k : AV → Heap → Option β) : evalBody ti0 p n ⟨c63, 26, Go.Proofs.Tryz.f63.results.toList, o63⟩ [a0, a1] H k =
 p.len a0 fun t7 =>
 p.len a1 fun t9 =>
 p.bin .neq t7 t9 fun t10 =>
 p.cond t10
 (k (.sc (.bool false)) H)
 (f63_L0 p n  k n (tz [a0, a1, uu, uu, (.sc (.bool false)), (.sc (.int .i64 0)), a0, t7, a1, t9, t10, uu, uu, uu, uu, uu, uu, uu, uu, uu, uu, uu, uu, uu, uu, uu]) H) := by kernel_rfl
theorem f63_body (p : Pr β) (n : Nat) (a0 a1 : AV) (H : Heap) (k : AV → Heap → Option β) : evalBody ti0 p n ⟨c63, 26, Go.Proofs.Tryz.f63.results.toList, o63⟩ [a0, a1] H k = f63 p n a0 a1 H k := by
 rw [f63_raw]
 simp only [f63_l0_eq]
 rfl
end Go.Proofs.YtdameggfgnpehaaGreatDoor.Abs
