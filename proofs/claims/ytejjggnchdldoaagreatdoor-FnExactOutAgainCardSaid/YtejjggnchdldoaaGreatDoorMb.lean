/- What the proof needs, part 2: a sound evaluator over trees, the program's functions on it, and what they come to. -/
import Derived.Test.YtejjggnchdldoaaGreatDoorMa
import Derived.Lib.SplitLaws
import Derived.Lib.IndexAny
import Derived.Lib.ValidLaws
import Derived.Test.YtejjggnchdldoaaGreatDoorProg
import Derived.KernelRfl
set_option linter.unusedVariables false
set_option linter.unusedSimpArgs false
namespace Go.Proofs.YtejjggnchdldoaaGreatDoor.Abs
open Go
def lvL : List UInt8 → List UInt8 → List (List UInt8)
 | cur, [] => [cur]
 | cur, b :: l => if b = 47 then cur :: lvL [] l else lvL (cur ++ [b]) l
def ofL (l : List UInt8) : ByteArray := ⟨l.toArray⟩
def vLevels (s : ByteArray) : List ByteArray := (lvL [] s.data.toList).map ofL
def vHas (s : ByteArray) (b : UInt8) : Bool := s.data.toList.any fun c => c == b
def vPH (s : ByteArray) : Bool := vHas s 43 || vHas s 35
def sepB : ByteArray := ⟨#[47]⟩
def phB : ByteArray := ⟨#[43, 35]⟩
def consH (c : List UInt8) : List (List UInt8) → List (List UInt8)
 | [] => [c]
 | h :: t => (c ++ h) :: t
theorem consH_nil {X : List (List UInt8)} (h : X ≠ []) : consH [] X = X := by
 cases X with
 | nil => exact absurd rfl h
 | cons h t => rfl
theorem consH_consH (a b : List UInt8) {X : List (List UInt8)} (h : X ≠ []) : consH a (consH b X) = consH (a ++ b) X := by
 cases X with
 | nil => exact absurd rfl h
 | cons h t => simp [consH]
theorem splitK_ne (sep : List UInt8) (k : Nat) (l : List UInt8) : Lib.splitK sep 0 k l ≠ [] := by
 cases k with
 | zero => simp [Lib.splitK]
 | succ k =>
  unfold Lib.splitK
  split <;> simp
theorem index_at (l : List UInt8) : Lib.index (47 :: l) [47] = 0 := by
 unfold Lib.index
 simp
theorem index_ne (b : UInt8) (l : List UInt8) (h : b ≠ 47) : Lib.index (b :: l) [47] = if Lib.index l [47] == -1 then -1 else Lib.index l [47] + 1 := by
 rw [Lib.index]
 rw [if_neg]
 simpa using fun h' => h h'.symm
theorem splitK_ne_cons (b : UInt8) (h : b ≠ 47) (k : Nat) (l : List UInt8) : Lib.splitK [47] 0 k (b :: l) = consH [b] (Lib.splitK [47] 0 k l) := by
 cases k with
 | zero => rfl
 | succ k =>
  have hge := Lib.index_ge l [47]
  unfold Lib.splitK
  rw [index_ne b l h]
  by_cases hi : Lib.index l [47] = -1
  ·simp [hi, consH]
  ·have e1 : (Lib.index l [47] == -1) = false := by simpa using hi
   have e2 : (Lib.index l [47] + 1 == -1) = false := by simp; omega
   have e3 : (Lib.index l [47] + 1).toNat = (Lib.index l [47]).toNat + 1 := by omega
   simp only [e1, e2, e3, Bool.false_eq_true, if_false, consH, Nat.add_zero, List.length_singleton]
   rw [show (Lib.index l [47]).toNat + 1 + 1 = ((Lib.index l [47]).toNat + 1) + 1 from rfl, List.drop_succ_cons, List.take_succ_cons]
   rfl
theorem lvL_split : ∀ (l cur : List UInt8), lvL cur l = consH cur (Lib.splitK [47] 0 (Lib.count l [47]) l)
 | [], cur => by
  have e : Lib.count [] [47] = 0 := by rw [Lib.count_one]; rfl
  rw [e]
  simp [lvL, Lib.splitK, consH]
 | b :: l, cur => by
  rw [lvL]
  by_cases h : b = 47
  ·subst h
   rw [if_pos rfl, lvL_split l [], Lib.count_cons_eq, Nat.add_comm, Lib.splitK, index_at]
   rw [consH_nil (splitK_ne _ _ _)]
   simp [consH]
  ·rw [if_neg h, lvL_split l (cur ++ [b]), Lib.count_cons_ne _ _ _ h, splitK_ne_cons b h, consH_consH _ _ (splitK_ne _ _ _)]
theorem ofL_data (s : ByteArray) : ofL s.data.toList = s := by
 cases s
 rfl
theorem map_ofL (l : List ByteArray) : (l.map (·.data.toList)).map ofL = l := by
 rw [List.map_map]
 conv => rhs; rw [← List.map_id l]
 exact List.map_congr_left fun s _ => ofL_data s
theorem split_levels (s : ByteArray) : Lib.splitB sepB 0 (Lib.countB s sepB) s = vLevels s := by
 have h := Lib.splitB_data sepB 0 (Lib.countB s sepB) s
 rw [← map_ofL (Lib.splitB sepB 0 (Lib.countB s sepB) s), h, vLevels, lvL_split, consH_nil (splitK_ne _ _ _)]
 rfl
theorem levels_len (s : ByteArray) : (vLevels s).length = Lib.countB s sepB + 1 := by
 rw [← split_levels]
 exact Lib.splitB_all sepB (Nat.le_refl _) 0 _ s rfl
theorem indexAny_any (chars : List UInt8) : ∀ l : List UInt8, decide (0 ≤ Lib.indexAny l chars) = l.any fun c => chars.contains c
 | [] => rfl
 | b :: l => by
  have ih := indexAny_any chars l
  have hge := Lib.indexAny_ge chars l
  rw [Lib.indexAny, List.any_cons, ← ih]
  by_cases h : chars.contains b = true
  ·rw [if_pos h, h]
   simp
  ·rw [if_neg h]
   have h' : chars.contains b = false := by simpa using h
   rw [h', Bool.false_or]
   by_cases hi : Lib.indexAny l chars = -1
   ·rw [hi]
    rfl
   ·rw [if_neg (by simpa using hi)]
    congr 1
    simp
    omega
theorem any_or {α : Type} (p q : α → Bool) : ∀ l : List α, (l.any fun c => p c || q c) = (l.any p || l.any q)
 | [] => rfl
 | x :: l => by
  rw [List.any_cons, List.any_cons, List.any_cons, any_or p q l]
  cases p x <;> cases q x <;> simp
theorem has_ph (s : ByteArray) : Lib.containsAny s.data.toList phB.data.toList = vPH s := by
 unfold Lib.containsAny vPH vHas
 rw [indexAny_any, ← any_or]
 congr 1
 funext c
 simp [phB]
 rfl
end Go.Proofs.YtejjggnchdldoaaGreatDoor.Abs
set_option linter.unusedVariables false
namespace Go.Proofs.YtejjggnchdldoaaGreatDoor.Abs
open Go
def textGo : Nat → List UInt8 → Bool
 | 0, _ => true
 | n + 1, l => if l = [] then true else if (Lib.decodeL l).1 = 65533 ∧ (Lib.decodeL l).2 = 1 then false else if (Lib.decodeL l).1 = 0 then false else textGo n (l.drop (Lib.decodeL l).2)
def vTextOk (s : ByteArray) : Bool := decide (s.size ≤ 60) && textGo s.size s.data.toList
def ext143 (ty : Nat) (vs : List AV) : Option AV :=
 match vs with
 | [.sc (.string s)] => if s.size ≤ maxLen then some (.sc (.bool (vTextOk s))) else none
 | _ => none
def ext162 (ty : Nat) (vs : List AV) : Option AV :=
 match vs with
 | [.sc (.string s), .sc (.string c)] => if c.data.toList = [43, 35] ∧ s.size < 4294967281 then some (.sc (.bool (vPH s))) else none
 | _ => none
def ext172 (ty : Nat) (vs : List AV) : Option AV :=
 match vs with
 | [.sc (.string s), .sc (.string c)] => if ty = 64 ∧ c.data.toList = [47] ∧ s.size < 4294967281 then some (.ro (vLevels s).length ((vLevels s).map fun x => .sc (.string x))) else none
 | _ => none
end Go.Proofs.YtejjggnchdldoaaGreatDoor.Abs
set_option linter.unusedVariables false
set_option linter.unusedSimpArgs false
set_option maxRecDepth 100000
namespace Go.Proofs.YtejjggnchdldoaaGreatDoor.Abs
open Go
variable {β : Type}
noncomputable def tis : List (Option TI) := [none,
 none,
 some ⟨false, false, 1, 8, [(.int .i64 0)], 0, [], some .i64, false, false, [2], false⟩,
 some ⟨false, false, 1, 8, [(.int .i64 0)], 0, [], some .i64, false, false, [3], false⟩,
 some ⟨false, false, 1, 1, [(.bool false)], 0, [], none, false, true, [4], false⟩,
 some ⟨false, false, 1, 1, [(.int .u8 0)], 0, [], some .u8, false, false, [5], false⟩,
 some ⟨false, false, 1, 1, [(.int .u8 0)], 0, [], some .u8, false, false, [6], false⟩,
 none,
 none,
 some ⟨false, false, 1, 16, [(.string ⟨#[]⟩)], 0, [], none, true, false, [9], false⟩,
 some ⟨false, false, 1, 16, [(.string ⟨#[]⟩)], 0, [], none, true, false, [10], false⟩,
 some ⟨false, false, 1, 16, [(.string ⟨#[]⟩)], 0, [], none, true, false, [11], false⟩,
 some ⟨false, false, 1, 8, [(.int .u64 0)], 0, [], some .u64, false, false, [12], false⟩,
 none,
 none,
 none,
 none,
 none,
 none,
 none,
 none,
 some ⟨false, false, 1, 4, [(.int .i32 0)], 0, [], some .i32, false, false, [21], false⟩,
 some ⟨false, true, 1, 24, [(.slice none 0 0)], 134, [], none, false, false, [22], false⟩,
 some ⟨false, true, 1, 24, [(.slice none 0 0)], 45, [], none, false, false, [23], false⟩,
 none,
 some ⟨true, false, 3, 56, [(.int .i64 0), (.slice none 0 0), (.slice none 0 0)], 0, [(0, 3), (1, 22), (2, 23)], none, false, false, [3, 22, 23], false⟩,
 some ⟨false, true, 1, 24, [(.slice none 0 0)], 3, [], none, false, false, [26], false⟩,
 none,
 none,
 none,
 some ⟨false, true, 1, 24, [(.slice none 0 0)], 100, [], none, false, false, [30], false⟩,
 some ⟨false, true, 1, 24, [(.slice none 0 0)], 49, [], none, false, false, [31], false⟩,
 none,
 some ⟨true, false, 3, 56, [(.int .i64 0), (.slice none 0 0), (.slice none 0 0)], 0, [(0, 3), (1, 30), (2, 31)], none, false, false, [3, 30, 31], false⟩,
 none,
 none,
 none,
 none,
 none,
 none,
 none,
 none,
 none,
 some ⟨false, true, 1, 24, [(.slice none 0 0)], 5, [], none, false, false, [43], false⟩,
 none,
 some ⟨true, false, 4, 56, [(.string ⟨#[]⟩), (.slice none 0 0), (.int .i64 0), (.bool false)], 0, [(0, 9), (1, 43), (2, 3), (3, 4)], none, false, false, [9, 43, 3, 4], false⟩,
 none,
 none,
 none,
 some ⟨true, false, 4, 56, [(.string ⟨#[]⟩), (.slice none 0 0), (.int .i64 0), (.bool false)], 0, [(0, 9), (1, 43), (2, 3), (3, 4)], none, false, false, [9, 43, 3, 4], false⟩,
 none,
 none,
 none,
 none,
 none,
 some ⟨false, true, 1, 24, [(.slice none 0 0)], 66, [], none, false, false, [55], false⟩,
 none,
 none,
 none,
 none,
 none,
 none,
 none,
 some ⟨false, true, 1, 24, [(.slice none 0 0)], 144, [], none, false, false, [63], false⟩,
 some ⟨false, true, 1, 24, [(.slice none 0 0)], 9, [], none, false, false, [64], false⟩,
 none,
 some ⟨true, false, 25, 320, [(.int .i64 0), (.bool false), (.int .i64 0), (.bool false), (.int .i64 0), (.string ⟨#[]⟩), (.slice none 0 0), (.string ⟨#[]⟩), (.int .i64 0), (.bool false), (.int .i64 0), (.bool false), (.string ⟨#[]⟩), (.slice none 0 0), (.int .i64 0), (.bool false), (.bool false), (.string ⟨#[]⟩), (.bool false), (.slice none 0 0), (.int .i64 0), (.bool false), (.slice none 0 0), (.slice none 0 0), (.slice none 0 0)], 0, [(0, 3), (1, 4), (2, 3), (3, 4), (4, 3), (5, 9), (6, 43), (7, 9), (8, 3), (9, 4), (10, 3), (11, 4), (12, 9), (13, 43), (14, 3), (15, 4), (16, 4), (17, 9), (18, 4), (19, 43), (20, 3), (21, 4), (22, 63), (23, 64), (24, 26)], none, false, false, [3, 4, 3, 4, 3, 9, 43, 9, 3, 4, 3, 4, 9, 43, 3, 4, 4, 9, 4, 43, 3, 4, 63, 64, 26], false⟩,
 none,
 none,
 none,
 none,
 none,
 none,
 none,
 none,
 none,
 none,
 none,
 none,
 none,
 none,
 none,
 none,
 none,
 none,
 none,
 none,
 none,
 none,
 none,
 none,
 none,
 none,
 none,
 none,
 none,
 none,
 none,
 none,
 none,
 some ⟨true, false, 6, 72, [(.int .i64 0), (.string ⟨#[]⟩), (.slice none 0 0), (.int .i64 0), (.bool false), (.int .i64 0)], 0, [(0, 3), (1, 49), (5, 3)], none, false, false, [3, 9, 43, 3, 4, 3], false⟩,
 none,
 none,
 none,
 none,
 none,
 none,
 none,
 none,
 none,
 none,
 none,
 none,
 none,
 none,
 none,
 none,
 none,
 none,
 none,
 none,
 none,
 none,
 none,
 none,
 none,
 none,
 none,
 none,
 none,
 none,
 none,
 none,
 none,
 some ⟨true, false, 6, 72, [(.int .i64 0), (.string ⟨#[]⟩), (.slice none 0 0), (.int .i64 0), (.bool false), (.int .i64 0)], 0, [(0, 3), (1, 45), (5, 3)], none, false, false, [3, 9, 43, 3, 4, 3], false⟩,
 none,
 none,
 none,
 none,
 none,
 none,
 none,
 none,
 none,
 some ⟨true, false, 2, 24, [(.string ⟨#[]⟩), (.int .i64 0)], 0, [(0, 9), (1, 3)], none, false, false, [9, 3], true⟩,
 none,
 none,
 none,
 none,
 none,
 none,
 none,
 none,
 none,
 none,
 some ⟨false, true, 1, 24, [(.slice none 0 0)], 43, [], none, false, false, [155], false⟩]
noncomputable def bodyOf (f : Func) : Code := match f.body with | some c => c | none => .skip
noncomputable def c59 : Code := bodyOf Go.Proofs.Tryz.f59
noncomputable def c19 : Code := bodyOf Go.Proofs.Tryz.f19
noncomputable def c117 : Code := bodyOf Go.Proofs.Tryz.f117
noncomputable def c65 : Code := bodyOf Go.Proofs.Tryz.f65
noncomputable def c66 : Code := bodyOf Go.Proofs.Tryz.f66
noncomputable def c25 : Code := bodyOf Go.Proofs.Tryz.f25
noncomputable def c61 : Code := bodyOf Go.Proofs.Tryz.f61
noncomputable def c21 : Code := bodyOf Go.Proofs.Tryz.f21
noncomputable def c122 : Code := bodyOf Go.Proofs.Tryz.f122
noncomputable def c70 : Code := bodyOf Go.Proofs.Tryz.f70
noncomputable def c71 : Code := bodyOf Go.Proofs.Tryz.f71
noncomputable def c27 : Code := bodyOf Go.Proofs.Tryz.f27
noncomputable def c109 : Code := bodyOf Go.Proofs.Tryz.f109
noncomputable def c157 : Code := bodyOf Go.Proofs.Tryz.f157
noncomputable def c142 : Code := bodyOf Go.Proofs.Tryz.f142
noncomputable def c108 : Code := bodyOf Go.Proofs.Tryz.f108
noncomputable def c159 : Code := bodyOf Go.Proofs.Tryz.f159
noncomputable def c160 : Code := bodyOf Go.Proofs.Tryz.f160
noncomputable def c144 : Code := bodyOf Go.Proofs.Tryz.f144
noncomputable def c118 : Code := bodyOf Go.Proofs.Tryz.f118
noncomputable def c119 : Code := bodyOf Go.Proofs.Tryz.f119
noncomputable def c120 : Code := bodyOf Go.Proofs.Tryz.f120
noncomputable def c67 : Code := bodyOf Go.Proofs.Tryz.f67
noncomputable def c146 : Code := bodyOf Go.Proofs.Tryz.f146
noncomputable def c161 : Code := bodyOf Go.Proofs.Tryz.f161
noncomputable def c145 : Code := bodyOf Go.Proofs.Tryz.f145
noncomputable def c147 : Code := bodyOf Go.Proofs.Tryz.f147
noncomputable def c121 : Code := bodyOf Go.Proofs.Tryz.f121
noncomputable def c68 : Code := bodyOf Go.Proofs.Tryz.f68
noncomputable def c69 : Code := bodyOf Go.Proofs.Tryz.f69
noncomputable def c26 : Code := bodyOf Go.Proofs.Tryz.f26
noncomputable def c114 : Code := bodyOf Go.Proofs.Tryz.f114
noncomputable def c123 : Code := bodyOf Go.Proofs.Tryz.f123
noncomputable def c137 : Code := bodyOf Go.Proofs.Tryz.f137
noncomputable def c136 : Code := bodyOf Go.Proofs.Tryz.f136
noncomputable def c97 : Code := bodyOf Go.Proofs.Tryz.f97
noncomputable def c163 : Code := bodyOf Go.Proofs.Tryz.f163
noncomputable def c148 : Code := bodyOf Go.Proofs.Tryz.f148
noncomputable def c149 : Code := bodyOf Go.Proofs.Tryz.f149
noncomputable def c124 : Code := bodyOf Go.Proofs.Tryz.f124
noncomputable def c125 : Code := bodyOf Go.Proofs.Tryz.f125
noncomputable def c150 : Code := bodyOf Go.Proofs.Tryz.f150
noncomputable def c126 : Code := bodyOf Go.Proofs.Tryz.f126
noncomputable def c72 : Code := bodyOf Go.Proofs.Tryz.f72
noncomputable def c152 : Code := bodyOf Go.Proofs.Tryz.f152
noncomputable def c164 : Code := bodyOf Go.Proofs.Tryz.f164
noncomputable def c165 : Code := bodyOf Go.Proofs.Tryz.f165
noncomputable def c166 : Code := bodyOf Go.Proofs.Tryz.f166
noncomputable def c167 : Code := bodyOf Go.Proofs.Tryz.f167
noncomputable def c151 : Code := bodyOf Go.Proofs.Tryz.f151
noncomputable def c153 : Code := bodyOf Go.Proofs.Tryz.f153
noncomputable def c173 : Code := bodyOf Go.Proofs.Tryz.f173
noncomputable def c168 : Code := bodyOf Go.Proofs.Tryz.f168
noncomputable def c154 : Code := bodyOf Go.Proofs.Tryz.f154
noncomputable def c127 : Code := bodyOf Go.Proofs.Tryz.f127
noncomputable def c73 : Code := bodyOf Go.Proofs.Tryz.f73
noncomputable def c128 : Code := bodyOf Go.Proofs.Tryz.f128
noncomputable def c74 : Code := bodyOf Go.Proofs.Tryz.f74
noncomputable def c28 : Code := bodyOf Go.Proofs.Tryz.f28
noncomputable def c63 : Code := bodyOf Go.Proofs.Tryz.f63
noncomputable def c135 : Code := bodyOf Go.Proofs.Tryz.f135
noncomputable def c93 : Code := bodyOf Go.Proofs.Tryz.f93
noncomputable def c94 : Code := bodyOf Go.Proofs.Tryz.f94
noncomputable def c55 : Code := bodyOf Go.Proofs.Tryz.f55
noncomputable def c36 : Code := bodyOf Go.Proofs.Tryz.f36
noncomputable def c29 : Code := bodyOf Go.Proofs.Tryz.f29
noncomputable def c23 : Code := bodyOf Go.Proofs.Tryz.f23
noncomputable def c129 : Code := bodyOf Go.Proofs.Tryz.f129
noncomputable def c75 : Code := bodyOf Go.Proofs.Tryz.f75
noncomputable def c76 : Code := bodyOf Go.Proofs.Tryz.f76
noncomputable def c30 : Code := bodyOf Go.Proofs.Tryz.f30
noncomputable def c79 : Code := bodyOf Go.Proofs.Tryz.f79
noncomputable def c64 : Code := bodyOf Go.Proofs.Tryz.f64
noncomputable def c77 : Code := bodyOf Go.Proofs.Tryz.f77
noncomputable def c78 : Code := bodyOf Go.Proofs.Tryz.f78
noncomputable def c31 : Code := bodyOf Go.Proofs.Tryz.f31
noncomputable def c80 : Code := bodyOf Go.Proofs.Tryz.f80
noncomputable def c81 : Code := bodyOf Go.Proofs.Tryz.f81
noncomputable def c56 : Code := bodyOf Go.Proofs.Tryz.f56
noncomputable def c32 : Code := bodyOf Go.Proofs.Tryz.f32
noncomputable def c82 : Code := bodyOf Go.Proofs.Tryz.f82
noncomputable def c83 : Code := bodyOf Go.Proofs.Tryz.f83
noncomputable def c84 : Code := bodyOf Go.Proofs.Tryz.f84
noncomputable def c57 : Code := bodyOf Go.Proofs.Tryz.f57
noncomputable def c33 : Code := bodyOf Go.Proofs.Tryz.f33
noncomputable def c6 : Code := bodyOf Go.Proofs.Tryz.f6
noncomputable def o59 : List (Nat × PI) := []
noncomputable def o19 : List (Nat × PI) := []
noncomputable def o117 : List (Nat × PI) := []
noncomputable def o65 : List (Nat × PI) := []
noncomputable def o66 : List (Nat × PI) := []
noncomputable def o25 : List (Nat × PI) := []
noncomputable def o61 : List (Nat × PI) := []
noncomputable def o21 : List (Nat × PI) := []
noncomputable def o122 : List (Nat × PI) := []
noncomputable def o70 : List (Nat × PI) := []
noncomputable def o71 : List (Nat × PI) := []
noncomputable def o27 : List (Nat × PI) := []
noncomputable def o109 : List (Nat × PI) := []
noncomputable def o157 : List (Nat × PI) := []
noncomputable def o142 : List (Nat × PI) := []
noncomputable def o108 : List (Nat × PI) := []
noncomputable def o159 : List (Nat × PI) := []
noncomputable def o160 : List (Nat × PI) := []
noncomputable def o144 : List (Nat × PI) := []
noncomputable def o118 : List (Nat × PI) := []
noncomputable def o119 : List (Nat × PI) := []
noncomputable def o120 : List (Nat × PI) := []
noncomputable def o67 : List (Nat × PI) := [(9, PI.of [0, 1, 2, 3, 4, 5, 6, 7, 8, 9, 10, 11, 12])]
noncomputable def o146 : List (Nat × PI) := []
noncomputable def o161 : List (Nat × PI) := []
noncomputable def o145 : List (Nat × PI) := [(6, PI.of [0, 1, 2, 3, 4, 5, 6, 7, 8, 9, 10]), (11, PI.of [0, 1, 2, 3, 4, 5, 6, 7, 8, 9, 10]), (16, PI.of [0, 1, 2, 3, 4, 5, 6, 7, 8, 9, 10])]
noncomputable def o147 : List (Nat × PI) := []
noncomputable def o121 : List (Nat × PI) := [(1, .one 0 (.one 1 (.one 2 (.one 3 (.one 4 (.one 6 (.two 5 (PI.of [7, 8, 9, 10]) 7 (PI.of [5, 8, 9, 10]))))))))]
noncomputable def o68 : List (Nat × PI) := []
noncomputable def o69 : List (Nat × PI) := [(1, PI.of [0, 1, 2, 3, 4, 5, 6, 7, 9, 10, 8, 11, 12, 13])]
noncomputable def o26 : List (Nat × PI) := []
noncomputable def o114 : List (Nat × PI) := []
noncomputable def o123 : List (Nat × PI) := []
noncomputable def o137 : List (Nat × PI) := []
noncomputable def o136 : List (Nat × PI) := []
noncomputable def o97 : List (Nat × PI) := []
noncomputable def o163 : List (Nat × PI) := []
noncomputable def o148 : List (Nat × PI) := []
noncomputable def o149 : List (Nat × PI) := []
noncomputable def o124 : List (Nat × PI) := []
noncomputable def o125 : List (Nat × PI) := []
noncomputable def o150 : List (Nat × PI) := []
noncomputable def o126 : List (Nat × PI) := []
noncomputable def o72 : List (Nat × PI) := []
noncomputable def o152 : List (Nat × PI) := [(4, .one 0 (.one 1 (.one 2 (.one 4 (.one 6 (.one 8 (.one 10 (.one 12 (.ld 3 (.ld 5 (.ld 7 (.ld 9 (.ld 11 (.st 13 3 (.one 14 (.st 15 3 (.one 16 (.st 17 3 (.one 18 (.st 19 3 (.one 20 (.st 21 3 (PI.of [22, 23]))))))))))))))))))))))), (6, .one 0 (.one 1 (.one 2 (.one 4 (.one 6 (.one 8 (.ld 3 (.ld 5 (.ld 7 (.st 9 3 (.one 10 (.st 11 3 (.one 12 (.st 13 3 (PI.of [14, 15]))))))))))))))), (8, .one 0 (.one 1 (.one 2 (.one 4 (.ld 3 (.st 5 3 (PI.of [6, 7]))))))), (12, .one 0 (.one 1 (.one 2 (.one 4 (.ld 3 (.st 5 3 (PI.of [6, 7]))))))), (14, .one 0 (.one 1 (.one 2 (.one 4 (.one 6 (.one 8 (.ld 3 (.ld 5 (.ld 7 (.st 9 3 (.one 10 (.st 11 3 (.one 12 (.st 13 3 (PI.of [14, 15]))))))))))))))), (16, .one 0 (.one 1 (.one 2 (.one 4 (.ld 3 (.st 5 3 (PI.of [6, 7]))))))), (24, .one 0 (.one 1 (.one 2 (.one 4 (.ld 3 (.st 5 3 (PI.of [6, 7]))))))), (26, .one 0 (.one 1 (.one 2 (.one 4 (.ld 3 (.st 5 3 (PI.of [6, 7]))))))), (28, .one 0 (.one 1 (.one 2 (.one 4 (.ld 3 (.st 5 3 (PI.of [6, 7])))))))]
noncomputable def o164 : List (Nat × PI) := []
noncomputable def o165 : List (Nat × PI) := [(6, PI.of [0, 1, 2, 3, 4, 5, 6, 7, 8])]
noncomputable def o166 : List (Nat × PI) := [(6, PI.of [0, 1, 2, 3, 4, 5, 6, 7, 8])]
noncomputable def o167 : List (Nat × PI) := [(6, PI.of [0, 1, 2, 3, 4, 5, 6, 7, 8])]
noncomputable def o151 : List (Nat × PI) := []
noncomputable def o153 : List (Nat × PI) := []
noncomputable def o173 : List (Nat × PI) := []
noncomputable def o168 : List (Nat × PI) := []
noncomputable def o154 : List (Nat × PI) := []
noncomputable def o127 : List (Nat × PI) := [(1, .one 0 (.one 1 (.one 2 (.one 3 (.one 4 (.one 6 (.two 5 (PI.of [7, 8, 9, 10]) 7 (PI.of [5, 8, 9, 10]))))))))]
noncomputable def o73 : List (Nat × PI) := []
noncomputable def o128 : List (Nat × PI) := []
noncomputable def o74 : List (Nat × PI) := [(1, PI.of [0, 1, 2, 3, 4, 5, 6, 7, 8, 9, 10, 11, 12, 13])]
noncomputable def o28 : List (Nat × PI) := []
noncomputable def o63 : List (Nat × PI) := [(6, PI.of [0, 1, 2, 3, 4, 5, 6, 7, 8])]
noncomputable def o135 : List (Nat × PI) := []
noncomputable def o93 : List (Nat × PI) := [(6, PI.of [0, 1, 2, 3, 4, 5, 6, 7, 8, 9])]
noncomputable def o94 : List (Nat × PI) := [(6, PI.of [0, 1, 2, 3, 4, 5, 6, 7, 8])]
noncomputable def o55 : List (Nat × PI) := [(6, PI.of [0, 1, 2, 3, 4, 5, 6, 7, 8])]
noncomputable def o36 : List (Nat × PI) := []
noncomputable def o29 : List (Nat × PI) := [(6, PI.of [0, 1, 2, 3, 4, 5, 6, 7, 8, 9])]
noncomputable def o23 : List (Nat × PI) := []
noncomputable def o129 : List (Nat × PI) := []
noncomputable def o75 : List (Nat × PI) := [(6, PI.of [0, 1, 2, 3, 4, 5, 6, 7, 8, 9])]
noncomputable def o76 : List (Nat × PI) := [(6, PI.of [0, 1, 2, 3, 4, 5, 6, 7, 8, 9])]
noncomputable def o30 : List (Nat × PI) := []
noncomputable def o79 : List (Nat × PI) := []
noncomputable def o64 : List (Nat × PI) := []
noncomputable def o77 : List (Nat × PI) := []
noncomputable def o78 : List (Nat × PI) := []
noncomputable def o31 : List (Nat × PI) := []
noncomputable def o80 : List (Nat × PI) := []
noncomputable def o81 : List (Nat × PI) := []
noncomputable def o56 : List (Nat × PI) := []
noncomputable def o32 : List (Nat × PI) := []
noncomputable def o82 : List (Nat × PI) := []
noncomputable def o83 : List (Nat × PI) := [(4, PI.of [0, 1, 2, 3, 4, 5, 6, 7])]
noncomputable def o84 : List (Nat × PI) := [(4, PI.of [0, 1, 2, 3, 4, 5, 6])]
noncomputable def o57 : List (Nat × PI) := []
noncomputable def o33 : List (Nat × PI) := [(19, PI.of [0, 1, 2, 3, 4, 5, 6, 7]), (25, PI.of [0, 1, 2, 3, 4, 5, 6, 7]), (40, PI.of [0, 1, 2, 3, 4, 5, 6, 7]), (55, PI.of [0, 1, 2, 3, 4, 5, 6, 7])]
noncomputable def o6 : List (Nat × PI) := [(10, PI.of [0, 1, 2, 3, 4])]
abbrev uu : AV := .sc undef
noncomputable def tzG : Nat → List AV → Tm
 | _, [] => []
 | i, x :: l => (i, x) :: tzG (i + 1) l
noncomputable def tz (l : List AV) : Tm := tzG 0 l
noncomputable def tf : Nat → Nat → (Nat → AV) → Tm
 | 0, _, _ => []
 | n + 1, i, t => (i, t i) :: tf n (i + 1) t
noncomputable def ut : Nat → AV := fun _ => uu
noncomputable def ud : List (Nat × AV) → (Nat → AV) → Nat → AV
 | [], t, i => t i
 | (j, v) :: r, t, i => match Nat.beq j i with
  | true => v
  | false => ud r t i
noncomputable def ti0 (t : Nat) : Option TI := (tis[t]?).getD none
noncomputable def cd : Code → List Nat → Code
 | c, [] => c
 | .seq a b, i :: p => cd (if i = 0 then a else b) p
 | .cond _ a b, i :: p => cd (if i = 1 then a else b) p
 | .block _ a, _ :: p => cd a p
 | .loop a, _ :: p => cd a p
 | c, _ => c
noncomputable def f59 (p : Pr β) (n : Nat) (a0 a1 : AV) (H : Heap) (k : AV → Heap → Option β) : Option β :=
 p.len a0 fun t7 =>
 p.bin .sub a1 t7 fun t8 =>
 p.bin .lss t8 (.sc (.int .i64 0)) fun t10 =>
 p.cond t10
 (k (.sc (.int .i64 (-1))) H)
 (k t8 H)
theorem f59_body (p : Pr β) (n : Nat) (a0 a1 : AV) (H : Heap) (k : AV → Heap → Option β) : evalBody ti0 p n ⟨c59, 12, Go.Proofs.Tryz.f59.results.toList, o59⟩ [a0, a1] H k = f59 p n a0 a1 H k := by kernel_rfl
noncomputable def f19 (p : Pr β) (n : Nat) (a0 a1 : AV) (H : Heap) (k : AV → Heap → Option β) : Option β :=
 p.box a0 H fun t2 H =>
 p.fadr 0 t2 fun t6 =>
 p.load false 1 t6 H fun t7 =>
 p.lenS t7 fun t8 =>
 p.bin .sub a1 t8 fun t9 =>
 p.bin .lss t9 (.sc (.int .i64 0)) fun t11 =>
 p.cond t11
 (k (.sc (.int .i64 (-1))) H)
 (p.fadr 1 t2 fun t12 =>
 p.load false 1 t12 H fun t13 =>
 p.call 3 (.fn 59 [] []) [t13, t9] H fun t15 H =>
 p.bin .lss t15 (.sc (.int .i64 0)) fun t17 =>
 p.cond t17
 (k (.sc (.int .i64 (-1))) H)
 (k t15 H))
theorem f19_body (p : Pr β) (n : Nat) (a0 a1 : AV) (H : Heap) (k : AV → Heap → Option β) : evalBody ti0 p n ⟨c19, 19, Go.Proofs.Tryz.f19.results.toList, o19⟩ [a0, a1] H k = f19 p n a0 a1 H k := by kernel_rfl
noncomputable def f117 (p : Pr β) (n : Nat) (a0 a1 : AV) (H : Heap) (k : AV → Heap → Option β) : Option β :=
 p.box a0 H fun t2 H =>
 p.fadr 1 t2 fun t5 =>
 p.load true 4 t5 H fun t6 =>
 p.call 3 (.fn 19 [] []) [t6, a1] H fun t8 H =>
 p.bin .lss t8 (.sc (.int .i64 0)) fun t10 =>
 p.cond t10
 (k (.sc (.int .i64 (-1))) H)
 (k t8 H)
theorem f117_body (p : Pr β) (n : Nat) (a0 a1 : AV) (H : Heap) (k : AV → Heap → Option β) : evalBody ti0 p n ⟨c117, 12, Go.Proofs.Tryz.f117.results.toList, o117⟩ [a0, a1] H k = f117 p n a0 a1 H k := by kernel_rfl
noncomputable def f65_l0 (p : Pr β) (n : Nat)  (k : AV → Heap → Option β) : Nat → AV → AV → AV → Heap → Option β
 | 0, _, _, _, _ => none
 | m + 1, t0, t1, t5, H => p.len t0 fun t14 =>
   p.bin .lss t5 t14 fun t15 =>
   p.cond t15
   (p.iadr 6 t0 t5 fun t20 =>
   p.load true 6 t20 H fun t21 =>
   p.call 3 (.fn 117 [] []) [t21, t1] H fun t23 H =>
   p.bin .lss t23 (.sc (.int .i64 0)) fun t25 =>
   p.cond t25
   (k (.sc (.int .i64 (-1))) H)
   (p.bin .add t5 (.sc (.int .i64 1)) fun t17 =>
   f65_l0 p n  k m t0 t23 t17 H))
   (k t1 H)
noncomputable def f65 (p : Pr β) (n : Nat) (a0 a1 : AV) (H : Heap) (k : AV → Heap → Option β) : Option β :=
 p.len a0 fun t8 =>
 p.bin .sub a1 t8 fun t9 =>
 p.bin .lss t9 (.sc (.int .i64 0)) fun t11 =>
 p.cond t11
 (k (.sc (.int .i64 (-1))) H)
 (f65_l0 p n  k n a0 t9 (.sc (.int .i64 0)) H)
noncomputable def f65_L0 (p : Pr β) (n : Nat)  (k : AV → Heap → Option β) (m : Nat) (tm : Tm) (H : Heap) : Option β :=
 iterC 27 (fun tm H k => evalCode ti0 p o65 27 n (cd c65 [1, 1, 1, 0, 1, 0, 0]) tm H k) (blkK 0 (seqK (fun tm H => evalCode ti0 p o65 27 n (cd c65 [1, 1, 1, 1]) tm H (endK ti0 p Go.Proofs.Tryz.f65.results.toList k)) (endK ti0 p Go.Proofs.Tryz.f65.results.toList k))) m tm H
theorem f65_L0_step (p : Pr β) (n : Nat)  (k : AV → Heap → Option β) (m0 : Nat) (t : Nat → AV) (H : Heap) : f65_L0 p n  k (m0 + 1) (tf 27 0 t) H =
 p.len (t 0) fun t14 =>
 p.bin .lss (t 5) t14 fun t15 =>
 p.cond t15
 (p.iadr 6 (t 0) (t 5) fun t20 =>
 p.load true 6 t20 H fun t21 =>
 p.call 3 (.fn 117 [] []) [t21, (t 1)] H fun t23 H =>
 p.bin .lss t23 (.sc (.int .i64 0)) fun t25 =>
 p.cond t25
 (k (.sc (.int .i64 (-1))) H)
 (p.bin .add (t 5) (.sc (.int .i64 1)) fun t17 =>
 f65_L0 p n  k m0 (tf 27 0 (ud [(1, t23), (5, t17), (12, (t 5)), (13, (t 0)), (14, t14), (15, t15), (16, (t 5)), (17, t17), (18, (t 0)), (19, (t 5)), (20, t20), (21, t21), (22, (t 1)), (23, t23), (24, t23), (25, t25)] t)) H))
 (k (t 1) H) := by kernel_rfl
theorem f65_l0_eq (p : Pr β) (n : Nat)  (k : AV → Heap → Option β)   (m0 : Nat) : ∀ (t : Nat → AV) (H : Heap), f65_L0 p n  k m0 (tf 27 0 t) H = f65_l0 p n  k m0 (t 0) (t 1) (t 5) H := by
 induction m0 with
 | zero => intros; rfl
 | succ m0 ih =>
  intro t H
  rw [f65_L0_step]
  simp only [ih]
  kernel_rfl
theorem f65_raw (p : Pr β) (n : Nat) (a0 a1 : AV) (H : Heap) (k : AV → Heap → Option β) : evalBody ti0 p n ⟨c65, 27, Go.Proofs.Tryz.f65.results.toList, o65⟩ [a0, a1] H k =
 p.len a0 fun t8 =>
 p.bin .sub a1 t8 fun t9 =>
 p.bin .lss t9 (.sc (.int .i64 0)) fun t11 =>
 p.cond t11
 (k (.sc (.int .i64 (-1))) H)
 (f65_L0 p n  k n (tf 27 0 (ud [(0, a0), (1, t9), (4, (.sc (.int .i64 0))), (5, (.sc (.int .i64 0))), (6, a1), (7, a0), (8, t8), (9, t9), (10, t9), (11, t11)] ut)) H) := by kernel_rfl
theorem f65_body (p : Pr β) (n : Nat) (a0 a1 : AV) (H : Heap) (k : AV → Heap → Option β) : evalBody ti0 p n ⟨c65, 27, Go.Proofs.Tryz.f65.results.toList, o65⟩ [a0, a1] H k = f65 p n a0 a1 H k := by
 rw [f65_raw]
 simp only [f65_l0_eq]
 kernel_rfl
noncomputable def f66_l0 (p : Pr β) (n : Nat)  (k : AV → Heap → Option β) : Nat → AV → AV → AV → Heap → Option β
 | 0, _, _, _, _ => none
 | m + 1, t0, t1, t5, H => p.len t0 fun t14 =>
   p.bin .lss t5 t14 fun t15 =>
   p.cond t15
   (p.iadr 4 t0 t5 fun t20 =>
   p.load true 4 t20 H fun t21 =>
   p.call 3 (.fn 19 [] []) [t21, t1] H fun t23 H =>
   p.bin .lss t23 (.sc (.int .i64 0)) fun t25 =>
   p.cond t25
   (k (.sc (.int .i64 (-1))) H)
   (p.bin .add t5 (.sc (.int .i64 1)) fun t17 =>
   f66_l0 p n  k m t0 t23 t17 H))
   (k t1 H)
noncomputable def f66 (p : Pr β) (n : Nat) (a0 a1 : AV) (H : Heap) (k : AV → Heap → Option β) : Option β :=
 p.len a0 fun t8 =>
 p.bin .sub a1 t8 fun t9 =>
 p.bin .lss t9 (.sc (.int .i64 0)) fun t11 =>
 p.cond t11
 (k (.sc (.int .i64 (-1))) H)
 (f66_l0 p n  k n a0 t9 (.sc (.int .i64 0)) H)
noncomputable def f66_L0 (p : Pr β) (n : Nat)  (k : AV → Heap → Option β) (m : Nat) (tm : Tm) (H : Heap) : Option β :=
 iterC 27 (fun tm H k => evalCode ti0 p o66 27 n (cd c66 [1, 1, 1, 0, 1, 0, 0]) tm H k) (blkK 0 (seqK (fun tm H => evalCode ti0 p o66 27 n (cd c66 [1, 1, 1, 1]) tm H (endK ti0 p Go.Proofs.Tryz.f66.results.toList k)) (endK ti0 p Go.Proofs.Tryz.f66.results.toList k))) m tm H
theorem f66_L0_step (p : Pr β) (n : Nat)  (k : AV → Heap → Option β) (m0 : Nat) (t : Nat → AV) (H : Heap) : f66_L0 p n  k (m0 + 1) (tf 27 0 t) H =
 p.len (t 0) fun t14 =>
 p.bin .lss (t 5) t14 fun t15 =>
 p.cond t15
 (p.iadr 4 (t 0) (t 5) fun t20 =>
 p.load true 4 t20 H fun t21 =>
 p.call 3 (.fn 19 [] []) [t21, (t 1)] H fun t23 H =>
 p.bin .lss t23 (.sc (.int .i64 0)) fun t25 =>
 p.cond t25
 (k (.sc (.int .i64 (-1))) H)
 (p.bin .add (t 5) (.sc (.int .i64 1)) fun t17 =>
 f66_L0 p n  k m0 (tf 27 0 (ud [(1, t23), (5, t17), (12, (t 5)), (13, (t 0)), (14, t14), (15, t15), (16, (t 5)), (17, t17), (18, (t 0)), (19, (t 5)), (20, t20), (21, t21), (22, (t 1)), (23, t23), (24, t23), (25, t25)] t)) H))
 (k (t 1) H) := by kernel_rfl
theorem f66_l0_eq (p : Pr β) (n : Nat)  (k : AV → Heap → Option β)   (m0 : Nat) : ∀ (t : Nat → AV) (H : Heap), f66_L0 p n  k m0 (tf 27 0 t) H = f66_l0 p n  k m0 (t 0) (t 1) (t 5) H := by
 induction m0 with
 | zero => intros; rfl
 | succ m0 ih =>
  intro t H
  rw [f66_L0_step]
  simp only [ih]
  kernel_rfl
theorem f66_raw (p : Pr β) (n : Nat) (a0 a1 : AV) (H : Heap) (k : AV → Heap → Option β) : evalBody ti0 p n ⟨c66, 27, Go.Proofs.Tryz.f66.results.toList, o66⟩ [a0, a1] H k =
 p.len a0 fun t8 =>
 p.bin .sub a1 t8 fun t9 =>
 p.bin .lss t9 (.sc (.int .i64 0)) fun t11 =>
 p.cond t11
 (k (.sc (.int .i64 (-1))) H)
 (f66_L0 p n  k n (tf 27 0 (ud [(0, a0), (1, t9), (4, (.sc (.int .i64 0))), (5, (.sc (.int .i64 0))), (6, a1), (7, a0), (8, t8), (9, t9), (10, t9), (11, t11)] ut)) H) := by kernel_rfl
theorem f66_body (p : Pr β) (n : Nat) (a0 a1 : AV) (H : Heap) (k : AV → Heap → Option β) : evalBody ti0 p n ⟨c66, 27, Go.Proofs.Tryz.f66.results.toList, o66⟩ [a0, a1] H k = f66 p n a0 a1 H k := by
 rw [f66_raw]
 simp only [f66_l0_eq]
 kernel_rfl
noncomputable def f25 (p : Pr β) (n : Nat) (a0 a1 : AV) (H : Heap) (k : AV → Heap → Option β) : Option β :=
 p.box a0 H fun t2 H =>
 p.fadr 1 t2 fun t5 =>
 p.load false 1 t5 H fun t6 =>
 p.call 3 (.fn 65 [] []) [t6, a1] H fun t8 H =>
 p.bin .lss t8 (.sc (.int .i64 0)) fun t10 =>
 p.cond t10
 (k (.sc (.int .i64 (-1))) H)
 (p.fadr 2 t2 fun t11 =>
 p.load false 1 t11 H fun t12 =>
 p.call 3 (.fn 66 [] []) [t12, t8] H fun t14 H =>
 p.bin .lss t14 (.sc (.int .i64 0)) fun t16 =>
 p.cond t16
 (k (.sc (.int .i64 (-1))) H)
 (k t14 H))
theorem f25_body (p : Pr β) (n : Nat) (a0 a1 : AV) (H : Heap) (k : AV → Heap → Option β) : evalBody ti0 p n ⟨c25, 18, Go.Proofs.Tryz.f25.results.toList, o25⟩ [a0, a1] H k = f25 p n a0 a1 H k := by kernel_rfl
noncomputable def f61_l0 (p : Pr β) (n : Nat)  (k : AV → Heap → Option β) : Nat → AV → AV → AV → Heap → Option β
 | 0, _, _, _, _ => none
 | m + 1, t0, t3, t4, H => p.len t0 fun t10 =>
   p.bin .lss t4 t10 fun t11 =>
   p.cond t11
   (p.iadr 1 t0 t4 fun t18 =>
   p.load false 1 t18 H fun t19 =>
   p.iadr 1 t3 t4 fun t20 =>
   p.store 1 t20 t19 H fun H =>
   p.bin .add t4 (.sc (.int .i64 1)) fun t13 =>
   f61_l0 p n  k m t0 t3 t13 H)
   (k t3 H)
noncomputable def f61 (p : Pr β) (n : Nat) (a0 : AV) (H : Heap) (k : AV → Heap → Option β) : Option β :=
 p.len a0 fun t6 =>
 p.make 1 1 [(.sc (.int .u8 0))] t6 t6 H fun t7 H =>
 f61_l0 p n  k n a0 t7 (.sc (.int .i64 0)) H
noncomputable def f61_L0 (p : Pr β) (n : Nat)  (k : AV → Heap → Option β) (m : Nat) (tm : Tm) (H : Heap) : Option β :=
 iterC 22 (fun tm H k => evalCode ti0 p o61 22 n (cd c61 [1, 1, 0, 1, 0, 0]) tm H k) (blkK 0 (seqK (fun tm H => evalCode ti0 p o61 22 n (cd c61 [1, 1, 1]) tm H (endK ti0 p Go.Proofs.Tryz.f61.results.toList k)) (endK ti0 p Go.Proofs.Tryz.f61.results.toList k))) m tm H
theorem f61_L0_step (p : Pr β) (n : Nat)  (k : AV → Heap → Option β) (m0 : Nat) (t : Nat → AV) (H : Heap) : f61_L0 p n  k (m0 + 1) (tf 22 0 t) H =
 p.len (t 0) fun t10 =>
 p.bin .lss (t 4) t10 fun t11 =>
 p.cond t11
 (p.iadr 1 (t 0) (t 4) fun t18 =>
 p.load false 1 t18 H fun t19 =>
 p.iadr 1 (t 3) (t 4) fun t20 =>
 p.store 1 t20 t19 H fun H =>
 p.bin .add (t 4) (.sc (.int .i64 1)) fun t13 =>
 f61_L0 p n  k m0 (tf 22 0 (ud [(4, t13), (8, (t 4)), (9, (t 0)), (10, t10), (11, t11), (12, (t 4)), (13, t13), (14, (t 3)), (15, (t 4)), (16, (t 0)), (17, (t 4)), (18, t18), (19, t19), (20, t20)] t)) H)
 (k (t 3) H) := by kernel_rfl
theorem f61_l0_eq (p : Pr β) (n : Nat)  (k : AV → Heap → Option β)   (m0 : Nat) : ∀ (t : Nat → AV) (H : Heap), f61_L0 p n  k m0 (tf 22 0 t) H = f61_l0 p n  k m0 (t 0) (t 3) (t 4) H := by
 induction m0 with
 | zero => intros; rfl
 | succ m0 ih =>
  intro t H
  rw [f61_L0_step]
  simp only [ih]
  kernel_rfl
theorem f61_raw (p : Pr β) (n : Nat) (a0 : AV) (H : Heap) (k : AV → Heap → Option β) : evalBody ti0 p n ⟨c61, 22, Go.Proofs.Tryz.f61.results.toList, o61⟩ [a0] H k =
 p.len a0 fun t6 =>
 p.make 1 1 [(.sc (.int .u8 0))] t6 t6 H fun t7 H =>
 f61_L0 p n  k n (tf 22 0 (ud [(0, a0), (2, .nl), (3, t7), (4, (.sc (.int .i64 0))), (5, a0), (6, t6), (7, t7)] ut)) H := by kernel_rfl
theorem f61_body (p : Pr β) (n : Nat) (a0 : AV) (H : Heap) (k : AV → Heap → Option β) : evalBody ti0 p n ⟨c61, 22, Go.Proofs.Tryz.f61.results.toList, o61⟩ [a0] H k = f61 p n a0 H k := by
 rw [f61_raw]
 simp only [f61_l0_eq]
 kernel_rfl
noncomputable def f21 (p : Pr β) (n : Nat) (a0 : AV) (H : Heap) (k : AV → Heap → Option β) : Option β :=
 p.box a0 H fun t1 H =>
 p.new [(.sc (.string ⟨#[]⟩)), .nl, (.sc (.int .i64 0)), (.sc (.bool false))] H fun t2 H =>
 p.new [(.sc (.string ⟨#[]⟩)), .nl, (.sc (.int .i64 0)), (.sc (.bool false))] H fun t3 H =>
 p.fadr 0 t1 fun t4 =>
 p.load false 1 t4 H fun t5 =>
 p.fadr 0 t3 fun t6 =>
 p.store 1 t6 t5 H fun H =>
 p.fadr 1 t1 fun t7 =>
 p.load false 1 t7 H fun t8 =>
 p.call 43 (.fn 61 [] []) [t8] H fun t9 H =>
 p.fadr 1 t3 fun t10 =>
 p.store 1 t10 t9 H fun H =>
 p.fadr 2 t1 fun t11 =>
 p.load false 1 t11 H fun t12 =>
 p.fadr 2 t3 fun t13 =>
 p.store 1 t13 t12 H fun H =>
 p.fadr 3 t1 fun t14 =>
 p.load false 1 t14 H fun t15 =>
 p.fadr 3 t3 fun t16 =>
 p.store 1 t16 t15 H fun H =>
 p.load true 4 t3 H fun t17 =>
 p.store 4 t2 t17 H fun H =>
 p.load true 4 t2 H fun r0 =>
 k r0 H
theorem f21_body (p : Pr β) (n : Nat) (a0 : AV) (H : Heap) (k : AV → Heap → Option β) : evalBody ti0 p n ⟨c21, 18, Go.Proofs.Tryz.f21.results.toList, o21⟩ [a0] H k = f21 p n a0 H k := by kernel_rfl
noncomputable def f122 (p : Pr β) (n : Nat) (a0 : AV) (H : Heap) (k : AV → Heap → Option β) : Option β :=
 p.box a0 H fun t1 H =>
 p.new [(.sc (.int .i64 0)), (.sc (.string ⟨#[]⟩)), .nl, (.sc (.int .i64 0)), (.sc (.bool false)), (.sc (.int .i64 0))] H fun t2 H =>
 p.new [(.sc (.int .i64 0)), (.sc (.string ⟨#[]⟩)), .nl, (.sc (.int .i64 0)), (.sc (.bool false)), (.sc (.int .i64 0))] H fun t3 H =>
 p.fadr 0 t1 fun t4 =>
 p.load false 1 t4 H fun t5 =>
 p.fadr 0 t3 fun t6 =>
 p.store 1 t6 t5 H fun H =>
 p.fadr 1 t1 fun t7 =>
 p.load true 4 t7 H fun t8 =>
 p.call 49 (.fn 21 [] []) [t8] H fun t9 H =>
 p.fadr 1 t3 fun t10 =>
 p.store 4 t10 t9 H fun H =>
 p.fadr 5 t1 fun t11 =>
 p.load false 1 t11 H fun t12 =>
 p.fadr 5 t3 fun t13 =>
 p.store 1 t13 t12 H fun H =>
 p.load true 6 t3 H fun t14 =>
 p.store 6 t2 t14 H fun H =>
 p.load true 6 t2 H fun r0 =>
 k r0 H
theorem f122_body (p : Pr β) (n : Nat) (a0 : AV) (H : Heap) (k : AV → Heap → Option β) : evalBody ti0 p n ⟨c122, 15, Go.Proofs.Tryz.f122.results.toList, o122⟩ [a0] H k = f122 p n a0 H k := by kernel_rfl
noncomputable def f70_l0 (p : Pr β) (n : Nat)  (k : AV → Heap → Option β) : Nat → AV → AV → AV → Heap → Option β
 | 0, _, _, _, _ => none
 | m + 1, t0, t3, t4, H => p.len t0 fun t10 =>
   p.bin .lss t4 t10 fun t11 =>
   p.cond t11
   (p.iadr 6 t0 t4 fun t18 =>
   p.load true 6 t18 H fun t19 =>
   p.call 100 (.fn 122 [] []) [t19] H fun t20 H =>
   p.iadr 6 t3 t4 fun t21 =>
   p.store 6 t21 t20 H fun H =>
   p.bin .add t4 (.sc (.int .i64 1)) fun t13 =>
   f70_l0 p n  k m t0 t3 t13 H)
   (k t3 H)
noncomputable def f70 (p : Pr β) (n : Nat) (a0 : AV) (H : Heap) (k : AV → Heap → Option β) : Option β :=
 p.len a0 fun t6 =>
 p.make 6 72 [(.sc (.int .i64 0)), (.sc (.string ⟨#[]⟩)), .nl, (.sc (.int .i64 0)), (.sc (.bool false)), (.sc (.int .i64 0))] t6 t6 H fun t7 H =>
 f70_l0 p n  k n a0 t7 (.sc (.int .i64 0)) H
noncomputable def f70_L0 (p : Pr β) (n : Nat)  (k : AV → Heap → Option β) (m : Nat) (tm : Tm) (H : Heap) : Option β :=
 iterC 23 (fun tm H k => evalCode ti0 p o70 23 n (cd c70 [1, 1, 0, 1, 0, 0]) tm H k) (blkK 0 (seqK (fun tm H => evalCode ti0 p o70 23 n (cd c70 [1, 1, 1]) tm H (endK ti0 p Go.Proofs.Tryz.f70.results.toList k)) (endK ti0 p Go.Proofs.Tryz.f70.results.toList k))) m tm H
theorem f70_L0_step (p : Pr β) (n : Nat)  (k : AV → Heap → Option β) (m0 : Nat) (t : Nat → AV) (H : Heap) : f70_L0 p n  k (m0 + 1) (tf 23 0 t) H =
 p.len (t 0) fun t10 =>
 p.bin .lss (t 4) t10 fun t11 =>
 p.cond t11
 (p.iadr 6 (t 0) (t 4) fun t18 =>
 p.load true 6 t18 H fun t19 =>
 p.call 100 (.fn 122 [] []) [t19] H fun t20 H =>
 p.iadr 6 (t 3) (t 4) fun t21 =>
 p.store 6 t21 t20 H fun H =>
 p.bin .add (t 4) (.sc (.int .i64 1)) fun t13 =>
 f70_L0 p n  k m0 (tf 23 0 (ud [(4, t13), (8, (t 4)), (9, (t 0)), (10, t10), (11, t11), (12, (t 4)), (13, t13), (14, (t 3)), (15, (t 4)), (16, (t 0)), (17, (t 4)), (18, t18), (19, t19), (20, t20), (21, t21)] t)) H)
 (k (t 3) H) := by kernel_rfl
theorem f70_l0_eq (p : Pr β) (n : Nat)  (k : AV → Heap → Option β)   (m0 : Nat) : ∀ (t : Nat → AV) (H : Heap), f70_L0 p n  k m0 (tf 23 0 t) H = f70_l0 p n  k m0 (t 0) (t 3) (t 4) H := by
 induction m0 with
 | zero => intros; rfl
 | succ m0 ih =>
  intro t H
  rw [f70_L0_step]
  simp only [ih]
  kernel_rfl
theorem f70_raw (p : Pr β) (n : Nat) (a0 : AV) (H : Heap) (k : AV → Heap → Option β) : evalBody ti0 p n ⟨c70, 23, Go.Proofs.Tryz.f70.results.toList, o70⟩ [a0] H k =
 p.len a0 fun t6 =>
 p.make 6 72 [(.sc (.int .i64 0)), (.sc (.string ⟨#[]⟩)), .nl, (.sc (.int .i64 0)), (.sc (.bool false)), (.sc (.int .i64 0))] t6 t6 H fun t7 H =>
 f70_L0 p n  k n (tf 23 0 (ud [(0, a0), (2, .nl), (3, t7), (4, (.sc (.int .i64 0))), (5, a0), (6, t6), (7, t7)] ut)) H := by kernel_rfl
theorem f70_body (p : Pr β) (n : Nat) (a0 : AV) (H : Heap) (k : AV → Heap → Option β) : evalBody ti0 p n ⟨c70, 23, Go.Proofs.Tryz.f70.results.toList, o70⟩ [a0] H k = f70 p n a0 H k := by
 rw [f70_raw]
 simp only [f70_l0_eq]
 kernel_rfl
noncomputable def f71_l0 (p : Pr β) (n : Nat)  (k : AV → Heap → Option β) : Nat → AV → AV → AV → Heap → Option β
 | 0, _, _, _, _ => none
 | m + 1, t0, t3, t4, H => p.len t0 fun t10 =>
   p.bin .lss t4 t10 fun t11 =>
   p.cond t11
   (p.iadr 4 t0 t4 fun t18 =>
   p.load true 4 t18 H fun t19 =>
   p.call 49 (.fn 21 [] []) [t19] H fun t20 H =>
   p.iadr 4 t3 t4 fun t21 =>
   p.store 4 t21 t20 H fun H =>
   p.bin .add t4 (.sc (.int .i64 1)) fun t13 =>
   f71_l0 p n  k m t0 t3 t13 H)
   (k t3 H)
noncomputable def f71 (p : Pr β) (n : Nat) (a0 : AV) (H : Heap) (k : AV → Heap → Option β) : Option β :=
 p.len a0 fun t6 =>
 p.make 4 56 [(.sc (.string ⟨#[]⟩)), .nl, (.sc (.int .i64 0)), (.sc (.bool false))] t6 t6 H fun t7 H =>
 f71_l0 p n  k n a0 t7 (.sc (.int .i64 0)) H
noncomputable def f71_L0 (p : Pr β) (n : Nat)  (k : AV → Heap → Option β) (m : Nat) (tm : Tm) (H : Heap) : Option β :=
 iterC 23 (fun tm H k => evalCode ti0 p o71 23 n (cd c71 [1, 1, 0, 1, 0, 0]) tm H k) (blkK 0 (seqK (fun tm H => evalCode ti0 p o71 23 n (cd c71 [1, 1, 1]) tm H (endK ti0 p Go.Proofs.Tryz.f71.results.toList k)) (endK ti0 p Go.Proofs.Tryz.f71.results.toList k))) m tm H
theorem f71_L0_step (p : Pr β) (n : Nat)  (k : AV → Heap → Option β) (m0 : Nat) (t : Nat → AV) (H : Heap) : f71_L0 p n  k (m0 + 1) (tf 23 0 t) H =
 p.len (t 0) fun t10 =>
 p.bin .lss (t 4) t10 fun t11 =>
 p.cond t11
 (p.iadr 4 (t 0) (t 4) fun t18 =>
 p.load true 4 t18 H fun t19 =>
 p.call 49 (.fn 21 [] []) [t19] H fun t20 H =>
 p.iadr 4 (t 3) (t 4) fun t21 =>
 p.store 4 t21 t20 H fun H =>
 p.bin .add (t 4) (.sc (.int .i64 1)) fun t13 =>
 f71_L0 p n  k m0 (tf 23 0 (ud [(4, t13), (8, (t 4)), (9, (t 0)), (10, t10), (11, t11), (12, (t 4)), (13, t13), (14, (t 3)), (15, (t 4)), (16, (t 0)), (17, (t 4)), (18, t18), (19, t19), (20, t20), (21, t21)] t)) H)
 (k (t 3) H) := by kernel_rfl
theorem f71_l0_eq (p : Pr β) (n : Nat)  (k : AV → Heap → Option β)   (m0 : Nat) : ∀ (t : Nat → AV) (H : Heap), f71_L0 p n  k m0 (tf 23 0 t) H = f71_l0 p n  k m0 (t 0) (t 3) (t 4) H := by
 induction m0 with
 | zero => intros; rfl
 | succ m0 ih =>
  intro t H
  rw [f71_L0_step]
  simp only [ih]
  kernel_rfl
theorem f71_raw (p : Pr β) (n : Nat) (a0 : AV) (H : Heap) (k : AV → Heap → Option β) : evalBody ti0 p n ⟨c71, 23, Go.Proofs.Tryz.f71.results.toList, o71⟩ [a0] H k =
 p.len a0 fun t6 =>
 p.make 4 56 [(.sc (.string ⟨#[]⟩)), .nl, (.sc (.int .i64 0)), (.sc (.bool false))] t6 t6 H fun t7 H =>
 f71_L0 p n  k n (tf 23 0 (ud [(0, a0), (2, .nl), (3, t7), (4, (.sc (.int .i64 0))), (5, a0), (6, t6), (7, t7)] ut)) H := by kernel_rfl
theorem f71_body (p : Pr β) (n : Nat) (a0 : AV) (H : Heap) (k : AV → Heap → Option β) : evalBody ti0 p n ⟨c71, 23, Go.Proofs.Tryz.f71.results.toList, o71⟩ [a0] H k = f71 p n a0 H k := by
 rw [f71_raw]
 simp only [f71_l0_eq]
 kernel_rfl
noncomputable def f27 (p : Pr β) (n : Nat) (a0 : AV) (H : Heap) (k : AV → Heap → Option β) : Option β :=
 p.box a0 H fun t1 H =>
 p.new [(.sc (.int .i64 0)), .nl, .nl] H fun t2 H =>
 p.new [(.sc (.int .i64 0)), .nl, .nl] H fun t3 H =>
 p.fadr 0 t1 fun t4 =>
 p.load false 1 t4 H fun t5 =>
 p.fadr 0 t3 fun t6 =>
 p.store 1 t6 t5 H fun H =>
 p.fadr 1 t1 fun t7 =>
 p.load false 1 t7 H fun t8 =>
 p.call 30 (.fn 70 [] []) [t8] H fun t9 H =>
 p.fadr 1 t3 fun t10 =>
 p.store 1 t10 t9 H fun H =>
 p.fadr 2 t1 fun t11 =>
 p.load false 1 t11 H fun t12 =>
 p.call 31 (.fn 71 [] []) [t12] H fun t13 H =>
 p.fadr 2 t3 fun t14 =>
 p.store 1 t14 t13 H fun H =>
 p.load true 3 t3 H fun t15 =>
 p.store 3 t2 t15 H fun H =>
 p.load true 3 t2 H fun r0 =>
 k r0 H
theorem f27_body (p : Pr β) (n : Nat) (a0 : AV) (H : Heap) (k : AV → Heap → Option β) : evalBody ti0 p n ⟨c27, 16, Go.Proofs.Tryz.f27.results.toList, o27⟩ [a0] H k = f27 p n a0 H k := by kernel_rfl
noncomputable def f109 (p : Pr β) (n : Nat) (a0 a1 a2 : AV) (H : Heap) (k : AV → Heap → Option β) : Option β :=
 p.bin .geq a0 a1 fun t9 =>
 p.guard t9 true H (fun k' => k' a0 H) fun t11 H =>
 p.guard t9 true H (fun k' => k' a2 H) fun t12 H =>
 p.guard t9 true H (fun k' => p.bin .leq t11 t12 fun t' => k' t' H) fun t13 H =>
 p.pick t9 t13 (.sc (.bool false)) fun t14 =>
 k t14 H
theorem f109_body (p : Pr β) (n : Nat) (a0 a1 a2 : AV) (H : Heap) (k : AV → Heap → Option β) : evalBody ti0 p n ⟨c109, 15, Go.Proofs.Tryz.f109.results.toList, o109⟩ [a0, a1, a2] H k = f109 p n a0 a1 a2 H k := by kernel_rfl
noncomputable def f157_l0 (p : Pr β) (n : Nat)  (k : AV → Heap → Option β) : Nat → AV → AV → AV → AV → AV → AV → Heap → Option β
 | 0, _, _, _, _, _, _, _ => none
 | m + 1, t0, t1, t8, t9, t10, t11, H => p.bin .leq t11 t8 fun t67 =>
   p.cond t67
   (p.bin .add t1 t11 fun t73 =>
   p.iadr 1 t0 t73 fun t74 =>
   p.load false 1 t74 H fun t75 =>
   p.cvI .i64 t75 fun t76 =>
   p.bin .lss t76 (.sc (.int .i64 128)) fun t78 =>
   p.guard t78 false H (fun k' => k' t76 H) fun t80 H =>
   p.guard t78 false H (fun k' => p.bin .gtr t80 (.sc (.int .i64 191)) fun t' => k' t' H) fun t81 H =>
   p.pick t78 (.sc (.bool true)) t81 fun t82 =>
   p.cond t82
   (k (packA [(.sc (.int .i64 0)), (.sc (.int .i64 0)), (.sc (.bool false))]) H)
   (p.bin .mul t10 (.sc (.int .i64 64)) fun t84 =>
   p.bin .add t84 t76 fun t86 =>
   p.bin .sub t86 (.sc (.int .i64 128)) fun t87 =>
   p.bin .add t11 (.sc (.int .i64 1)) fun t69 =>
   f157_l0 p n  k m t0 t1 t8 t9 t87 t69 H))
   (p.bin .lss t10 t9 fun t90 =>
   p.guard t90 false H (fun k' => k' t10 H) fun t92 H =>
   p.guard t90 false H (fun k' => p.bin .gtr t92 (.sc (.int .i64 1114111)) fun t' => k' t' H) fun t93 H =>
   p.pick t90 (.sc (.bool true)) t93 fun t94 =>
   p.guard t94 false H (fun k' => k' t10 H) fun t96 H =>
   p.guard t94 false H (fun k' => p.call 4 (.fn 109 [] []) [t96, (.sc (.int .i64 55296)), (.sc (.int .i64 57343))] H fun t' H => k' t' H) fun t97 H =>
   p.pick t94 (.sc (.bool true)) t97 fun t98 =>
   p.cond t98
   (k (packA [(.sc (.int .i64 0)), (.sc (.int .i64 0)), (.sc (.bool false))]) H)
   (p.bin .add t1 (.sc (.int .i64 1)) fun t101 =>
   p.bin .add t101 t8 fun t103 =>
   k (packA [t10, t103, (.sc (.bool true))]) H))
noncomputable def f157 (p : Pr β) (n : Nat) (a0 a1 : AV) (H : Heap) (k : AV → Heap → Option β) : Option β :=
 p.bin .lss a1 (.sc (.int .i64 0)) fun t14 =>
 p.guard t14 false H (fun k' => k' a1 H) fun t16 H =>
 p.guard t14 false H (fun k' => k' a0 H) fun t17 H =>
 p.guard t14 false H (fun k' => p.len t17 fun t' => k' t' H) fun t18 H =>
 p.guard t14 false H (fun k' => p.bin .geq t16 t18 fun t' => k' t' H) fun t19 H =>
 p.pick t14 (.sc (.bool true)) t19 fun t20 =>
 p.cond t20
 (k (packA [(.sc (.int .i64 0)), (.sc (.int .i64 0)), (.sc (.bool false))]) H)
 (p.iadr 1 a0 a1 fun t23 =>
 p.load false 1 t23 H fun t24 =>
 p.cvI .i64 t24 fun t25 =>
 p.bin .lss t25 (.sc (.int .i64 128)) fun t27 =>
 p.cond t27
 (p.bin .add a1 (.sc (.int .i64 1)) fun t30 =>
 k (packA [t25, t30, (.sc (.bool true))]) H)
 (p.bin .geq t25 (.sc (.int .i64 192)) fun t33 =>
 p.guard t33 true H (fun k' => k' t25 H) fun t35 H =>
 p.guard t33 true H (fun k' => p.bin .lss t35 (.sc (.int .i64 224)) fun t' => k' t' H) fun t36 H =>
 p.pick t33 t36 (.sc (.bool false)) fun t37 =>
 p.cond t37
 (p.bin .and t25 (.sc (.int .i64 31)) fun t39 =>
 p.len a0 fun t60 =>
 p.bin .sub t60 (.sc (.int .i64 1)) fun t61 =>
 p.bin .sub t61 (.sc (.int .i64 1)) fun t63 =>
 p.bin .gtr a1 t63 fun t64 =>
 p.cond t64
 (k (packA [(.sc (.int .i64 0)), (.sc (.int .i64 0)), (.sc (.bool false))]) H)
 (f157_l0 p n  k n a0 a1 (.sc (.int .i64 1)) (.sc (.int .i64 128)) t39 (.sc (.int .i64 1)) H))
 (p.bin .geq t25 (.sc (.int .i64 224)) fun t42 =>
 p.guard t42 true H (fun k' => k' t25 H) fun t44 H =>
 p.guard t42 true H (fun k' => p.bin .lss t44 (.sc (.int .i64 240)) fun t' => k' t' H) fun t45 H =>
 p.pick t42 t45 (.sc (.bool false)) fun t46 =>
 p.cond t46
 (p.bin .and t25 (.sc (.int .i64 15)) fun t48 =>
 p.len a0 fun t60 =>
 p.bin .sub t60 (.sc (.int .i64 1)) fun t61 =>
 p.bin .sub t61 (.sc (.int .i64 2)) fun t63 =>
 p.bin .gtr a1 t63 fun t64 =>
 p.cond t64
 (k (packA [(.sc (.int .i64 0)), (.sc (.int .i64 0)), (.sc (.bool false))]) H)
 (f157_l0 p n  k n a0 a1 (.sc (.int .i64 2)) (.sc (.int .i64 2048)) t48 (.sc (.int .i64 1)) H))
 (p.bin .geq t25 (.sc (.int .i64 240)) fun t51 =>
 p.guard t51 true H (fun k' => k' t25 H) fun t53 H =>
 p.guard t51 true H (fun k' => p.bin .lss t53 (.sc (.int .i64 248)) fun t' => k' t' H) fun t54 H =>
 p.pick t51 t54 (.sc (.bool false)) fun t55 =>
 p.cond t55
 (p.bin .and t25 (.sc (.int .i64 7)) fun t57 =>
 p.len a0 fun t60 =>
 p.bin .sub t60 (.sc (.int .i64 1)) fun t61 =>
 p.bin .sub t61 (.sc (.int .i64 3)) fun t63 =>
 p.bin .gtr a1 t63 fun t64 =>
 p.cond t64
 (k (packA [(.sc (.int .i64 0)), (.sc (.int .i64 0)), (.sc (.bool false))]) H)
 (f157_l0 p n  k n a0 a1 (.sc (.int .i64 3)) (.sc (.int .i64 65536)) t57 (.sc (.int .i64 1)) H))
 (k (packA [(.sc (.int .i64 0)), (.sc (.int .i64 0)), (.sc (.bool false))]) H)))))
noncomputable def f157_L0 (p : Pr β) (n : Nat)  (k : AV → Heap → Option β) (m : Nat) (tm : Tm) (H : Heap) : Option β :=
 iterC 104 (fun tm H k => evalCode ti0 p o157 104 n (cd c157 [1, 1, 1, 1, 1, 1, 1, 1, 1, 0, 1, 0, 0]) tm H k) (blkK 1 (seqK (fun tm H => evalCode ti0 p o157 104 n (cd c157 [1, 1, 1, 1, 1, 1, 1, 1, 1, 1]) tm H (endK ti0 p Go.Proofs.Tryz.f157.results.toList k)) (endK ti0 p Go.Proofs.Tryz.f157.results.toList k))) m tm H
theorem f157_L0_step (p : Pr β) (n : Nat)  (k : AV → Heap → Option β) (m0 : Nat) (t : Nat → AV) (H : Heap) : f157_L0 p n  k (m0 + 1) (tf 104 0 t) H =
 p.bin .leq (t 11) (t 8) fun t67 =>
 p.cond t67
 (p.bin .add (t 1) (t 11) fun t73 =>
 p.iadr 1 (t 0) t73 fun t74 =>
 p.load false 1 t74 H fun t75 =>
 p.cvI .i64 t75 fun t76 =>
 p.bin .lss t76 (.sc (.int .i64 128)) fun t78 =>
 p.guard t78 false H (fun k' => k' t76 H) fun t80 H =>
 p.guard t78 false H (fun k' => p.bin .gtr t80 (.sc (.int .i64 191)) fun t' => k' t' H) fun t81 H =>
 p.pick t78 (.sc (.bool true)) t81 fun t82 =>
 p.cond t82
 (k (packA [(.sc (.int .i64 0)), (.sc (.int .i64 0)), (.sc (.bool false))]) H)
 (p.bin .mul (t 10) (.sc (.int .i64 64)) fun t84 =>
 p.bin .add t84 t76 fun t86 =>
 p.bin .sub t86 (.sc (.int .i64 128)) fun t87 =>
 p.bin .add (t 11) (.sc (.int .i64 1)) fun t69 =>
 f157_L0 p n  k m0 (tf 104 0 (ud [(10, t87), (11, t69), (12, t76), (65, (t 11)), (66, (t 8)), (67, t67), (68, (t 11)), (69, t69), (70, (t 0)), (71, (t 1)), (72, (t 11)), (73, t73), (74, t74), (75, t75), (76, t76), (77, t76), (78, t78), (79, t78), (80, t80), (81, t81), (82, t82), (83, (t 10)), (84, t84), (85, t76), (86, t86), (87, t87)] t)) H))
 (p.bin .lss (t 10) (t 9) fun t90 =>
 p.guard t90 false H (fun k' => k' (t 10) H) fun t92 H =>
 p.guard t90 false H (fun k' => p.bin .gtr t92 (.sc (.int .i64 1114111)) fun t' => k' t' H) fun t93 H =>
 p.pick t90 (.sc (.bool true)) t93 fun t94 =>
 p.guard t94 false H (fun k' => k' (t 10) H) fun t96 H =>
 p.guard t94 false H (fun k' => p.call 4 (.fn 109 [] []) [t96, (.sc (.int .i64 55296)), (.sc (.int .i64 57343))] H fun t' H => k' t' H) fun t97 H =>
 p.pick t94 (.sc (.bool true)) t97 fun t98 =>
 p.cond t98
 (k (packA [(.sc (.int .i64 0)), (.sc (.int .i64 0)), (.sc (.bool false))]) H)
 (p.bin .add (t 1) (.sc (.int .i64 1)) fun t101 =>
 p.bin .add t101 (t 8) fun t103 =>
 k (packA [(t 10), t103, (.sc (.bool true))]) H)) := by kernel_rfl
theorem f157_l0_eq (p : Pr β) (n : Nat)  (k : AV → Heap → Option β)   (m0 : Nat) : ∀ (t : Nat → AV) (H : Heap), f157_L0 p n  k m0 (tf 104 0 t) H = f157_l0 p n  k m0 (t 0) (t 1) (t 8) (t 9) (t 10) (t 11) H := by
 induction m0 with
 | zero => intros; rfl
 | succ m0 ih =>
  intro t H
  rw [f157_L0_step]
  simp only [ih]
  kernel_rfl
theorem f157_raw (p : Pr β) (n : Nat) (a0 a1 : AV) (H : Heap) (k : AV → Heap → Option β) : evalBody ti0 p n ⟨c157, 104, Go.Proofs.Tryz.f157.results.toList, o157⟩ [a0, a1] H k =
 p.bin .lss a1 (.sc (.int .i64 0)) fun t14 =>
 p.guard t14 false H (fun k' => k' a1 H) fun t16 H =>
 p.guard t14 false H (fun k' => k' a0 H) fun t17 H =>
 p.guard t14 false H (fun k' => p.len t17 fun t' => k' t' H) fun t18 H =>
 p.guard t14 false H (fun k' => p.bin .geq t16 t18 fun t' => k' t' H) fun t19 H =>
 p.pick t14 (.sc (.bool true)) t19 fun t20 =>
 p.cond t20
 (k (packA [(.sc (.int .i64 0)), (.sc (.int .i64 0)), (.sc (.bool false))]) H)
 (p.iadr 1 a0 a1 fun t23 =>
 p.load false 1 t23 H fun t24 =>
 p.cvI .i64 t24 fun t25 =>
 p.bin .lss t25 (.sc (.int .i64 128)) fun t27 =>
 p.cond t27
 (p.bin .add a1 (.sc (.int .i64 1)) fun t30 =>
 k (packA [t25, t30, (.sc (.bool true))]) H)
 (p.bin .geq t25 (.sc (.int .i64 192)) fun t33 =>
 p.guard t33 true H (fun k' => k' t25 H) fun t35 H =>
 p.guard t33 true H (fun k' => p.bin .lss t35 (.sc (.int .i64 224)) fun t' => k' t' H) fun t36 H =>
 p.pick t33 t36 (.sc (.bool false)) fun t37 =>
 p.cond t37
 (p.bin .and t25 (.sc (.int .i64 31)) fun t39 =>
 p.len a0 fun t60 =>
 p.bin .sub t60 (.sc (.int .i64 1)) fun t61 =>
 p.bin .sub t61 (.sc (.int .i64 1)) fun t63 =>
 p.bin .gtr a1 t63 fun t64 =>
 p.cond t64
 (k (packA [(.sc (.int .i64 0)), (.sc (.int .i64 0)), (.sc (.bool false))]) H)
 (f157_L0 p n  k n (tf 104 0 (ud [(0, a0), (1, a1), (4, (.sc (.int .i64 0))), (5, (.sc (.int .i64 0))), (6, (.sc (.bool false))), (7, t25), (8, (.sc (.int .i64 1))), (9, (.sc (.int .i64 128))), (10, t39), (11, (.sc (.int .i64 1))), (13, a1), (14, t14), (15, t14), (16, t16), (17, t17), (18, t18), (19, t19), (20, t20), (21, a0), (22, a1), (23, t23), (24, t24), (25, t25), (26, t25), (27, t27), (31, t37), (32, t25), (33, t33), (34, t33), (35, t35), (36, t36), (37, t37), (38, t25), (39, t39), (58, a1), (59, a0), (60, t60), (61, t61), (62, (.sc (.int .i64 1))), (63, t63), (64, t64)] ut)) H))
 (p.bin .geq t25 (.sc (.int .i64 224)) fun t42 =>
 p.guard t42 true H (fun k' => k' t25 H) fun t44 H =>
 p.guard t42 true H (fun k' => p.bin .lss t44 (.sc (.int .i64 240)) fun t' => k' t' H) fun t45 H =>
 p.pick t42 t45 (.sc (.bool false)) fun t46 =>
 p.cond t46
 (p.bin .and t25 (.sc (.int .i64 15)) fun t48 =>
 p.len a0 fun t60 =>
 p.bin .sub t60 (.sc (.int .i64 1)) fun t61 =>
 p.bin .sub t61 (.sc (.int .i64 2)) fun t63 =>
 p.bin .gtr a1 t63 fun t64 =>
 p.cond t64
 (k (packA [(.sc (.int .i64 0)), (.sc (.int .i64 0)), (.sc (.bool false))]) H)
 (f157_L0 p n  k n (tf 104 0 (ud [(0, a0), (1, a1), (4, (.sc (.int .i64 0))), (5, (.sc (.int .i64 0))), (6, (.sc (.bool false))), (7, t25), (8, (.sc (.int .i64 2))), (9, (.sc (.int .i64 2048))), (10, t48), (11, (.sc (.int .i64 1))), (13, a1), (14, t14), (15, t14), (16, t16), (17, t17), (18, t18), (19, t19), (20, t20), (21, a0), (22, a1), (23, t23), (24, t24), (25, t25), (26, t25), (27, t27), (31, t37), (32, t25), (33, t33), (34, t33), (35, t35), (36, t36), (37, t37), (40, t46), (41, t25), (42, t42), (43, t42), (44, t44), (45, t45), (46, t46), (47, t25), (48, t48), (58, a1), (59, a0), (60, t60), (61, t61), (62, (.sc (.int .i64 2))), (63, t63), (64, t64)] ut)) H))
 (p.bin .geq t25 (.sc (.int .i64 240)) fun t51 =>
 p.guard t51 true H (fun k' => k' t25 H) fun t53 H =>
 p.guard t51 true H (fun k' => p.bin .lss t53 (.sc (.int .i64 248)) fun t' => k' t' H) fun t54 H =>
 p.pick t51 t54 (.sc (.bool false)) fun t55 =>
 p.cond t55
 (p.bin .and t25 (.sc (.int .i64 7)) fun t57 =>
 p.len a0 fun t60 =>
 p.bin .sub t60 (.sc (.int .i64 1)) fun t61 =>
 p.bin .sub t61 (.sc (.int .i64 3)) fun t63 =>
 p.bin .gtr a1 t63 fun t64 =>
 p.cond t64
 (k (packA [(.sc (.int .i64 0)), (.sc (.int .i64 0)), (.sc (.bool false))]) H)
 (f157_L0 p n  k n (tf 104 0 (ud [(0, a0), (1, a1), (4, (.sc (.int .i64 0))), (5, (.sc (.int .i64 0))), (6, (.sc (.bool false))), (7, t25), (8, (.sc (.int .i64 3))), (9, (.sc (.int .i64 65536))), (10, t57), (11, (.sc (.int .i64 1))), (13, a1), (14, t14), (15, t14), (16, t16), (17, t17), (18, t18), (19, t19), (20, t20), (21, a0), (22, a1), (23, t23), (24, t24), (25, t25), (26, t25), (27, t27), (31, t37), (32, t25), (33, t33), (34, t33), (35, t35), (36, t36), (37, t37), (40, t46), (41, t25), (42, t42), (43, t42), (44, t44), (45, t45), (46, t46), (49, t55), (50, t25), (51, t51), (52, t51), (53, t53), (54, t54), (55, t55), (56, t25), (57, t57), (58, a1), (59, a0), (60, t60), (61, t61), (62, (.sc (.int .i64 3))), (63, t63), (64, t64)] ut)) H))
 (k (packA [(.sc (.int .i64 0)), (.sc (.int .i64 0)), (.sc (.bool false))]) H))))) := by kernel_rfl
theorem f157_body (p : Pr β) (n : Nat) (a0 a1 : AV) (H : Heap) (k : AV → Heap → Option β) : evalBody ti0 p n ⟨c157, 104, Go.Proofs.Tryz.f157.results.toList, o157⟩ [a0, a1] H k = f157 p n a0 a1 H k := by
 rw [f157_raw]
 simp only [f157_l0_eq]
 kernel_rfl
noncomputable def f142_l0 (p : Pr β) (n : Nat)  (k : AV → Heap → Option β) : Nat → AV → AV → AV → Heap → Option β
 | 0, _, _, _, _ => none
 | m + 1, t3, t4, t5, H => p.len t3 fun t16 =>
   p.bin .lss t5 t16 fun t17 =>
   p.cond t17
   (p.call 157 (.fn 157 [] []) [t3, t5] H fun t21 H =>
   p.extr t21 0 fun t22 =>
   p.extr t21 1 fun t23 =>
   p.extr t21 2 fun t24 =>
   p.un .not t24 fun t26 =>
   p.guard t26 false H (fun k' => k' t22 H) fun t28 H =>
   p.guard t26 false H (fun k' => p.bin .eql t28 (.sc (.int .i64 0)) fun t' => k' t' H) fun t29 H =>
   p.pick t26 (.sc (.bool true)) t29 fun t30 =>
   p.cond t30
   (k (.sc (.int .i64 (-1))) H)
   (p.bin .add t4 (.sc (.int .i64 1)) fun t33 =>
   f142_l0 p n  k m t3 t33 t23 H))
   (k t4 H)
noncomputable def f142 (p : Pr β) (n : Nat) (a0 : AV) (H : Heap) (k : AV → Heap → Option β) : Option β :=
 p.lenS a0 fun t10 =>
 p.bin .gtr t10 (.sc (.int .i64 60)) fun t11 =>
 p.cond t11
 (k (.sc (.int .i64 (-1))) H)
 (p.cvSB a0 H fun t13 H =>
 f142_l0 p n  k n t13 (.sc (.int .i64 0)) (.sc (.int .i64 0)) H)
noncomputable def f142_L0 (p : Pr β) (n : Nat)  (k : AV → Heap → Option β) (m : Nat) (tm : Tm) (H : Heap) : Option β :=
 iterC 35 (fun tm H k => evalCode ti0 p o142 35 n (cd c142 [1, 1, 1, 1, 0, 1, 0, 0]) tm H k) (blkK 0 (seqK (fun tm H => evalCode ti0 p o142 35 n (cd c142 [1, 1, 1, 1, 1]) tm H (endK ti0 p Go.Proofs.Tryz.f142.results.toList k)) (endK ti0 p Go.Proofs.Tryz.f142.results.toList k))) m tm H
theorem f142_L0_step (p : Pr β) (n : Nat)  (k : AV → Heap → Option β) (m0 : Nat) (t : Nat → AV) (H : Heap) : f142_L0 p n  k (m0 + 1) (tf 35 0 t) H =
 p.len (t 3) fun t16 =>
 p.bin .lss (t 5) t16 fun t17 =>
 p.cond t17
 (p.call 157 (.fn 157 [] []) [(t 3), (t 5)] H fun t21 H =>
 p.extr t21 0 fun t22 =>
 p.extr t21 1 fun t23 =>
 p.extr t21 2 fun t24 =>
 p.un .not t24 fun t26 =>
 p.guard t26 false H (fun k' => k' t22 H) fun t28 H =>
 p.guard t26 false H (fun k' => p.bin .eql t28 (.sc (.int .i64 0)) fun t' => k' t' H) fun t29 H =>
 p.pick t26 (.sc (.bool true)) t29 fun t30 =>
 p.cond t30
 (k (.sc (.int .i64 (-1))) H)
 (p.bin .add (t 4) (.sc (.int .i64 1)) fun t33 =>
 f142_L0 p n  k m0 (tf 35 0 (ud [(4, t33), (5, t23), (6, t22), (7, t23), (8, t24), (14, (t 5)), (15, (t 3)), (16, t16), (17, t17), (18, t21), (19, (t 3)), (20, (t 5)), (21, t21), (22, t22), (23, t23), (24, t24), (25, t24), (26, t26), (27, t26), (28, t28), (29, t29), (30, t30), (31, t23), (32, (t 4)), (33, t33)] t)) H))
 (k (t 4) H) := by kernel_rfl
theorem f142_l0_eq (p : Pr β) (n : Nat)  (k : AV → Heap → Option β)   (m0 : Nat) : ∀ (t : Nat → AV) (H : Heap), f142_L0 p n  k m0 (tf 35 0 t) H = f142_l0 p n  k m0 (t 3) (t 4) (t 5) H := by
 induction m0 with
 | zero => intros; rfl
 | succ m0 ih =>
  intro t H
  rw [f142_L0_step]
  simp only [ih]
  kernel_rfl
theorem f142_raw (p : Pr β) (n : Nat) (a0 : AV) (H : Heap) (k : AV → Heap → Option β) : evalBody ti0 p n ⟨c142, 35, Go.Proofs.Tryz.f142.results.toList, o142⟩ [a0] H k =
 p.lenS a0 fun t10 =>
 p.bin .gtr t10 (.sc (.int .i64 60)) fun t11 =>
 p.cond t11
 (k (.sc (.int .i64 (-1))) H)
 (p.cvSB a0 H fun t13 H =>
 f142_L0 p n  k n (tf 35 0 (ud [(0, a0), (2, (.sc (.int .i64 0))), (3, t13), (4, (.sc (.int .i64 0))), (5, (.sc (.int .i64 0))), (9, a0), (10, t10), (11, t11), (12, a0), (13, t13)] ut)) H) := by kernel_rfl
theorem f142_body (p : Pr β) (n : Nat) (a0 : AV) (H : Heap) (k : AV → Heap → Option β) : evalBody ti0 p n ⟨c142, 35, Go.Proofs.Tryz.f142.results.toList, o142⟩ [a0] H k = f142 p n a0 H k := by
 rw [f142_raw]
 simp only [f142_l0_eq]
 kernel_rfl
noncomputable def f108 (p : Pr β) (n : Nat) (a0 : AV) (H : Heap) (k : AV → Heap → Option β) : Option β :=
 p.call 3 (.fn 142 [] []) [a0] H fun t4 H =>
 p.bin .geq t4 (.sc (.int .i64 0)) fun t5 =>
 k t5 H
theorem f108_body (p : Pr β) (n : Nat) (a0 : AV) (H : Heap) (k : AV → Heap → Option β) : evalBody ti0 p n ⟨c108, 6, Go.Proofs.Tryz.f108.results.toList, o108⟩ [a0] H k = f108 p n a0 H k := by kernel_rfl
noncomputable def f159_l0 (p : Pr β) (n : Nat)  (k : AV → Heap → Option β) : Nat → AV → AV → AV → Heap → Option β
 | 0, _, _, _, _ => none
 | m + 1, t0, t1, t5, H => p.lenS t0 fun t8 =>
   p.bin .lss t5 t8 fun t9 =>
   p.cond t9
   (p.idx t0 t5 fun t14 =>
   p.bin .eql t14 t1 fun t16 =>
   p.cond t16
   (k (.sc (.bool true)) H)
   (p.bin .add t5 (.sc (.int .i64 1)) fun t11 =>
   f159_l0 p n  k m t0 t1 t11 H))
   (k (.sc (.bool false)) H)
noncomputable def f159 (p : Pr β) (n : Nat) (a0 a1 : AV) (H : Heap) (k : AV → Heap → Option β) : Option β :=
 f159_l0 p n  k n a0 a1 (.sc (.int .i64 0)) H
noncomputable def f159_L0 (p : Pr β) (n : Nat)  (k : AV → Heap → Option β) (m : Nat) (tm : Tm) (H : Heap) : Option β :=
 iterC 17 (fun tm H k => evalCode ti0 p o159 17 n (cd c159 [1, 0, 1, 0, 0]) tm H k) (blkK 0 (seqK (fun tm H => evalCode ti0 p o159 17 n (cd c159 [1, 1]) tm H (endK ti0 p Go.Proofs.Tryz.f159.results.toList k)) (endK ti0 p Go.Proofs.Tryz.f159.results.toList k))) m tm H
theorem f159_L0_step (p : Pr β) (n : Nat)  (k : AV → Heap → Option β) (m0 : Nat) (t : Nat → AV) (H : Heap) : f159_L0 p n  k (m0 + 1) (tf 17 0 t) H =
 p.lenS (t 0) fun t8 =>
 p.bin .lss (t 5) t8 fun t9 =>
 p.cond t9
 (p.idx (t 0) (t 5) fun t14 =>
 p.bin .eql t14 (t 1) fun t16 =>
 p.cond t16
 (k (.sc (.bool true)) H)
 (p.bin .add (t 5) (.sc (.int .i64 1)) fun t11 =>
 f159_L0 p n  k m0 (tf 17 0 (ud [(5, t11), (6, (t 5)), (7, (t 0)), (8, t8), (9, t9), (10, (t 5)), (11, t11), (12, (t 0)), (13, (t 5)), (14, t14), (15, (t 1)), (16, t16)] t)) H))
 (k (.sc (.bool false)) H) := by kernel_rfl
theorem f159_l0_eq (p : Pr β) (n : Nat)  (k : AV → Heap → Option β)   (m0 : Nat) : ∀ (t : Nat → AV) (H : Heap), f159_L0 p n  k m0 (tf 17 0 t) H = f159_l0 p n  k m0 (t 0) (t 1) (t 5) H := by
 induction m0 with
 | zero => intros; rfl
 | succ m0 ih =>
  intro t H
  rw [f159_L0_step]
  simp only [ih]
  kernel_rfl
theorem f159_raw (p : Pr β) (n : Nat) (a0 a1 : AV) (H : Heap) (k : AV → Heap → Option β) : evalBody ti0 p n ⟨c159, 17, Go.Proofs.Tryz.f159.results.toList, o159⟩ [a0, a1] H k =
 f159_L0 p n  k n (tf 17 0 (ud [(0, a0), (1, a1), (4, (.sc (.bool false))), (5, (.sc (.int .i64 0)))] ut)) H := by kernel_rfl
theorem f159_body (p : Pr β) (n : Nat) (a0 a1 : AV) (H : Heap) (k : AV → Heap → Option β) : evalBody ti0 p n ⟨c159, 17, Go.Proofs.Tryz.f159.results.toList, o159⟩ [a0, a1] H k = f159 p n a0 a1 H k := by
 rw [f159_raw]
 simp only [f159_l0_eq]
 kernel_rfl
noncomputable def f160_l0 (p : Pr β) (n : Nat)  (k : AV → Heap → Option β) : Nat → AV → AV → AV → AV → Heap → Option β
 | 0, _, _, _, _, _ => none
 | m + 1, t0, t3, t4, t5, H => p.lenS t0 fun t9 =>
   p.bin .leq t5 t9 fun t10 =>
   p.cond t10
   (p.lenS t0 fun t15 =>
   p.bin .eql t5 t15 fun t16 =>
   p.guard t16 false H (fun k' => k' t0 H) fun t18 H =>
   p.guard t16 false H (fun k' => k' t5 H) fun t19 H =>
   p.guard t16 false H (fun k' => p.idx t18 t19 fun t' => k' t' H) fun t20 H =>
   p.guard t16 false H (fun k' => p.bin .eql t20 (.sc (.int .u8 47)) fun t' => k' t' H) fun t21 H =>
   p.pick t16 (.sc (.bool true)) t21 fun t22 =>
   p.cond t22
   (p.sliceS t0 (some t4) (some t5) fun t27 =>
   p.fill [(.sc (.string ⟨#[]⟩))] [(0, 1, t27)] fun ct28 => p.newSl 1 1 ct28 true H fun t28 H =>
   p.app 1 16 t3 t28 H fun t29 H =>
   p.bin .add t5 (.sc (.int .i64 1)) fun t31 =>
   p.bin .add t5 (.sc (.int .i64 1)) fun t12 =>
   f160_l0 p n  k m t0 t29 t31 t12 H)
   (p.bin .add t5 (.sc (.int .i64 1)) fun t12 =>
   f160_l0 p n  k m t0 t3 t4 t12 H))
   (k t3 H)
noncomputable def f160 (p : Pr β) (n : Nat) (a0 : AV) (H : Heap) (k : AV → Heap → Option β) : Option β :=
 f160_l0 p n  k n a0 .nl (.sc (.int .i64 0)) (.sc (.int .i64 0)) H
noncomputable def f160_L0 (p : Pr β) (n : Nat)  (k : AV → Heap → Option β) (m : Nat) (tm : Tm) (H : Heap) : Option β :=
 iterC 33 (fun tm H k => evalCode ti0 p o160 33 n (cd c160 [1, 1, 1, 0, 1, 0, 0]) tm H k) (blkK 0 (seqK (fun tm H => evalCode ti0 p o160 33 n (cd c160 [1, 1, 1, 1]) tm H (endK ti0 p Go.Proofs.Tryz.f160.results.toList k)) (endK ti0 p Go.Proofs.Tryz.f160.results.toList k))) m tm H
theorem f160_L0_step (p : Pr β) (n : Nat)  (k : AV → Heap → Option β) (m0 : Nat) (t : Nat → AV) (H : Heap) : f160_L0 p n  k (m0 + 1) (tf 33 0 t) H =
 p.lenS (t 0) fun t9 =>
 p.bin .leq (t 5) t9 fun t10 =>
 p.cond t10
 (p.lenS (t 0) fun t15 =>
 p.bin .eql (t 5) t15 fun t16 =>
 p.guard t16 false H (fun k' => k' (t 0) H) fun t18 H =>
 p.guard t16 false H (fun k' => k' (t 5) H) fun t19 H =>
 p.guard t16 false H (fun k' => p.idx t18 t19 fun t' => k' t' H) fun t20 H =>
 p.guard t16 false H (fun k' => p.bin .eql t20 (.sc (.int .u8 47)) fun t' => k' t' H) fun t21 H =>
 p.pick t16 (.sc (.bool true)) t21 fun t22 =>
 p.cond t22
 (p.sliceS (t 0) (some (t 4)) (some (t 5)) fun t27 =>
 p.fill [(.sc (.string ⟨#[]⟩))] [(0, 1, t27)] fun ct28 => p.newSl 1 1 ct28 true H fun t28 H =>
 p.app 1 16 (t 3) t28 H fun t29 H =>
 p.bin .add (t 5) (.sc (.int .i64 1)) fun t31 =>
 p.bin .add (t 5) (.sc (.int .i64 1)) fun t12 =>
 f160_L0 p n  k m0 (tf 33 0 (ud [(3, t29), (4, t31), (5, t12), (7, (t 5)), (8, (t 0)), (9, t9), (10, t10), (11, (t 5)), (12, t12), (13, (t 5)), (14, (t 0)), (15, t15), (16, t16), (17, t16), (18, t18), (19, t19), (20, t20), (21, t21), (22, t22), (23, (t 3)), (24, (t 0)), (25, (t 4)), (26, (t 5)), (27, t27), (28, t28), (29, t29), (30, (t 5)), (31, t31)] t)) H)
 (p.bin .add (t 5) (.sc (.int .i64 1)) fun t12 =>
 f160_L0 p n  k m0 (tf 33 0 (ud [(5, t12), (7, (t 5)), (8, (t 0)), (9, t9), (10, t10), (11, (t 5)), (12, t12), (13, (t 5)), (14, (t 0)), (15, t15), (16, t16), (17, t16), (18, t18), (19, t19), (20, t20), (21, t21), (22, t22)] t)) H))
 (k (t 3) H) := by kernel_rfl
theorem f160_l0_eq (p : Pr β) (n : Nat)  (k : AV → Heap → Option β)   (m0 : Nat) : ∀ (t : Nat → AV) (H : Heap), f160_L0 p n  k m0 (tf 33 0 t) H = f160_l0 p n  k m0 (t 0) (t 3) (t 4) (t 5) H := by
 induction m0 with
 | zero => intros; rfl
 | succ m0 ih =>
  intro t H
  rw [f160_L0_step]
  simp only [ih]
  kernel_rfl
theorem f160_raw (p : Pr β) (n : Nat) (a0 : AV) (H : Heap) (k : AV → Heap → Option β) : evalBody ti0 p n ⟨c160, 33, Go.Proofs.Tryz.f160.results.toList, o160⟩ [a0] H k =
 f160_L0 p n  k n (tf 33 0 (ud [(0, a0), (2, .nl), (3, .nl), (4, (.sc (.int .i64 0))), (5, (.sc (.int .i64 0))), (6, .nl)] ut)) H := by kernel_rfl
theorem f160_body (p : Pr β) (n : Nat) (a0 : AV) (H : Heap) (k : AV → Heap → Option β) : evalBody ti0 p n ⟨c160, 33, Go.Proofs.Tryz.f160.results.toList, o160⟩ [a0] H k = f160 p n a0 H k := by
 rw [f160_raw]
 simp only [f160_l0_eq]
 kernel_rfl
noncomputable def f144 (p : Pr β) (n : Nat) (a0 : AV) (H : Heap) (k : AV → Heap → Option β) : Option β :=
 p.call 4 (.fn 108 [] []) [a0] H fun t4 H =>
 p.guard t4 true H (fun k' => k' a0 H) fun t6 H =>
 p.guard t4 true H (fun k' => p.bin .neq t6 (.sc (.string ⟨#[]⟩)) fun t' => k' t' H) fun t7 H =>
 p.pick t4 t7 (.sc (.bool false)) fun t8 =>
 p.guard t8 true H (fun k' => k' a0 H) fun t10 H =>
 p.guard t8 true H (fun k' => p.call 4 (.fn 159 [] []) [t10, (.sc (.int .u8 43))] H fun t' H => k' t' H) fun t11 H =>
 p.guard t8 true H (fun k' => p.un .not t11 fun t' => k' t' H) fun t12 H =>
 p.pick t8 t12 (.sc (.bool false)) fun t13 =>
 p.guard t13 true H (fun k' => k' a0 H) fun t15 H =>
 p.guard t13 true H (fun k' => p.call 4 (.fn 159 [] []) [t15, (.sc (.int .u8 35))] H fun t' H => k' t' H) fun t16 H =>
 p.guard t13 true H (fun k' => p.un .not t16 fun t' => k' t' H) fun t17 H =>
 p.pick t13 t17 (.sc (.bool false)) fun t18 =>
 p.guard t18 true H (fun k' => k' a0 H) fun t20 H =>
 p.guard t18 true H (fun k' => p.call 64 (.fn 160 [] []) [t20] H fun t' H => k' t' H) fun t21 H =>
 p.guard t18 true H (fun k' => p.len t21 fun t' => k' t' H) fun t22 H =>
 p.guard t18 true H (fun k' => p.bin .leq t22 (.sc (.int .i64 6)) fun t' => k' t' H) fun t23 H =>
 p.pick t18 t23 (.sc (.bool false)) fun t24 =>
 k t24 H
theorem f144_body (p : Pr β) (n : Nat) (a0 : AV) (H : Heap) (k : AV → Heap → Option β) : evalBody ti0 p n ⟨c144, 25, Go.Proofs.Tryz.f144.results.toList, o144⟩ [a0] H k = f144 p n a0 H k := by kernel_rfl
noncomputable def f118 (p : Pr β) (n : Nat) (a0 : AV) (H : Heap) (k : AV → Heap → Option β) : Option β :=
 p.box a0 H fun t1 H =>
 p.fadr 0 t1 fun t3 =>
 p.load false 1 t3 H fun t4 =>
 p.call 4 (.fn 144 [] []) [t4] H fun t5 H =>
 p.guard t5 true H (fun k' => p.fadr 1 t1 fun t' => k' t' H) fun t7 H =>
 p.guard t5 true H (fun k' => p.load false 1 t7 H fun t' => k' t' H) fun t8 H =>
 p.guard t5 true H (fun k' => p.len t8 fun t' => k' t' H) fun t9 H =>
 p.guard t5 true H (fun k' => p.bin .leq t9 (.sc (.int .i64 40)) fun t' => k' t' H) fun t10 H =>
 p.pick t5 t10 (.sc (.bool false)) fun t11 =>
 p.guard t11 true H (fun k' => p.fadr 2 t1 fun t' => k' t' H) fun t13 H =>
 p.guard t11 true H (fun k' => p.load false 1 t13 H fun t' => k' t' H) fun t14 H =>
 p.guard t11 true H (fun k' => p.call 4 (.fn 109 [] []) [t14, (.sc (.int .i64 0)), (.sc (.int .i64 2))] H fun t' H => k' t' H) fun t15 H =>
 p.pick t11 t15 (.sc (.bool false)) fun t16 =>
 k t16 H
theorem f118_body (p : Pr β) (n : Nat) (a0 : AV) (H : Heap) (k : AV → Heap → Option β) : evalBody ti0 p n ⟨c118, 17, Go.Proofs.Tryz.f118.results.toList, o118⟩ [a0] H k = f118 p n a0 H k := by kernel_rfl
noncomputable def f119 (p : Pr β) (n : Nat) (a0 : AV) (H : Heap) (k : AV → Heap → Option β) : Option β :=
 p.box a0 H fun t1 H =>
 p.fadr 1 t1 fun t3 =>
 p.fadr 2 t3 fun t4 =>
 p.load false 1 t4 H fun t5 =>
 p.bin .eql t5 (.sc (.int .i64 1)) fun t6 =>
 p.cond t6
 (p.fadr 5 t1 fun t7 =>
 p.load false 1 t7 H fun t8 =>
 p.bin .eql t8 (.sc (.int .i64 1)) fun t9 =>
 k t9 H)
 (p.fadr 1 t1 fun t10 =>
 p.fadr 2 t10 fun t11 =>
 p.load false 1 t11 H fun t12 =>
 p.bin .eql t12 (.sc (.int .i64 2)) fun t13 =>
 p.guard t13 true H (fun k' => p.fadr 5 t1 fun t' => k' t' H) fun t15 H =>
 p.guard t13 true H (fun k' => p.load false 1 t15 H fun t' => k' t' H) fun t16 H =>
 p.guard t13 true H (fun k' => p.bin .eql t16 (.sc (.int .i64 2)) fun t' => k' t' H) fun t17 H =>
 p.guard t13 true H (fun k' => k' t17 H) fun t18 H =>
 p.guard t18 false H (fun k' => p.fadr 5 t1 fun t' => k' t' H) fun t19 H =>
 p.guard t18 false H (fun k' => p.load false 1 t19 H fun t' => k' t' H) fun t20 H =>
 p.guard t18 false H (fun k' => p.bin .eql t20 (.sc (.int .i64 3)) fun t' => k' t' H) fun t21 H =>
 p.guard t13 true H (fun k' => p.pick t18 (.sc (.bool true)) t21 fun t' => k' t' H) fun t22 H =>
 p.pick t13 t22 (.sc (.bool false)) fun t23 =>
 k t23 H)
theorem f119_body (p : Pr β) (n : Nat) (a0 : AV) (H : Heap) (k : AV → Heap → Option β) : evalBody ti0 p n ⟨c119, 24, Go.Proofs.Tryz.f119.results.toList, o119⟩ [a0] H k = f119 p n a0 H k := by kernel_rfl
noncomputable def f120_l0 (p : Pr β) (n : Nat)  (k : AV → Heap → Option β) : Nat → AV → AV → Heap → Option β
 | 0, _, _, _ => none
 | m + 1, t0, t3, H => p.len t0 fun t6 =>
   p.bin .lss t3 t6 fun t7 =>
   p.cond t7
   (p.iadr 4 t0 t3 fun t12 =>
   p.load true 4 t12 H fun t13 =>
   p.call 4 (.fn 118 [] []) [t13] H fun t14 H =>
   p.un .not t14 fun t15 =>
   p.cond t15
   (k (.sc (.bool false)) H)
   (p.bin .add t3 (.sc (.int .i64 1)) fun t9 =>
   f120_l0 p n  k m t0 t9 H))
   (p.len t0 fun t17 =>
   p.bin .leq t17 (.sc (.int .i64 6)) fun t18 =>
   k t18 H)
noncomputable def f120 (p : Pr β) (n : Nat) (a0 : AV) (H : Heap) (k : AV → Heap → Option β) : Option β :=
 f120_l0 p n  k n a0 (.sc (.int .i64 0)) H
noncomputable def f120_L0 (p : Pr β) (n : Nat)  (k : AV → Heap → Option β) (m : Nat) (tm : Tm) (H : Heap) : Option β :=
 iterC 19 (fun tm H k => evalCode ti0 p o120 19 n (cd c120 [1, 0, 1, 0, 0]) tm H k) (blkK 0 (seqK (fun tm H => evalCode ti0 p o120 19 n (cd c120 [1, 1]) tm H (endK ti0 p Go.Proofs.Tryz.f120.results.toList k)) (endK ti0 p Go.Proofs.Tryz.f120.results.toList k))) m tm H
theorem f120_L0_step (p : Pr β) (n : Nat)  (k : AV → Heap → Option β) (m0 : Nat) (t : Nat → AV) (H : Heap) : f120_L0 p n  k (m0 + 1) (tf 19 0 t) H =
 p.len (t 0) fun t6 =>
 p.bin .lss (t 3) t6 fun t7 =>
 p.cond t7
 (p.iadr 4 (t 0) (t 3) fun t12 =>
 p.load true 4 t12 H fun t13 =>
 p.call 4 (.fn 118 [] []) [t13] H fun t14 H =>
 p.un .not t14 fun t15 =>
 p.cond t15
 (k (.sc (.bool false)) H)
 (p.bin .add (t 3) (.sc (.int .i64 1)) fun t9 =>
 f120_L0 p n  k m0 (tf 19 0 (ud [(3, t9), (4, (t 3)), (5, (t 0)), (6, t6), (7, t7), (8, (t 3)), (9, t9), (10, (t 0)), (11, (t 3)), (12, t12), (13, t13), (14, t14), (15, t15)] t)) H))
 (p.len (t 0) fun t17 =>
 p.bin .leq t17 (.sc (.int .i64 6)) fun t18 =>
 k t18 H) := by kernel_rfl
theorem f120_l0_eq (p : Pr β) (n : Nat)  (k : AV → Heap → Option β)   (m0 : Nat) : ∀ (t : Nat → AV) (H : Heap), f120_L0 p n  k m0 (tf 19 0 t) H = f120_l0 p n  k m0 (t 0) (t 3) H := by
 induction m0 with
 | zero => intros; rfl
 | succ m0 ih =>
  intro t H
  rw [f120_L0_step]
  simp only [ih]
  kernel_rfl
theorem f120_raw (p : Pr β) (n : Nat) (a0 : AV) (H : Heap) (k : AV → Heap → Option β) : evalBody ti0 p n ⟨c120, 19, Go.Proofs.Tryz.f120.results.toList, o120⟩ [a0] H k =
 f120_L0 p n  k n (tf 19 0 (ud [(0, a0), (2, (.sc (.bool false))), (3, (.sc (.int .i64 0)))] ut)) H := by kernel_rfl
theorem f120_body (p : Pr β) (n : Nat) (a0 : AV) (H : Heap) (k : AV → Heap → Option β) : evalBody ti0 p n ⟨c120, 19, Go.Proofs.Tryz.f120.results.toList, o120⟩ [a0] H k = f120 p n a0 H k := by
 rw [f120_raw]
 simp only [f120_l0_eq]
 kernel_rfl
noncomputable def f67_l1 (p : Pr β) (n : Nat) (g0 : AV → AV → Heap → Option β) (k : AV → Heap → Option β) : Nat → AV → AV → AV → Heap → Option β
 | 0, _, _, _, _ => none
 | m + 1, t1, t3, t4, H => p.bin .lss t4 t3 fun t41 =>
   p.cond t41
   (p.fadr 1 t1 fun t44 =>
   p.load false 1 t44 H fun t45 =>
   p.iadr 6 t45 t4 fun t47 =>
   p.fadr 0 t47 fun t48 =>
   p.load false 1 t48 H fun t49 =>
   p.fadr 1 t1 fun t50 =>
   p.load false 1 t50 H fun t51 =>
   p.iadr 6 t51 t3 fun t53 =>
   p.fadr 0 t53 fun t54 =>
   p.load false 1 t54 H fun t55 =>
   p.bin .eql t49 t55 fun t56 =>
   p.cond t56
   (k (.sc (.bool false)) H)
   (p.bin .add t4 (.sc (.int .i64 1)) fun t43 =>
   f67_l1 p n g0 k m t1 t3 t43 H))
   (p.bin .add t3 (.sc (.int .i64 1)) fun t11 =>
   g0 t1 t11 H)
noncomputable def f67_l0 (p : Pr β) (n : Nat)  (k : AV → Heap → Option β) : Nat → AV → AV → Heap → Option β
 | 0, _, _, _ => none
 | m + 1, t1, t3, H => p.fadr 1 t1 fun t6 =>
   p.load false 1 t6 H fun t7 =>
   p.len t7 fun t8 =>
   p.bin .lss t3 t8 fun t9 =>
   p.cond t9
   (p.fadr 1 t1 fun t12 =>
   p.load false 1 t12 H fun t13 =>
   p.iadr 6 t13 t3 fun t15 =>
   p.fadr 0 t15 fun t16 =>
   p.load false 1 t16 H fun t17 =>
   p.call 4 (.fn 109 [] []) [t17, (.sc (.int .i64 1)), (.sc (.int .i64 65535))] H fun t18 H =>
   p.un .not t18 fun t19 =>
   p.guard t19 false H (fun k' => p.fadr 1 t1 fun t' => k' t' H) fun t21 H =>
   p.guard t19 false H (fun k' => p.load false 1 t21 H fun t' => k' t' H) fun t22 H =>
   p.guard t19 false H (fun k' => k' t3 H) fun t23 H =>
   p.guard t19 false H (fun k' => p.iadr 6 t22 t23 fun t' => k' t' H) fun t24 H =>
   p.guard t19 false H (fun k' => p.fadr 1 t24 fun t' => k' t' H) fun t25 H =>
   p.guard t19 false H (fun k' => p.load true 4 t25 H fun t' => k' t' H) fun t26 H =>
   p.guard t19 false H (fun k' => p.call 4 (.fn 118 [] []) [t26] H fun t' H => k' t' H) fun t27 H =>
   p.guard t19 false H (fun k' => p.un .not t27 fun t' => k' t' H) fun t28 H =>
   p.pick t19 (.sc (.bool true)) t28 fun t29 =>
   p.guard t29 false H (fun k' => p.fadr 1 t1 fun t' => k' t' H) fun t31 H =>
   p.guard t29 false H (fun k' => p.load false 1 t31 H fun t' => k' t' H) fun t32 H =>
   p.guard t29 false H (fun k' => k' t3 H) fun t33 H =>
   p.guard t29 false H (fun k' => p.iadr 6 t32 t33 fun t' => k' t' H) fun t34 H =>
   p.guard t29 false H (fun k' => p.load true 6 t34 H fun t' => k' t' H) fun t35 H =>
   p.guard t29 false H (fun k' => p.call 4 (.fn 119 [] []) [t35] H fun t' H => k' t' H) fun t36 H =>
   p.guard t29 false H (fun k' => p.un .not t36 fun t' => k' t' H) fun t37 H =>
   p.pick t29 (.sc (.bool true)) t37 fun t38 =>
   p.cond t38
   (k (.sc (.bool false)) H)
   (f67_l1 p n (f67_l0 p n  k m) k n t1 t3 (.sc (.int .i64 0)) H))
   (p.fadr 0 t1 fun t57 =>
   p.load false 1 t57 H fun t58 =>
   p.call 4 (.fn 109 [] []) [t58, (.sc (.int .i64 0)), (.sc (.int .i64 65535))] H fun t59 H =>
   p.guard t59 true H (fun k' => p.fadr 1 t1 fun t' => k' t' H) fun t61 H =>
   p.guard t59 true H (fun k' => p.load false 1 t61 H fun t' => k' t' H) fun t62 H =>
   p.guard t59 true H (fun k' => p.len t62 fun t' => k' t' H) fun t63 H =>
   p.guard t59 true H (fun k' => p.bin .leq t63 (.sc (.int .i64 3)) fun t' => k' t' H) fun t64 H =>
   p.pick t59 t64 (.sc (.bool false)) fun t65 =>
   p.guard t65 true H (fun k' => p.fadr 2 t1 fun t' => k' t' H) fun t67 H =>
   p.guard t65 true H (fun k' => p.load false 1 t67 H fun t' => k' t' H) fun t68 H =>
   p.guard t65 true H (fun k' => p.call 4 (.fn 120 [] []) [t68] H fun t' H => k' t' H) fun t69 H =>
   p.pick t65 t69 (.sc (.bool false)) fun t70 =>
   k t70 H)
noncomputable def f67 (p : Pr β) (n : Nat) (a0 : AV) (H : Heap) (k : AV → Heap → Option β) : Option β :=
 p.box a0 H fun t1 H =>
 f67_l0 p n  k n t1 (.sc (.int .i64 0)) H
noncomputable def f67_L1 (p : Pr β) (n : Nat) (m0 : Nat) (k : AV → Heap → Option β) (m : Nat) (tm : Tm) (H : Heap) : Option β :=
 iterC 71 (fun tm H k => evalCode ti0 p o67 71 n (cd c67 [1, 0, 1, 0, 0, 1, 0, 0, 1, 1, 0, 0]) tm H k) (blkK 2 (blkK 1 (seqK (fun tm H => evalCode ti0 p o67 71 n (cd c67 [1, 0, 1, 0, 0, 1, 1]) tm H (seqK (fun tm H => iterC 71 (fun tm H k => evalCode ti0 p o67 71 n (cd c67 [1, 0, 1, 0, 0]) tm H k) (blkK 0 (seqK (fun tm H => evalCode ti0 p o67 71 n (cd c67 [1, 1]) tm H (endK ti0 p Go.Proofs.Tryz.f67.results.toList k)) (endK ti0 p Go.Proofs.Tryz.f67.results.toList k))) m0 (nrm 71 tm) H) (blkK 0 (seqK (fun tm H => evalCode ti0 p o67 71 n (cd c67 [1, 1]) tm H (endK ti0 p Go.Proofs.Tryz.f67.results.toList k)) (endK ti0 p Go.Proofs.Tryz.f67.results.toList k))))) (seqK (fun tm H => iterC 71 (fun tm H k => evalCode ti0 p o67 71 n (cd c67 [1, 0, 1, 0, 0]) tm H k) (blkK 0 (seqK (fun tm H => evalCode ti0 p o67 71 n (cd c67 [1, 1]) tm H (endK ti0 p Go.Proofs.Tryz.f67.results.toList k)) (endK ti0 p Go.Proofs.Tryz.f67.results.toList k))) m0 (nrm 71 tm) H) (blkK 0 (seqK (fun tm H => evalCode ti0 p o67 71 n (cd c67 [1, 1]) tm H (endK ti0 p Go.Proofs.Tryz.f67.results.toList k)) (endK ti0 p Go.Proofs.Tryz.f67.results.toList k))))))) m tm H
noncomputable def f67_L0 (p : Pr β) (n : Nat)  (k : AV → Heap → Option β) (m : Nat) (tm : Tm) (H : Heap) : Option β :=
 iterC 71 (fun tm H k => evalCode ti0 p o67 71 n (cd c67 [1, 0, 1, 0, 0]) tm H k) (blkK 0 (seqK (fun tm H => evalCode ti0 p o67 71 n (cd c67 [1, 1]) tm H (endK ti0 p Go.Proofs.Tryz.f67.results.toList k)) (endK ti0 p Go.Proofs.Tryz.f67.results.toList k))) m tm H
theorem f67_L1_step (p : Pr β) (n : Nat) (m0 : Nat) (k : AV → Heap → Option β) (m1 : Nat) (t : Nat → AV) (H : Heap) : f67_L1 p n m0 k (m1 + 1) (tf 71 0 t) H =
 p.bin .lss (t 4) (t 3) fun t41 =>
 p.cond t41
 (p.fadr 1 (t 1) fun t44 =>
 p.load false 1 t44 H fun t45 =>
 p.iadr 6 t45 (t 4) fun t47 =>
 p.fadr 0 t47 fun t48 =>
 p.load false 1 t48 H fun t49 =>
 p.fadr 1 (t 1) fun t50 =>
 p.load false 1 t50 H fun t51 =>
 p.iadr 6 t51 (t 3) fun t53 =>
 p.fadr 0 t53 fun t54 =>
 p.load false 1 t54 H fun t55 =>
 p.bin .eql t49 t55 fun t56 =>
 p.cond t56
 (k (.sc (.bool false)) H)
 (p.bin .add (t 4) (.sc (.int .i64 1)) fun t43 =>
 f67_L1 p n m0 k m1 (tf 71 0 (ud [(4, t43), (39, (t 4)), (40, (t 3)), (41, t41), (42, (t 4)), (43, t43), (44, t44), (45, t45), (46, (t 4)), (47, t47), (48, t48), (49, t49), (50, t50), (51, t51), (52, (t 3)), (53, t53), (54, t54), (55, t55), (56, t56)] t)) H))
 (p.bin .add (t 3) (.sc (.int .i64 1)) fun t11 =>
 f67_L0 p n  k m0 (tf 71 0 (ud [(3, t11), (10, (t 3)), (11, t11), (39, (t 4)), (40, (t 3)), (41, t41)] t)) H) := by kernel_rfl
theorem f67_l1_eq (p : Pr β) (n : Nat) (m0 : Nat) (k : AV → Heap → Option β) (g0 : AV → AV → Heap → Option β) (h0 : ∀ (t : Nat → AV) H, f67_L0 p n  k m0 (tf 71 0 t) H = g0 (t 1) (t 3) H) (m1 : Nat) : ∀ (t : Nat → AV) (H : Heap), f67_L1 p n m0 k m1 (tf 71 0 t) H = f67_l1 p n g0 k m1 (t 1) (t 3) (t 4) H := by
 induction m1 with
 | zero => intros; rfl
 | succ m1 ih =>
  intro t H
  rw [f67_L1_step]
  simp only [ih, h0]
  kernel_rfl
theorem f67_L0_step (p : Pr β) (n : Nat)  (k : AV → Heap → Option β) (m0 : Nat) (t : Nat → AV) (H : Heap) : f67_L0 p n  k (m0 + 1) (tf 71 0 t) H =
 p.fadr 1 (t 1) fun t6 =>
 p.load false 1 t6 H fun t7 =>
 p.len t7 fun t8 =>
 p.bin .lss (t 3) t8 fun t9 =>
 p.cond t9
 (p.fadr 1 (t 1) fun t12 =>
 p.load false 1 t12 H fun t13 =>
 p.iadr 6 t13 (t 3) fun t15 =>
 p.fadr 0 t15 fun t16 =>
 p.load false 1 t16 H fun t17 =>
 p.call 4 (.fn 109 [] []) [t17, (.sc (.int .i64 1)), (.sc (.int .i64 65535))] H fun t18 H =>
 p.un .not t18 fun t19 =>
 p.guard t19 false H (fun k' => p.fadr 1 (t 1) fun t' => k' t' H) fun t21 H =>
 p.guard t19 false H (fun k' => p.load false 1 t21 H fun t' => k' t' H) fun t22 H =>
 p.guard t19 false H (fun k' => k' (t 3) H) fun t23 H =>
 p.guard t19 false H (fun k' => p.iadr 6 t22 t23 fun t' => k' t' H) fun t24 H =>
 p.guard t19 false H (fun k' => p.fadr 1 t24 fun t' => k' t' H) fun t25 H =>
 p.guard t19 false H (fun k' => p.load true 4 t25 H fun t' => k' t' H) fun t26 H =>
 p.guard t19 false H (fun k' => p.call 4 (.fn 118 [] []) [t26] H fun t' H => k' t' H) fun t27 H =>
 p.guard t19 false H (fun k' => p.un .not t27 fun t' => k' t' H) fun t28 H =>
 p.pick t19 (.sc (.bool true)) t28 fun t29 =>
 p.guard t29 false H (fun k' => p.fadr 1 (t 1) fun t' => k' t' H) fun t31 H =>
 p.guard t29 false H (fun k' => p.load false 1 t31 H fun t' => k' t' H) fun t32 H =>
 p.guard t29 false H (fun k' => k' (t 3) H) fun t33 H =>
 p.guard t29 false H (fun k' => p.iadr 6 t32 t33 fun t' => k' t' H) fun t34 H =>
 p.guard t29 false H (fun k' => p.load true 6 t34 H fun t' => k' t' H) fun t35 H =>
 p.guard t29 false H (fun k' => p.call 4 (.fn 119 [] []) [t35] H fun t' H => k' t' H) fun t36 H =>
 p.guard t29 false H (fun k' => p.un .not t36 fun t' => k' t' H) fun t37 H =>
 p.pick t29 (.sc (.bool true)) t37 fun t38 =>
 p.cond t38
 (k (.sc (.bool false)) H)
 (f67_L1 p n m0 k n (tf 71 0 (ud [(4, (.sc (.int .i64 0))), (5, (t 3)), (6, t6), (7, t7), (8, t8), (9, t9), (12, t12), (13, t13), (14, (t 3)), (15, t15), (16, t16), (17, t17), (18, t18), (19, t19), (20, t19), (21, t21), (22, t22), (23, t23), (24, t24), (25, t25), (26, t26), (27, t27), (28, t28), (29, t29), (30, t29), (31, t31), (32, t32), (33, t33), (34, t34), (35, t35), (36, t36), (37, t37), (38, t38)] t)) H))
 (p.fadr 0 (t 1) fun t57 =>
 p.load false 1 t57 H fun t58 =>
 p.call 4 (.fn 109 [] []) [t58, (.sc (.int .i64 0)), (.sc (.int .i64 65535))] H fun t59 H =>
 p.guard t59 true H (fun k' => p.fadr 1 (t 1) fun t' => k' t' H) fun t61 H =>
 p.guard t59 true H (fun k' => p.load false 1 t61 H fun t' => k' t' H) fun t62 H =>
 p.guard t59 true H (fun k' => p.len t62 fun t' => k' t' H) fun t63 H =>
 p.guard t59 true H (fun k' => p.bin .leq t63 (.sc (.int .i64 3)) fun t' => k' t' H) fun t64 H =>
 p.pick t59 t64 (.sc (.bool false)) fun t65 =>
 p.guard t65 true H (fun k' => p.fadr 2 (t 1) fun t' => k' t' H) fun t67 H =>
 p.guard t65 true H (fun k' => p.load false 1 t67 H fun t' => k' t' H) fun t68 H =>
 p.guard t65 true H (fun k' => p.call 4 (.fn 120 [] []) [t68] H fun t' H => k' t' H) fun t69 H =>
 p.pick t65 t69 (.sc (.bool false)) fun t70 =>
 k t70 H) := by kernel_rfl
theorem f67_l0_eq (p : Pr β) (n : Nat)  (k : AV → Heap → Option β)   (m0 : Nat) : ∀ (t : Nat → AV) (H : Heap), f67_L0 p n  k m0 (tf 71 0 t) H = f67_l0 p n  k m0 (t 1) (t 3) H := by
 induction m0 with
 | zero => intros; rfl
 | succ m0 ih =>
  intro t H
  rw [f67_L0_step]
  simp only [ih, f67_l1_eq p n m0 k (f67_l0 p n  k m0) ih]
  kernel_rfl
theorem f67_raw (p : Pr β) (n : Nat) (a0 : AV) (H : Heap) (k : AV → Heap → Option β) : evalBody ti0 p n ⟨c67, 71, Go.Proofs.Tryz.f67.results.toList, o67⟩ [a0] H k =
 p.box a0 H fun t1 H =>
 f67_L0 p n  k n (tf 71 0 (ud [(0, a0), (1, t1), (2, (.sc (.bool false))), (3, (.sc (.int .i64 0)))] ut)) H := by kernel_rfl
theorem f67_body (p : Pr β) (n : Nat) (a0 : AV) (H : Heap) (k : AV → Heap → Option β) : evalBody ti0 p n ⟨c67, 71, Go.Proofs.Tryz.f67.results.toList, o67⟩ [a0] H k = f67 p n a0 H k := by
 rw [f67_raw]
 simp only [f67_l0_eq]
 kernel_rfl
noncomputable def f146 (p : Pr β) (n : Nat) (a0 : AV) (H : Heap) (k : AV → Heap → Option β) : Option β :=
 p.box a0 H fun t1 H =>
 p.new [(.sc (.int .i64 0)), (.sc (.bool false)), (.sc (.int .i64 0)), (.sc (.bool false)), (.sc (.int .i64 0)), (.sc (.string ⟨#[]⟩)), .nl, (.sc (.string ⟨#[]⟩)), (.sc (.int .i64 0)), (.sc (.bool false)), (.sc (.int .i64 0)), (.sc (.bool false)), (.sc (.string ⟨#[]⟩)), .nl, (.sc (.int .i64 0)), (.sc (.bool false)), (.sc (.bool false)), (.sc (.string ⟨#[]⟩)), (.sc (.bool false)), .nl, (.sc (.int .i64 0)), (.sc (.bool false)), .nl, .nl, .nl] H fun t2 H =>
 p.fadr 0 t1 fun t4 =>
 p.load false 1 t4 H fun t5 =>
 p.fill [(.sc (.int .i64 0)), (.sc (.bool false)), (.sc (.int .i64 0)), (.sc (.bool false)), (.sc (.int .i64 0)), (.sc (.string ⟨#[]⟩)), .nl, (.sc (.string ⟨#[]⟩)), (.sc (.int .i64 0)), (.sc (.bool false)), (.sc (.int .i64 0)), (.sc (.bool false)), (.sc (.string ⟨#[]⟩)), .nl, (.sc (.int .i64 0)), (.sc (.bool false)), (.sc (.bool false)), (.sc (.string ⟨#[]⟩)), (.sc (.bool false)), .nl, (.sc (.int .i64 0)), (.sc (.bool false)), .nl, .nl, .nl] [(0, 1, t5)] fun ct6 =>
 p.new [(.sc (.int .i64 0)), (.sc (.bool false)), (.sc (.int .i64 0)), (.sc (.bool false)), (.sc (.int .i64 0)), (.sc (.string ⟨#[]⟩)), .nl, (.sc (.string ⟨#[]⟩)), (.sc (.int .i64 0)), (.sc (.bool false)), (.sc (.int .i64 0)), (.sc (.bool false)), (.sc (.string ⟨#[]⟩)), .nl, (.sc (.int .i64 0)), (.sc (.bool false)), (.sc (.bool false)), (.sc (.string ⟨#[]⟩)), (.sc (.bool false)), .nl, (.sc (.int .i64 0)), (.sc (.bool false)), .nl, .nl, .nl] H fun t3 H =>
 p.store 25 t3 (.agg ct6) H fun H =>
 p.fadr 0 t1 fun t7 =>
 p.load false 1 t7 H fun t8 =>
 p.bin .eql t8 (.sc (.int .i64 1)) fun t10 =>
 p.cond t10
 (p.fadr 8 t1 fun t11 =>
 p.load false 1 t11 H fun t12 =>
 p.fadr 8 t3 fun t13 =>
 p.store 1 t13 t12 H fun H =>
 p.fadr 7 t1 fun t14 =>
 p.load false 1 t14 H fun t15 =>
 p.fadr 7 t3 fun t16 =>
 p.store 1 t16 t15 H fun H =>
 p.fadr 9 t1 fun t17 =>
 p.load false 1 t17 H fun t18 =>
 p.fadr 9 t3 fun t19 =>
 p.store 1 t19 t18 H fun H =>
 p.fadr 10 t1 fun t20 =>
 p.load false 1 t20 H fun t21 =>
 p.fadr 10 t3 fun t22 =>
 p.store 1 t22 t21 H fun H =>
 p.fadr 11 t1 fun t23 =>
 p.load false 1 t23 H fun t24 =>
 letJ (fun (t1 t2 t3 : AV) (H : Heap) => p.fadr 16 t1 fun t38 =>
 p.load false 1 t38 H fun t39 =>
 p.cond t39
 (p.fadr 16 t3 fun t40 =>
 p.store 1 t40 (.sc (.bool true)) H fun H =>
 p.fadr 17 t1 fun t41 =>
 p.load false 1 t41 H fun t42 =>
 p.fadr 17 t3 fun t43 =>
 p.store 1 t43 t42 H fun H =>
 p.fadr 18 t1 fun t44 =>
 p.load false 1 t44 H fun t45 =>
 p.cond t45
 (p.fadr 18 t3 fun t46 =>
 p.store 1 t46 (.sc (.bool true)) H fun H =>
 p.fadr 19 t1 fun t47 =>
 p.load false 1 t47 H fun t48 =>
 p.fadr 19 t3 fun t49 =>
 p.store 1 t49 t48 H fun H =>
 p.load true 25 t3 H fun t119 =>
 p.store 25 t2 t119 H fun H =>
 p.load true 25 t2 H fun r0 =>
 k r0 H)
 (p.load true 25 t3 H fun t119 =>
 p.store 25 t2 t119 H fun H =>
 p.load true 25 t2 H fun r0 =>
 k r0 H))
 (p.load true 25 t3 H fun t119 =>
 p.store 25 t2 t119 H fun H =>
 p.load true 25 t2 H fun r0 =>
 k r0 H)) fun j1 =>
 p.cond t24
 (p.fadr 11 t3 fun t25 =>
 p.store 1 t25 (.sc (.bool true)) H fun H =>
 p.fadr 12 t1 fun t26 =>
 p.load false 1 t26 H fun t27 =>
 p.fadr 12 t3 fun t28 =>
 p.store 1 t28 t27 H fun H =>
 p.fadr 13 t1 fun t29 =>
 p.load false 1 t29 H fun t30 =>
 p.fadr 13 t3 fun t31 =>
 p.store 1 t31 t30 H fun H =>
 p.fadr 14 t1 fun t32 =>
 p.load false 1 t32 H fun t33 =>
 p.fadr 14 t3 fun t34 =>
 p.store 1 t34 t33 H fun H =>
 p.fadr 15 t1 fun t35 =>
 p.load false 1 t35 H fun t36 =>
 p.fadr 15 t3 fun t37 =>
 p.store 1 t37 t36 H fun H =>
 j1 t1 t2 t3 H)
 (j1 t1 t2 t3 H))
 (p.bin .eql t8 (.sc (.int .i64 2)) fun t51 =>
 p.cond t51
 (p.fadr 20 t1 fun t52 =>
 p.load false 1 t52 H fun t53 =>
 p.fadr 20 t3 fun t54 =>
 p.store 1 t54 t53 H fun H =>
 p.fadr 21 t1 fun t55 =>
 p.load false 1 t55 H fun t56 =>
 p.guard t56 true H (fun k' => p.fadr 20 t1 fun t' => k' t' H) fun t58 H =>
 p.guard t56 true H (fun k' => p.load false 1 t58 H fun t' => k' t' H) fun t59 H =>
 p.guard t56 true H (fun k' => p.bin .eql t59 (.sc (.int .i64 0)) fun t' => k' t' H) fun t60 H =>
 p.pick t56 t60 (.sc (.bool false)) fun t61 =>
 p.fadr 21 t3 fun t62 =>
 p.store 1 t62 t61 H fun H =>
 p.load true 25 t3 H fun t119 =>
 p.store 25 t2 t119 H fun H =>
 p.load true 25 t2 H fun r0 =>
 k r0 H)
 (p.bin .eql t8 (.sc (.int .i64 3)) fun t64 =>
 p.cond t64
 (p.fadr 2 t1 fun t65 =>
 p.load false 1 t65 H fun t66 =>
 p.fadr 2 t3 fun t67 =>
 p.store 1 t67 t66 H fun H =>
 p.fadr 3 t1 fun t68 =>
 p.load false 1 t68 H fun t69 =>
 p.fadr 3 t3 fun t70 =>
 p.store 1 t70 t69 H fun H =>
 p.fadr 5 t1 fun t71 =>
 p.load false 1 t71 H fun t72 =>
 p.fadr 5 t3 fun t73 =>
 p.store 1 t73 t72 H fun H =>
 p.fadr 6 t1 fun t74 =>
 p.load false 1 t74 H fun t75 =>
 p.fadr 6 t3 fun t76 =>
 p.store 1 t76 t75 H fun H =>
 p.fadr 2 t1 fun t77 =>
 p.load false 1 t77 H fun t78 =>
 p.bin .gtr t78 (.sc (.int .i64 0)) fun t79 =>
 p.cond t79
 (p.fadr 1 t1 fun t80 =>
 p.load false 1 t80 H fun t81 =>
 p.fadr 1 t3 fun t82 =>
 p.store 1 t82 t81 H fun H =>
 p.fadr 4 t1 fun t83 =>
 p.load false 1 t83 H fun t84 =>
 p.fadr 4 t3 fun t85 =>
 p.store 1 t85 t84 H fun H =>
 p.load true 25 t3 H fun t119 =>
 p.store 25 t2 t119 H fun H =>
 p.load true 25 t2 H fun r0 =>
 k r0 H)
 (p.load true 25 t3 H fun t119 =>
 p.store 25 t2 t119 H fun H =>
 p.load true 25 t2 H fun r0 =>
 k r0 H))
 (p.bin .eql t8 (.sc (.int .i64 4)) fun t87 =>
 letJ (fun (t1 t2 t3 t8 t86 : AV) (H : Heap) => p.cond t86
 (p.fadr 4 t1 fun t92 =>
 p.load false 1 t92 H fun t93 =>
 p.fadr 4 t3 fun t94 =>
 p.store 1 t94 t93 H fun H =>
 p.load true 25 t3 H fun t119 =>
 p.store 25 t2 t119 H fun H =>
 p.load true 25 t2 H fun r0 =>
 k r0 H)
 (p.bin .eql t8 (.sc (.int .i64 8)) fun t96 =>
 p.cond t96
 (p.fadr 4 t1 fun t97 =>
 p.load false 1 t97 H fun t98 =>
 p.fadr 4 t3 fun t99 =>
 p.store 1 t99 t98 H fun H =>
 p.fadr 22 t1 fun t100 =>
 p.load false 1 t100 H fun t101 =>
 p.fadr 22 t3 fun t102 =>
 p.store 1 t102 t101 H fun H =>
 p.load true 25 t3 H fun t119 =>
 p.store 25 t2 t119 H fun H =>
 p.load true 25 t2 H fun r0 =>
 k r0 H)
 (p.bin .eql t8 (.sc (.int .i64 9)) fun t104 =>
 p.cond t104
 (p.fadr 4 t1 fun t105 =>
 p.load false 1 t105 H fun t106 =>
 p.fadr 4 t3 fun t107 =>
 p.store 1 t107 t106 H fun H =>
 p.fadr 24 t1 fun t108 =>
 p.load false 1 t108 H fun t109 =>
 p.fadr 24 t3 fun t110 =>
 p.store 1 t110 t109 H fun H =>
 p.load true 25 t3 H fun t119 =>
 p.store 25 t2 t119 H fun H =>
 p.load true 25 t2 H fun r0 =>
 k r0 H)
 (p.bin .eql t8 (.sc (.int .i64 10)) fun t112 =>
 p.cond t112
 (p.fadr 4 t1 fun t113 =>
 p.load false 1 t113 H fun t114 =>
 p.fadr 4 t3 fun t115 =>
 p.store 1 t115 t114 H fun H =>
 p.fadr 23 t1 fun t116 =>
 p.load false 1 t116 H fun t117 =>
 p.fadr 23 t3 fun t118 =>
 p.store 1 t118 t117 H fun H =>
 p.load true 25 t3 H fun t119 =>
 p.store 25 t2 t119 H fun H =>
 p.load true 25 t2 H fun r0 =>
 k r0 H)
 (p.load true 25 t3 H fun t119 =>
 p.store 25 t2 t119 H fun H =>
 p.load true 25 t2 H fun r0 =>
 k r0 H))))) fun j2 =>
 p.cond t87
 (j2 t1 t2 t3 t8 t87 H)
 (p.bin .eql t8 (.sc (.int .i64 5)) fun t88 =>
 p.cond t88
 (j2 t1 t2 t3 t8 t88 H)
 (p.bin .eql t8 (.sc (.int .i64 6)) fun t89 =>
 p.cond t89
 (j2 t1 t2 t3 t8 t89 H)
 (p.bin .eql t8 (.sc (.int .i64 7)) fun t90 =>
 p.cond t90
 (j2 t1 t2 t3 t8 t90 H)
 (p.bin .eql t8 (.sc (.int .i64 11)) fun t91 =>
 j2 t1 t2 t3 t8 t91 H)))))))
theorem f146_body (p : Pr β) (n : Nat) (a0 : AV) (H : Heap) (k : AV → Heap → Option β) : evalBody ti0 p n ⟨c146, 120, Go.Proofs.Tryz.f146.results.toList, o146⟩ [a0] H k = f146 p n a0 H k := by kernel_rfl
noncomputable def f161 (p : Pr β) (n : Nat) (a0 a1 : AV) (H : Heap) (k : AV → Heap → Option β) : Option β :=
 p.cvBS a0 H fun t6 =>
 p.cvBS a1 H fun t8 =>
 p.bin .eql t6 t8 fun t9 =>
 k t9 H
theorem f161_body (p : Pr β) (n : Nat) (a0 a1 : AV) (H : Heap) (k : AV → Heap → Option β) : evalBody ti0 p n ⟨c161, 10, Go.Proofs.Tryz.f161.results.toList, o161⟩ [a0, a1] H k = f161 p n a0 a1 H k := by kernel_rfl
noncomputable def f145_l2 (p : Pr β) (n : Nat)  (k : AV → Heap → Option β) : Nat → AV → AV → AV → Heap → Option β
 | 0, _, _, _, _ => none
 | m + 1, t2, t3, t7, H => p.fadr 24 t2 fun t70 =>
   p.load false 1 t70 H fun t71 =>
   p.len t71 fun t72 =>
   p.bin .lss t7 t72 fun t73 =>
   p.cond t73
   (p.fadr 24 t2 fun t76 =>
   p.load false 1 t76 H fun t77 =>
   p.iadr 1 t77 t7 fun t79 =>
   p.load false 1 t79 H fun t80 =>
   p.fadr 24 t3 fun t81 =>
   p.load false 1 t81 H fun t82 =>
   p.iadr 1 t82 t7 fun t84 =>
   p.load false 1 t84 H fun t85 =>
   p.bin .neq t80 t85 fun t86 =>
   p.cond t86
   (k (.sc (.bool false)) H)
   (p.bin .add t7 (.sc (.int .i64 1)) fun t75 =>
   f145_l2 p n  k m t2 t3 t75 H))
   (p.fadr 0 t2 fun t87 =>
   p.load false 1 t87 H fun t88 =>
   p.fadr 0 t3 fun t89 =>
   p.load false 1 t89 H fun t90 =>
   p.bin .eql t88 t90 fun t91 =>
   p.guard t91 true H (fun k' => p.fadr 1 t2 fun t' => k' t' H) fun t93 H =>
   p.guard t91 true H (fun k' => p.load false 1 t93 H fun t' => k' t' H) fun t94 H =>
   p.guard t91 true H (fun k' => p.fadr 1 t3 fun t' => k' t' H) fun t95 H =>
   p.guard t91 true H (fun k' => p.load false 1 t95 H fun t' => k' t' H) fun t96 H =>
   p.guard t91 true H (fun k' => p.binB .eql t94 t96 fun t' => k' t' H) fun t97 H =>
   p.pick t91 t97 (.sc (.bool false)) fun t98 =>
   p.guard t98 true H (fun k' => p.fadr 2 t2 fun t' => k' t' H) fun t100 H =>
   p.guard t98 true H (fun k' => p.load false 1 t100 H fun t' => k' t' H) fun t101 H =>
   p.guard t98 true H (fun k' => p.fadr 2 t3 fun t' => k' t' H) fun t102 H =>
   p.guard t98 true H (fun k' => p.load false 1 t102 H fun t' => k' t' H) fun t103 H =>
   p.guard t98 true H (fun k' => p.bin .eql t101 t103 fun t' => k' t' H) fun t104 H =>
   p.pick t98 t104 (.sc (.bool false)) fun t105 =>
   p.guard t105 true H (fun k' => p.fadr 3 t2 fun t' => k' t' H) fun t107 H =>
   p.guard t105 true H (fun k' => p.load false 1 t107 H fun t' => k' t' H) fun t108 H =>
   p.guard t105 true H (fun k' => p.fadr 3 t3 fun t' => k' t' H) fun t109 H =>
   p.guard t105 true H (fun k' => p.load false 1 t109 H fun t' => k' t' H) fun t110 H =>
   p.guard t105 true H (fun k' => p.binB .eql t108 t110 fun t' => k' t' H) fun t111 H =>
   p.pick t105 t111 (.sc (.bool false)) fun t112 =>
   p.guard t112 true H (fun k' => p.fadr 4 t2 fun t' => k' t' H) fun t114 H =>
   p.guard t112 true H (fun k' => p.load false 1 t114 H fun t' => k' t' H) fun t115 H =>
   p.guard t112 true H (fun k' => p.fadr 4 t3 fun t' => k' t' H) fun t116 H =>
   p.guard t112 true H (fun k' => p.load false 1 t116 H fun t' => k' t' H) fun t117 H =>
   p.guard t112 true H (fun k' => p.bin .eql t115 t117 fun t' => k' t' H) fun t118 H =>
   p.pick t112 t118 (.sc (.bool false)) fun t119 =>
   p.guard t119 true H (fun k' => p.fadr 5 t2 fun t' => k' t' H) fun t121 H =>
   p.guard t119 true H (fun k' => p.load false 1 t121 H fun t' => k' t' H) fun t122 H =>
   p.guard t119 true H (fun k' => p.fadr 5 t3 fun t' => k' t' H) fun t123 H =>
   p.guard t119 true H (fun k' => p.load false 1 t123 H fun t' => k' t' H) fun t124 H =>
   p.guard t119 true H (fun k' => p.bin .eql t122 t124 fun t' => k' t' H) fun t125 H =>
   p.pick t119 t125 (.sc (.bool false)) fun t126 =>
   p.guard t126 true H (fun k' => p.fadr 6 t2 fun t' => k' t' H) fun t128 H =>
   p.guard t126 true H (fun k' => p.load false 1 t128 H fun t' => k' t' H) fun t129 H =>
   p.guard t126 true H (fun k' => p.fadr 6 t3 fun t' => k' t' H) fun t130 H =>
   p.guard t126 true H (fun k' => p.load false 1 t130 H fun t' => k' t' H) fun t131 H =>
   p.guard t126 true H (fun k' => p.call 4 (.fn 161 [] []) [t129, t131] H fun t' H => k' t' H) fun t132 H =>
   p.pick t126 t132 (.sc (.bool false)) fun t133 =>
   p.guard t133 true H (fun k' => p.fadr 7 t2 fun t' => k' t' H) fun t135 H =>
   p.guard t133 true H (fun k' => p.load false 1 t135 H fun t' => k' t' H) fun t136 H =>
   p.guard t133 true H (fun k' => p.fadr 7 t3 fun t' => k' t' H) fun t137 H =>
   p.guard t133 true H (fun k' => p.load false 1 t137 H fun t' => k' t' H) fun t138 H =>
   p.guard t133 true H (fun k' => p.bin .eql t136 t138 fun t' => k' t' H) fun t139 H =>
   p.pick t133 t139 (.sc (.bool false)) fun t140 =>
   p.guard t140 true H (fun k' => p.fadr 8 t2 fun t' => k' t' H) fun t142 H =>
   p.guard t140 true H (fun k' => p.load false 1 t142 H fun t' => k' t' H) fun t143 H =>
   p.guard t140 true H (fun k' => p.fadr 8 t3 fun t' => k' t' H) fun t144 H =>
   p.guard t140 true H (fun k' => p.load false 1 t144 H fun t' => k' t' H) fun t145 H =>
   p.guard t140 true H (fun k' => p.bin .eql t143 t145 fun t' => k' t' H) fun t146 H =>
   p.pick t140 t146 (.sc (.bool false)) fun t147 =>
   p.guard t147 true H (fun k' => p.fadr 9 t2 fun t' => k' t' H) fun t149 H =>
   p.guard t147 true H (fun k' => p.load false 1 t149 H fun t' => k' t' H) fun t150 H =>
   p.guard t147 true H (fun k' => p.fadr 9 t3 fun t' => k' t' H) fun t151 H =>
   p.guard t147 true H (fun k' => p.load false 1 t151 H fun t' => k' t' H) fun t152 H =>
   p.guard t147 true H (fun k' => p.binB .eql t150 t152 fun t' => k' t' H) fun t153 H =>
   p.pick t147 t153 (.sc (.bool false)) fun t154 =>
   p.guard t154 true H (fun k' => p.fadr 10 t2 fun t' => k' t' H) fun t156 H =>
   p.guard t154 true H (fun k' => p.load false 1 t156 H fun t' => k' t' H) fun t157 H =>
   p.guard t154 true H (fun k' => p.fadr 10 t3 fun t' => k' t' H) fun t158 H =>
   p.guard t154 true H (fun k' => p.load false 1 t158 H fun t' => k' t' H) fun t159 H =>
   p.guard t154 true H (fun k' => p.bin .eql t157 t159 fun t' => k' t' H) fun t160 H =>
   p.pick t154 t160 (.sc (.bool false)) fun t161 =>
   p.guard t161 true H (fun k' => p.fadr 11 t2 fun t' => k' t' H) fun t163 H =>
   p.guard t161 true H (fun k' => p.load false 1 t163 H fun t' => k' t' H) fun t164 H =>
   p.guard t161 true H (fun k' => p.fadr 11 t3 fun t' => k' t' H) fun t165 H =>
   p.guard t161 true H (fun k' => p.load false 1 t165 H fun t' => k' t' H) fun t166 H =>
   p.guard t161 true H (fun k' => p.binB .eql t164 t166 fun t' => k' t' H) fun t167 H =>
   p.pick t161 t167 (.sc (.bool false)) fun t168 =>
   p.guard t168 true H (fun k' => p.fadr 12 t2 fun t' => k' t' H) fun t170 H =>
   p.guard t168 true H (fun k' => p.load false 1 t170 H fun t' => k' t' H) fun t171 H =>
   p.guard t168 true H (fun k' => p.fadr 12 t3 fun t' => k' t' H) fun t172 H =>
   p.guard t168 true H (fun k' => p.load false 1 t172 H fun t' => k' t' H) fun t173 H =>
   p.guard t168 true H (fun k' => p.bin .eql t171 t173 fun t' => k' t' H) fun t174 H =>
   p.pick t168 t174 (.sc (.bool false)) fun t175 =>
   p.guard t175 true H (fun k' => p.fadr 13 t2 fun t' => k' t' H) fun t177 H =>
   p.guard t175 true H (fun k' => p.load false 1 t177 H fun t' => k' t' H) fun t178 H =>
   p.guard t175 true H (fun k' => p.fadr 13 t3 fun t' => k' t' H) fun t179 H =>
   p.guard t175 true H (fun k' => p.load false 1 t179 H fun t' => k' t' H) fun t180 H =>
   p.guard t175 true H (fun k' => p.call 4 (.fn 161 [] []) [t178, t180] H fun t' H => k' t' H) fun t181 H =>
   p.pick t175 t181 (.sc (.bool false)) fun t182 =>
   p.guard t182 true H (fun k' => p.fadr 14 t2 fun t' => k' t' H) fun t184 H =>
   p.guard t182 true H (fun k' => p.load false 1 t184 H fun t' => k' t' H) fun t185 H =>
   p.guard t182 true H (fun k' => p.fadr 14 t3 fun t' => k' t' H) fun t186 H =>
   p.guard t182 true H (fun k' => p.load false 1 t186 H fun t' => k' t' H) fun t187 H =>
   p.guard t182 true H (fun k' => p.bin .eql t185 t187 fun t' => k' t' H) fun t188 H =>
   p.pick t182 t188 (.sc (.bool false)) fun t189 =>
   p.guard t189 true H (fun k' => p.fadr 15 t2 fun t' => k' t' H) fun t191 H =>
   p.guard t189 true H (fun k' => p.load false 1 t191 H fun t' => k' t' H) fun t192 H =>
   p.guard t189 true H (fun k' => p.fadr 15 t3 fun t' => k' t' H) fun t193 H =>
   p.guard t189 true H (fun k' => p.load false 1 t193 H fun t' => k' t' H) fun t194 H =>
   p.guard t189 true H (fun k' => p.binB .eql t192 t194 fun t' => k' t' H) fun t195 H =>
   p.pick t189 t195 (.sc (.bool false)) fun t196 =>
   p.guard t196 true H (fun k' => p.fadr 16 t2 fun t' => k' t' H) fun t198 H =>
   p.guard t196 true H (fun k' => p.load false 1 t198 H fun t' => k' t' H) fun t199 H =>
   p.guard t196 true H (fun k' => p.fadr 16 t3 fun t' => k' t' H) fun t200 H =>
   p.guard t196 true H (fun k' => p.load false 1 t200 H fun t' => k' t' H) fun t201 H =>
   p.guard t196 true H (fun k' => p.binB .eql t199 t201 fun t' => k' t' H) fun t202 H =>
   p.pick t196 t202 (.sc (.bool false)) fun t203 =>
   p.guard t203 true H (fun k' => p.fadr 17 t2 fun t' => k' t' H) fun t205 H =>
   p.guard t203 true H (fun k' => p.load false 1 t205 H fun t' => k' t' H) fun t206 H =>
   p.guard t203 true H (fun k' => p.fadr 17 t3 fun t' => k' t' H) fun t207 H =>
   p.guard t203 true H (fun k' => p.load false 1 t207 H fun t' => k' t' H) fun t208 H =>
   p.guard t203 true H (fun k' => p.bin .eql t206 t208 fun t' => k' t' H) fun t209 H =>
   p.pick t203 t209 (.sc (.bool false)) fun t210 =>
   p.guard t210 true H (fun k' => p.fadr 18 t2 fun t' => k' t' H) fun t212 H =>
   p.guard t210 true H (fun k' => p.load false 1 t212 H fun t' => k' t' H) fun t213 H =>
   p.guard t210 true H (fun k' => p.fadr 18 t3 fun t' => k' t' H) fun t214 H =>
   p.guard t210 true H (fun k' => p.load false 1 t214 H fun t' => k' t' H) fun t215 H =>
   p.guard t210 true H (fun k' => p.binB .eql t213 t215 fun t' => k' t' H) fun t216 H =>
   p.pick t210 t216 (.sc (.bool false)) fun t217 =>
   p.guard t217 true H (fun k' => p.fadr 19 t2 fun t' => k' t' H) fun t219 H =>
   p.guard t217 true H (fun k' => p.load false 1 t219 H fun t' => k' t' H) fun t220 H =>
   p.guard t217 true H (fun k' => p.fadr 19 t3 fun t' => k' t' H) fun t221 H =>
   p.guard t217 true H (fun k' => p.load false 1 t221 H fun t' => k' t' H) fun t222 H =>
   p.guard t217 true H (fun k' => p.call 4 (.fn 161 [] []) [t220, t222] H fun t' H => k' t' H) fun t223 H =>
   p.pick t217 t223 (.sc (.bool false)) fun t224 =>
   p.guard t224 true H (fun k' => p.fadr 20 t2 fun t' => k' t' H) fun t226 H =>
   p.guard t224 true H (fun k' => p.load false 1 t226 H fun t' => k' t' H) fun t227 H =>
   p.guard t224 true H (fun k' => p.fadr 20 t3 fun t' => k' t' H) fun t228 H =>
   p.guard t224 true H (fun k' => p.load false 1 t228 H fun t' => k' t' H) fun t229 H =>
   p.guard t224 true H (fun k' => p.bin .eql t227 t229 fun t' => k' t' H) fun t230 H =>
   p.pick t224 t230 (.sc (.bool false)) fun t231 =>
   p.guard t231 true H (fun k' => p.fadr 21 t2 fun t' => k' t' H) fun t233 H =>
   p.guard t231 true H (fun k' => p.load false 1 t233 H fun t' => k' t' H) fun t234 H =>
   p.guard t231 true H (fun k' => p.fadr 21 t3 fun t' => k' t' H) fun t235 H =>
   p.guard t231 true H (fun k' => p.load false 1 t235 H fun t' => k' t' H) fun t236 H =>
   p.guard t231 true H (fun k' => p.binB .eql t234 t236 fun t' => k' t' H) fun t237 H =>
   p.pick t231 t237 (.sc (.bool false)) fun t238 =>
   k t238 H)
noncomputable def f145_l1 (p : Pr β) (n : Nat)  (k : AV → Heap → Option β) : Nat → AV → AV → AV → Heap → Option β
 | 0, _, _, _, _ => none
 | m + 1, t2, t3, t6, H => p.fadr 23 t2 fun t52 =>
   p.load false 1 t52 H fun t53 =>
   p.len t53 fun t54 =>
   p.bin .lss t6 t54 fun t55 =>
   p.cond t55
   (p.fadr 23 t2 fun t58 =>
   p.load false 1 t58 H fun t59 =>
   p.iadr 1 t59 t6 fun t61 =>
   p.load false 1 t61 H fun t62 =>
   p.fadr 23 t3 fun t63 =>
   p.load false 1 t63 H fun t64 =>
   p.iadr 1 t64 t6 fun t66 =>
   p.load false 1 t66 H fun t67 =>
   p.bin .neq t62 t67 fun t68 =>
   p.cond t68
   (k (.sc (.bool false)) H)
   (p.bin .add t6 (.sc (.int .i64 1)) fun t57 =>
   f145_l1 p n  k m t2 t3 t57 H))
   (f145_l2 p n  k n t2 t3 (.sc (.int .i64 0)) H)
noncomputable def f145_l0 (p : Pr β) (n : Nat)  (k : AV → Heap → Option β) : Nat → AV → AV → AV → Heap → Option β
 | 0, _, _, _, _ => none
 | m + 1, t2, t3, t5, H => p.fadr 22 t2 fun t34 =>
   p.load false 1 t34 H fun t35 =>
   p.len t35 fun t36 =>
   p.bin .lss t5 t36 fun t37 =>
   p.cond t37
   (p.fadr 22 t2 fun t40 =>
   p.load false 1 t40 H fun t41 =>
   p.iadr 2 t41 t5 fun t43 =>
   p.load true 2 t43 H fun t44 =>
   p.fadr 22 t3 fun t45 =>
   p.load false 1 t45 H fun t46 =>
   p.iadr 2 t46 t5 fun t48 =>
   p.load true 2 t48 H fun t49 =>
   p.binA .neq [1, 0] t44 t49 fun t50 =>
   p.cond t50
   (k (.sc (.bool false)) H)
   (p.bin .add t5 (.sc (.int .i64 1)) fun t39 =>
   f145_l0 p n  k m t2 t3 t39 H))
   (f145_l1 p n  k n t2 t3 (.sc (.int .i64 0)) H)
noncomputable def f145 (p : Pr β) (n : Nat) (a0 a1 : AV) (H : Heap) (k : AV → Heap → Option β) : Option β :=
 p.box a0 H fun t2 H =>
 p.box a1 H fun t3 H =>
 p.fadr 22 t2 fun t8 =>
 p.load false 1 t8 H fun t9 =>
 p.len t9 fun t10 =>
 p.fadr 22 t3 fun t11 =>
 p.load false 1 t11 H fun t12 =>
 p.len t12 fun t13 =>
 p.bin .neq t10 t13 fun t14 =>
 p.guard t14 false H (fun k' => p.fadr 23 t2 fun t' => k' t' H) fun t16 H =>
 p.guard t14 false H (fun k' => p.load false 1 t16 H fun t' => k' t' H) fun t17 H =>
 p.guard t14 false H (fun k' => p.len t17 fun t' => k' t' H) fun t18 H =>
 p.guard t14 false H (fun k' => p.fadr 23 t3 fun t' => k' t' H) fun t19 H =>
 p.guard t14 false H (fun k' => p.load false 1 t19 H fun t' => k' t' H) fun t20 H =>
 p.guard t14 false H (fun k' => p.len t20 fun t' => k' t' H) fun t21 H =>
 p.guard t14 false H (fun k' => p.bin .neq t18 t21 fun t' => k' t' H) fun t22 H =>
 p.pick t14 (.sc (.bool true)) t22 fun t23 =>
 p.guard t23 false H (fun k' => p.fadr 24 t2 fun t' => k' t' H) fun t25 H =>
 p.guard t23 false H (fun k' => p.load false 1 t25 H fun t' => k' t' H) fun t26 H =>
 p.guard t23 false H (fun k' => p.len t26 fun t' => k' t' H) fun t27 H =>
 p.guard t23 false H (fun k' => p.fadr 24 t3 fun t' => k' t' H) fun t28 H =>
 p.guard t23 false H (fun k' => p.load false 1 t28 H fun t' => k' t' H) fun t29 H =>
 p.guard t23 false H (fun k' => p.len t29 fun t' => k' t' H) fun t30 H =>
 p.guard t23 false H (fun k' => p.bin .neq t27 t30 fun t' => k' t' H) fun t31 H =>
 p.pick t23 (.sc (.bool true)) t31 fun t32 =>
 p.cond t32
 (k (.sc (.bool false)) H)
 (f145_l0 p n  k n t2 t3 (.sc (.int .i64 0)) H)
noncomputable def f145_L2 (p : Pr β) (n : Nat)  (k : AV → Heap → Option β) (m : Nat) (tm : Tm) (H : Heap) : Option β :=
 iterC 239 (fun tm H k => evalCode ti0 p o145 239 n (cd c145 [1, 1, 1, 1, 0, 1, 0, 0]) tm H k) (blkK 4 (seqK (fun tm H => evalCode ti0 p o145 239 n (cd c145 [1, 1, 1, 1, 1]) tm H (endK ti0 p Go.Proofs.Tryz.f145.results.toList k)) (endK ti0 p Go.Proofs.Tryz.f145.results.toList k))) m tm H
noncomputable def f145_L1 (p : Pr β) (n : Nat)  (k : AV → Heap → Option β) (m : Nat) (tm : Tm) (H : Heap) : Option β :=
 iterC 239 (fun tm H k => evalCode ti0 p o145 239 n (cd c145 [1, 1, 1, 0, 1, 0, 0]) tm H k) (blkK 2 (seqK (fun tm H => evalCode ti0 p o145 239 n (cd c145 [1, 1, 1, 1]) tm H (endK ti0 p Go.Proofs.Tryz.f145.results.toList k)) (endK ti0 p Go.Proofs.Tryz.f145.results.toList k))) m tm H
noncomputable def f145_L0 (p : Pr β) (n : Nat)  (k : AV → Heap → Option β) (m : Nat) (tm : Tm) (H : Heap) : Option β :=
 iterC 239 (fun tm H k => evalCode ti0 p o145 239 n (cd c145 [1, 1, 0, 1, 0, 0]) tm H k) (blkK 0 (seqK (fun tm H => evalCode ti0 p o145 239 n (cd c145 [1, 1, 1]) tm H (endK ti0 p Go.Proofs.Tryz.f145.results.toList k)) (endK ti0 p Go.Proofs.Tryz.f145.results.toList k))) m tm H
theorem f145_L2_step (p : Pr β) (n : Nat)  (k : AV → Heap → Option β) (m2 : Nat) (t : Nat → AV) (H : Heap) : f145_L2 p n  k (m2 + 1) (tf 239 0 t) H =
 p.fadr 24 (t 2) fun t70 =>
 p.load false 1 t70 H fun t71 =>
 p.len t71 fun t72 =>
 p.bin .lss (t 7) t72 fun t73 =>
 p.cond t73
 (p.fadr 24 (t 2) fun t76 =>
 p.load false 1 t76 H fun t77 =>
 p.iadr 1 t77 (t 7) fun t79 =>
 p.load false 1 t79 H fun t80 =>
 p.fadr 24 (t 3) fun t81 =>
 p.load false 1 t81 H fun t82 =>
 p.iadr 1 t82 (t 7) fun t84 =>
 p.load false 1 t84 H fun t85 =>
 p.bin .neq t80 t85 fun t86 =>
 p.cond t86
 (k (.sc (.bool false)) H)
 (p.bin .add (t 7) (.sc (.int .i64 1)) fun t75 =>
 f145_L2 p n  k m2 (tf 239 0 (ud [(7, t75), (69, (t 7)), (70, t70), (71, t71), (72, t72), (73, t73), (74, (t 7)), (75, t75), (76, t76), (77, t77), (78, (t 7)), (79, t79), (80, t80), (81, t81), (82, t82), (83, (t 7)), (84, t84), (85, t85), (86, t86)] t)) H))
 (p.fadr 0 (t 2) fun t87 =>
 p.load false 1 t87 H fun t88 =>
 p.fadr 0 (t 3) fun t89 =>
 p.load false 1 t89 H fun t90 =>
 p.bin .eql t88 t90 fun t91 =>
 p.guard t91 true H (fun k' => p.fadr 1 (t 2) fun t' => k' t' H) fun t93 H =>
 p.guard t91 true H (fun k' => p.load false 1 t93 H fun t' => k' t' H) fun t94 H =>
 p.guard t91 true H (fun k' => p.fadr 1 (t 3) fun t' => k' t' H) fun t95 H =>
 p.guard t91 true H (fun k' => p.load false 1 t95 H fun t' => k' t' H) fun t96 H =>
 p.guard t91 true H (fun k' => p.binB .eql t94 t96 fun t' => k' t' H) fun t97 H =>
 p.pick t91 t97 (.sc (.bool false)) fun t98 =>
 p.guard t98 true H (fun k' => p.fadr 2 (t 2) fun t' => k' t' H) fun t100 H =>
 p.guard t98 true H (fun k' => p.load false 1 t100 H fun t' => k' t' H) fun t101 H =>
 p.guard t98 true H (fun k' => p.fadr 2 (t 3) fun t' => k' t' H) fun t102 H =>
 p.guard t98 true H (fun k' => p.load false 1 t102 H fun t' => k' t' H) fun t103 H =>
 p.guard t98 true H (fun k' => p.bin .eql t101 t103 fun t' => k' t' H) fun t104 H =>
 p.pick t98 t104 (.sc (.bool false)) fun t105 =>
 p.guard t105 true H (fun k' => p.fadr 3 (t 2) fun t' => k' t' H) fun t107 H =>
 p.guard t105 true H (fun k' => p.load false 1 t107 H fun t' => k' t' H) fun t108 H =>
 p.guard t105 true H (fun k' => p.fadr 3 (t 3) fun t' => k' t' H) fun t109 H =>
 p.guard t105 true H (fun k' => p.load false 1 t109 H fun t' => k' t' H) fun t110 H =>
 p.guard t105 true H (fun k' => p.binB .eql t108 t110 fun t' => k' t' H) fun t111 H =>
 p.pick t105 t111 (.sc (.bool false)) fun t112 =>
 p.guard t112 true H (fun k' => p.fadr 4 (t 2) fun t' => k' t' H) fun t114 H =>
 p.guard t112 true H (fun k' => p.load false 1 t114 H fun t' => k' t' H) fun t115 H =>
 p.guard t112 true H (fun k' => p.fadr 4 (t 3) fun t' => k' t' H) fun t116 H =>
 p.guard t112 true H (fun k' => p.load false 1 t116 H fun t' => k' t' H) fun t117 H =>
 p.guard t112 true H (fun k' => p.bin .eql t115 t117 fun t' => k' t' H) fun t118 H =>
 p.pick t112 t118 (.sc (.bool false)) fun t119 =>
 p.guard t119 true H (fun k' => p.fadr 5 (t 2) fun t' => k' t' H) fun t121 H =>
 p.guard t119 true H (fun k' => p.load false 1 t121 H fun t' => k' t' H) fun t122 H =>
 p.guard t119 true H (fun k' => p.fadr 5 (t 3) fun t' => k' t' H) fun t123 H =>
 p.guard t119 true H (fun k' => p.load false 1 t123 H fun t' => k' t' H) fun t124 H =>
 p.guard t119 true H (fun k' => p.bin .eql t122 t124 fun t' => k' t' H) fun t125 H =>
 p.pick t119 t125 (.sc (.bool false)) fun t126 =>
 p.guard t126 true H (fun k' => p.fadr 6 (t 2) fun t' => k' t' H) fun t128 H =>
 p.guard t126 true H (fun k' => p.load false 1 t128 H fun t' => k' t' H) fun t129 H =>
 p.guard t126 true H (fun k' => p.fadr 6 (t 3) fun t' => k' t' H) fun t130 H =>
 p.guard t126 true H (fun k' => p.load false 1 t130 H fun t' => k' t' H) fun t131 H =>
 p.guard t126 true H (fun k' => p.call 4 (.fn 161 [] []) [t129, t131] H fun t' H => k' t' H) fun t132 H =>
 p.pick t126 t132 (.sc (.bool false)) fun t133 =>
 p.guard t133 true H (fun k' => p.fadr 7 (t 2) fun t' => k' t' H) fun t135 H =>
 p.guard t133 true H (fun k' => p.load false 1 t135 H fun t' => k' t' H) fun t136 H =>
 p.guard t133 true H (fun k' => p.fadr 7 (t 3) fun t' => k' t' H) fun t137 H =>
 p.guard t133 true H (fun k' => p.load false 1 t137 H fun t' => k' t' H) fun t138 H =>
 p.guard t133 true H (fun k' => p.bin .eql t136 t138 fun t' => k' t' H) fun t139 H =>
 p.pick t133 t139 (.sc (.bool false)) fun t140 =>
 p.guard t140 true H (fun k' => p.fadr 8 (t 2) fun t' => k' t' H) fun t142 H =>
 p.guard t140 true H (fun k' => p.load false 1 t142 H fun t' => k' t' H) fun t143 H =>
 p.guard t140 true H (fun k' => p.fadr 8 (t 3) fun t' => k' t' H) fun t144 H =>
 p.guard t140 true H (fun k' => p.load false 1 t144 H fun t' => k' t' H) fun t145 H =>
 p.guard t140 true H (fun k' => p.bin .eql t143 t145 fun t' => k' t' H) fun t146 H =>
 p.pick t140 t146 (.sc (.bool false)) fun t147 =>
 p.guard t147 true H (fun k' => p.fadr 9 (t 2) fun t' => k' t' H) fun t149 H =>
 p.guard t147 true H (fun k' => p.load false 1 t149 H fun t' => k' t' H) fun t150 H =>
 p.guard t147 true H (fun k' => p.fadr 9 (t 3) fun t' => k' t' H) fun t151 H =>
 p.guard t147 true H (fun k' => p.load false 1 t151 H fun t' => k' t' H) fun t152 H =>
 p.guard t147 true H (fun k' => p.binB .eql t150 t152 fun t' => k' t' H) fun t153 H =>
 p.pick t147 t153 (.sc (.bool false)) fun t154 =>
 p.guard t154 true H (fun k' => p.fadr 10 (t 2) fun t' => k' t' H) fun t156 H =>
 p.guard t154 true H (fun k' => p.load false 1 t156 H fun t' => k' t' H) fun t157 H =>
 p.guard t154 true H (fun k' => p.fadr 10 (t 3) fun t' => k' t' H) fun t158 H =>
 p.guard t154 true H (fun k' => p.load false 1 t158 H fun t' => k' t' H) fun t159 H =>
 p.guard t154 true H (fun k' => p.bin .eql t157 t159 fun t' => k' t' H) fun t160 H =>
 p.pick t154 t160 (.sc (.bool false)) fun t161 =>
 p.guard t161 true H (fun k' => p.fadr 11 (t 2) fun t' => k' t' H) fun t163 H =>
 p.guard t161 true H (fun k' => p.load false 1 t163 H fun t' => k' t' H) fun t164 H =>
 p.guard t161 true H (fun k' => p.fadr 11 (t 3) fun t' => k' t' H) fun t165 H =>
 p.guard t161 true H (fun k' => p.load false 1 t165 H fun t' => k' t' H) fun t166 H =>
 p.guard t161 true H (fun k' => p.binB .eql t164 t166 fun t' => k' t' H) fun t167 H =>
 p.pick t161 t167 (.sc (.bool false)) fun t168 =>
 p.guard t168 true H (fun k' => p.fadr 12 (t 2) fun t' => k' t' H) fun t170 H =>
 p.guard t168 true H (fun k' => p.load false 1 t170 H fun t' => k' t' H) fun t171 H =>
 p.guard t168 true H (fun k' => p.fadr 12 (t 3) fun t' => k' t' H) fun t172 H =>
 p.guard t168 true H (fun k' => p.load false 1 t172 H fun t' => k' t' H) fun t173 H =>
 p.guard t168 true H (fun k' => p.bin .eql t171 t173 fun t' => k' t' H) fun t174 H =>
 p.pick t168 t174 (.sc (.bool false)) fun t175 =>
 p.guard t175 true H (fun k' => p.fadr 13 (t 2) fun t' => k' t' H) fun t177 H =>
 p.guard t175 true H (fun k' => p.load false 1 t177 H fun t' => k' t' H) fun t178 H =>
 p.guard t175 true H (fun k' => p.fadr 13 (t 3) fun t' => k' t' H) fun t179 H =>
 p.guard t175 true H (fun k' => p.load false 1 t179 H fun t' => k' t' H) fun t180 H =>
 p.guard t175 true H (fun k' => p.call 4 (.fn 161 [] []) [t178, t180] H fun t' H => k' t' H) fun t181 H =>
 p.pick t175 t181 (.sc (.bool false)) fun t182 =>
 p.guard t182 true H (fun k' => p.fadr 14 (t 2) fun t' => k' t' H) fun t184 H =>
 p.guard t182 true H (fun k' => p.load false 1 t184 H fun t' => k' t' H) fun t185 H =>
 p.guard t182 true H (fun k' => p.fadr 14 (t 3) fun t' => k' t' H) fun t186 H =>
 p.guard t182 true H (fun k' => p.load false 1 t186 H fun t' => k' t' H) fun t187 H =>
 p.guard t182 true H (fun k' => p.bin .eql t185 t187 fun t' => k' t' H) fun t188 H =>
 p.pick t182 t188 (.sc (.bool false)) fun t189 =>
 p.guard t189 true H (fun k' => p.fadr 15 (t 2) fun t' => k' t' H) fun t191 H =>
 p.guard t189 true H (fun k' => p.load false 1 t191 H fun t' => k' t' H) fun t192 H =>
 p.guard t189 true H (fun k' => p.fadr 15 (t 3) fun t' => k' t' H) fun t193 H =>
 p.guard t189 true H (fun k' => p.load false 1 t193 H fun t' => k' t' H) fun t194 H =>
 p.guard t189 true H (fun k' => p.binB .eql t192 t194 fun t' => k' t' H) fun t195 H =>
 p.pick t189 t195 (.sc (.bool false)) fun t196 =>
 p.guard t196 true H (fun k' => p.fadr 16 (t 2) fun t' => k' t' H) fun t198 H =>
 p.guard t196 true H (fun k' => p.load false 1 t198 H fun t' => k' t' H) fun t199 H =>
 p.guard t196 true H (fun k' => p.fadr 16 (t 3) fun t' => k' t' H) fun t200 H =>
 p.guard t196 true H (fun k' => p.load false 1 t200 H fun t' => k' t' H) fun t201 H =>
 p.guard t196 true H (fun k' => p.binB .eql t199 t201 fun t' => k' t' H) fun t202 H =>
 p.pick t196 t202 (.sc (.bool false)) fun t203 =>
 p.guard t203 true H (fun k' => p.fadr 17 (t 2) fun t' => k' t' H) fun t205 H =>
 p.guard t203 true H (fun k' => p.load false 1 t205 H fun t' => k' t' H) fun t206 H =>
 p.guard t203 true H (fun k' => p.fadr 17 (t 3) fun t' => k' t' H) fun t207 H =>
 p.guard t203 true H (fun k' => p.load false 1 t207 H fun t' => k' t' H) fun t208 H =>
 p.guard t203 true H (fun k' => p.bin .eql t206 t208 fun t' => k' t' H) fun t209 H =>
 p.pick t203 t209 (.sc (.bool false)) fun t210 =>
 p.guard t210 true H (fun k' => p.fadr 18 (t 2) fun t' => k' t' H) fun t212 H =>
 p.guard t210 true H (fun k' => p.load false 1 t212 H fun t' => k' t' H) fun t213 H =>
 p.guard t210 true H (fun k' => p.fadr 18 (t 3) fun t' => k' t' H) fun t214 H =>
 p.guard t210 true H (fun k' => p.load false 1 t214 H fun t' => k' t' H) fun t215 H =>
 p.guard t210 true H (fun k' => p.binB .eql t213 t215 fun t' => k' t' H) fun t216 H =>
 p.pick t210 t216 (.sc (.bool false)) fun t217 =>
 p.guard t217 true H (fun k' => p.fadr 19 (t 2) fun t' => k' t' H) fun t219 H =>
 p.guard t217 true H (fun k' => p.load false 1 t219 H fun t' => k' t' H) fun t220 H =>
 p.guard t217 true H (fun k' => p.fadr 19 (t 3) fun t' => k' t' H) fun t221 H =>
 p.guard t217 true H (fun k' => p.load false 1 t221 H fun t' => k' t' H) fun t222 H =>
 p.guard t217 true H (fun k' => p.call 4 (.fn 161 [] []) [t220, t222] H fun t' H => k' t' H) fun t223 H =>
 p.pick t217 t223 (.sc (.bool false)) fun t224 =>
 p.guard t224 true H (fun k' => p.fadr 20 (t 2) fun t' => k' t' H) fun t226 H =>
 p.guard t224 true H (fun k' => p.load false 1 t226 H fun t' => k' t' H) fun t227 H =>
 p.guard t224 true H (fun k' => p.fadr 20 (t 3) fun t' => k' t' H) fun t228 H =>
 p.guard t224 true H (fun k' => p.load false 1 t228 H fun t' => k' t' H) fun t229 H =>
 p.guard t224 true H (fun k' => p.bin .eql t227 t229 fun t' => k' t' H) fun t230 H =>
 p.pick t224 t230 (.sc (.bool false)) fun t231 =>
 p.guard t231 true H (fun k' => p.fadr 21 (t 2) fun t' => k' t' H) fun t233 H =>
 p.guard t231 true H (fun k' => p.load false 1 t233 H fun t' => k' t' H) fun t234 H =>
 p.guard t231 true H (fun k' => p.fadr 21 (t 3) fun t' => k' t' H) fun t235 H =>
 p.guard t231 true H (fun k' => p.load false 1 t235 H fun t' => k' t' H) fun t236 H =>
 p.guard t231 true H (fun k' => p.binB .eql t234 t236 fun t' => k' t' H) fun t237 H =>
 p.pick t231 t237 (.sc (.bool false)) fun t238 =>
 k t238 H) := by kernel_rfl
theorem f145_l2_eq (p : Pr β) (n : Nat)  (k : AV → Heap → Option β)   (m2 : Nat) : ∀ (t : Nat → AV) (H : Heap), f145_L2 p n  k m2 (tf 239 0 t) H = f145_l2 p n  k m2 (t 2) (t 3) (t 7) H := by
 induction m2 with
 | zero => intros; rfl
 | succ m2 ih =>
  intro t H
  rw [f145_L2_step]
  simp only [ih]
  kernel_rfl
theorem f145_L1_step (p : Pr β) (n : Nat)  (k : AV → Heap → Option β) (m1 : Nat) (t : Nat → AV) (H : Heap) : f145_L1 p n  k (m1 + 1) (tf 239 0 t) H =
 p.fadr 23 (t 2) fun t52 =>
 p.load false 1 t52 H fun t53 =>
 p.len t53 fun t54 =>
 p.bin .lss (t 6) t54 fun t55 =>
 p.cond t55
 (p.fadr 23 (t 2) fun t58 =>
 p.load false 1 t58 H fun t59 =>
 p.iadr 1 t59 (t 6) fun t61 =>
 p.load false 1 t61 H fun t62 =>
 p.fadr 23 (t 3) fun t63 =>
 p.load false 1 t63 H fun t64 =>
 p.iadr 1 t64 (t 6) fun t66 =>
 p.load false 1 t66 H fun t67 =>
 p.bin .neq t62 t67 fun t68 =>
 p.cond t68
 (k (.sc (.bool false)) H)
 (p.bin .add (t 6) (.sc (.int .i64 1)) fun t57 =>
 f145_L1 p n  k m1 (tf 239 0 (ud [(6, t57), (51, (t 6)), (52, t52), (53, t53), (54, t54), (55, t55), (56, (t 6)), (57, t57), (58, t58), (59, t59), (60, (t 6)), (61, t61), (62, t62), (63, t63), (64, t64), (65, (t 6)), (66, t66), (67, t67), (68, t68)] t)) H))
 (f145_L2 p n  k n (tf 239 0 (ud [(7, (.sc (.int .i64 0))), (51, (t 6)), (52, t52), (53, t53), (54, t54), (55, t55)] t)) H) := by kernel_rfl
theorem f145_l1_eq (p : Pr β) (n : Nat)  (k : AV → Heap → Option β)   (m1 : Nat) : ∀ (t : Nat → AV) (H : Heap), f145_L1 p n  k m1 (tf 239 0 t) H = f145_l1 p n  k m1 (t 2) (t 3) (t 6) H := by
 induction m1 with
 | zero => intros; rfl
 | succ m1 ih =>
  intro t H
  rw [f145_L1_step]
  simp only [ih, f145_l2_eq p n  k  ]
  kernel_rfl
theorem f145_L0_step (p : Pr β) (n : Nat)  (k : AV → Heap → Option β) (m0 : Nat) (t : Nat → AV) (H : Heap) : f145_L0 p n  k (m0 + 1) (tf 239 0 t) H =
 p.fadr 22 (t 2) fun t34 =>
 p.load false 1 t34 H fun t35 =>
 p.len t35 fun t36 =>
 p.bin .lss (t 5) t36 fun t37 =>
 p.cond t37
 (p.fadr 22 (t 2) fun t40 =>
 p.load false 1 t40 H fun t41 =>
 p.iadr 2 t41 (t 5) fun t43 =>
 p.load true 2 t43 H fun t44 =>
 p.fadr 22 (t 3) fun t45 =>
 p.load false 1 t45 H fun t46 =>
 p.iadr 2 t46 (t 5) fun t48 =>
 p.load true 2 t48 H fun t49 =>
 p.binA .neq [1, 0] t44 t49 fun t50 =>
 p.cond t50
 (k (.sc (.bool false)) H)
 (p.bin .add (t 5) (.sc (.int .i64 1)) fun t39 =>
 f145_L0 p n  k m0 (tf 239 0 (ud [(5, t39), (33, (t 5)), (34, t34), (35, t35), (36, t36), (37, t37), (38, (t 5)), (39, t39), (40, t40), (41, t41), (42, (t 5)), (43, t43), (44, t44), (45, t45), (46, t46), (47, (t 5)), (48, t48), (49, t49), (50, t50)] t)) H))
 (f145_L1 p n  k n (tf 239 0 (ud [(6, (.sc (.int .i64 0))), (33, (t 5)), (34, t34), (35, t35), (36, t36), (37, t37)] t)) H) := by kernel_rfl
theorem f145_l0_eq (p : Pr β) (n : Nat)  (k : AV → Heap → Option β)   (m0 : Nat) : ∀ (t : Nat → AV) (H : Heap), f145_L0 p n  k m0 (tf 239 0 t) H = f145_l0 p n  k m0 (t 2) (t 3) (t 5) H := by
 induction m0 with
 | zero => intros; rfl
 | succ m0 ih =>
  intro t H
  rw [f145_L0_step]
  simp only [ih, f145_l2_eq p n  k  , f145_l1_eq p n  k  ]
  kernel_rfl
theorem f145_raw (p : Pr β) (n : Nat) (a0 a1 : AV) (H : Heap) (k : AV → Heap → Option β) : evalBody ti0 p n ⟨c145, 239, Go.Proofs.Tryz.f145.results.toList, o145⟩ [a0, a1] H k =
 p.box a0 H fun t2 H =>
 p.box a1 H fun t3 H =>
 p.fadr 22 t2 fun t8 =>
 p.load false 1 t8 H fun t9 =>
 p.len t9 fun t10 =>
 p.fadr 22 t3 fun t11 =>
 p.load false 1 t11 H fun t12 =>
 p.len t12 fun t13 =>
 p.bin .neq t10 t13 fun t14 =>
 p.guard t14 false H (fun k' => p.fadr 23 t2 fun t' => k' t' H) fun t16 H =>
 p.guard t14 false H (fun k' => p.load false 1 t16 H fun t' => k' t' H) fun t17 H =>
 p.guard t14 false H (fun k' => p.len t17 fun t' => k' t' H) fun t18 H =>
 p.guard t14 false H (fun k' => p.fadr 23 t3 fun t' => k' t' H) fun t19 H =>
 p.guard t14 false H (fun k' => p.load false 1 t19 H fun t' => k' t' H) fun t20 H =>
 p.guard t14 false H (fun k' => p.len t20 fun t' => k' t' H) fun t21 H =>
 p.guard t14 false H (fun k' => p.bin .neq t18 t21 fun t' => k' t' H) fun t22 H =>
 p.pick t14 (.sc (.bool true)) t22 fun t23 =>
 p.guard t23 false H (fun k' => p.fadr 24 t2 fun t' => k' t' H) fun t25 H =>
 p.guard t23 false H (fun k' => p.load false 1 t25 H fun t' => k' t' H) fun t26 H =>
 p.guard t23 false H (fun k' => p.len t26 fun t' => k' t' H) fun t27 H =>
 p.guard t23 false H (fun k' => p.fadr 24 t3 fun t' => k' t' H) fun t28 H =>
 p.guard t23 false H (fun k' => p.load false 1 t28 H fun t' => k' t' H) fun t29 H =>
 p.guard t23 false H (fun k' => p.len t29 fun t' => k' t' H) fun t30 H =>
 p.guard t23 false H (fun k' => p.bin .neq t27 t30 fun t' => k' t' H) fun t31 H =>
 p.pick t23 (.sc (.bool true)) t31 fun t32 =>
 p.cond t32
 (k (.sc (.bool false)) H)
 (f145_L0 p n  k n (tf 239 0 (ud [(0, a0), (1, a1), (2, t2), (3, t3), (4, (.sc (.bool false))), (5, (.sc (.int .i64 0))), (8, t8), (9, t9), (10, t10), (11, t11), (12, t12), (13, t13), (14, t14), (15, t14), (16, t16), (17, t17), (18, t18), (19, t19), (20, t20), (21, t21), (22, t22), (23, t23), (24, t23), (25, t25), (26, t26), (27, t27), (28, t28), (29, t29), (30, t30), (31, t31), (32, t32)] ut)) H) := by kernel_rfl
theorem f145_body (p : Pr β) (n : Nat) (a0 a1 : AV) (H : Heap) (k : AV → Heap → Option β) : evalBody ti0 p n ⟨c145, 239, Go.Proofs.Tryz.f145.results.toList, o145⟩ [a0, a1] H k = f145 p n a0 a1 H k := by
 rw [f145_raw]
 simp only [f145_l2_eq, f145_l1_eq, f145_l0_eq]
 kernel_rfl
noncomputable def f147_l0 (p : Pr β) (n : Nat)  (k : AV → Heap → Option β) : Nat → AV → AV → AV → Heap → Option β
 | 0, _, _, _, _ => none
 | m + 1, t0, t3, t4, H => p.len t3 fun t9 =>
   p.bin .lss t4 t9 fun t10 =>
   p.cond t10
   (p.iadr 1 t3 t4 fun t15 =>
   p.load false 1 t15 H fun t16 =>
   p.call 4 (.fn 159 [] []) [t16, (.sc (.int .u8 43))] H fun t17 H =>
   p.guard t17 true H (fun k' => k' t3 H) fun t19 H =>
   p.guard t17 true H (fun k' => k' t4 H) fun t20 H =>
   p.guard t17 true H (fun k' => p.iadr 1 t19 t20 fun t' => k' t' H) fun t21 H =>
   p.guard t17 true H (fun k' => p.load false 1 t21 H fun t' => k' t' H) fun t22 H =>
   p.guard t17 true H (fun k' => p.bin .neq t22 (.sc (.string ⟨#[43]⟩)) fun t' => k' t' H) fun t23 H =>
   p.pick t17 t23 (.sc (.bool false)) fun t24 =>
   p.guard t24 false H (fun k' => k' t3 H) fun t26 H =>
   p.guard t24 false H (fun k' => k' t4 H) fun t27 H =>
   p.guard t24 false H (fun k' => p.iadr 1 t26 t27 fun t' => k' t' H) fun t28 H =>
   p.guard t24 false H (fun k' => p.load false 1 t28 H fun t' => k' t' H) fun t29 H =>
   p.guard t24 false H (fun k' => p.call 4 (.fn 159 [] []) [t29, (.sc (.int .u8 35))] H fun t' H => k' t' H) fun t30 H =>
   p.guard t24 false H (fun k' => k' t30 H) fun t31 H =>
   p.guard t31 true H (fun k' => k' t3 H) fun t32 H =>
   p.guard t31 true H (fun k' => k' t4 H) fun t33 H =>
   p.guard t31 true H (fun k' => p.iadr 1 t32 t33 fun t' => k' t' H) fun t34 H =>
   p.guard t31 true H (fun k' => p.load false 1 t34 H fun t' => k' t' H) fun t35 H =>
   p.guard t31 true H (fun k' => p.bin .neq t35 (.sc (.string ⟨#[35]⟩)) fun t' => k' t' H) fun t36 H =>
   p.guard t31 true H (fun k' => k' t36 H) fun t37 H =>
   p.guard t37 false H (fun k' => k' t4 H) fun t38 H =>
   p.guard t37 false H (fun k' => k' t3 H) fun t39 H =>
   p.guard t37 false H (fun k' => p.len t39 fun t' => k' t' H) fun t40 H =>
   p.guard t37 false H (fun k' => p.bin .sub t40 (.sc (.int .i64 1)) fun t' => k' t' H) fun t41 H =>
   p.guard t37 false H (fun k' => p.bin .lss t38 t41 fun t' => k' t' H) fun t42 H =>
   p.guard t31 true H (fun k' => p.pick t37 (.sc (.bool true)) t42 fun t' => k' t' H) fun t43 H =>
   p.guard t24 false H (fun k' => p.pick t31 t43 (.sc (.bool false)) fun t' => k' t' H) fun t44 H =>
   p.pick t24 (.sc (.bool true)) t44 fun t45 =>
   p.cond t45
   (k (.sc (.bool false)) H)
   (p.bin .add t4 (.sc (.int .i64 1)) fun t12 =>
   f147_l0 p n  k m t0 t3 t12 H))
   (p.call 4 (.fn 108 [] []) [t0] H fun t47 H =>
   p.guard t47 true H (fun k' => k' t0 H) fun t49 H =>
   p.guard t47 true H (fun k' => p.bin .neq t49 (.sc (.string ⟨#[]⟩)) fun t' => k' t' H) fun t50 H =>
   p.pick t47 t50 (.sc (.bool false)) fun t51 =>
   p.guard t51 true H (fun k' => k' t3 H) fun t53 H =>
   p.guard t51 true H (fun k' => p.len t53 fun t' => k' t' H) fun t54 H =>
   p.guard t51 true H (fun k' => p.bin .leq t54 (.sc (.int .i64 6)) fun t' => k' t' H) fun t55 H =>
   p.pick t51 t55 (.sc (.bool false)) fun t56 =>
   k t56 H)
noncomputable def f147 (p : Pr β) (n : Nat) (a0 : AV) (H : Heap) (k : AV → Heap → Option β) : Option β :=
 p.call 64 (.fn 160 [] []) [a0] H fun t6 H =>
 f147_l0 p n  k n a0 t6 (.sc (.int .i64 0)) H
noncomputable def f147_L0 (p : Pr β) (n : Nat)  (k : AV → Heap → Option β) (m : Nat) (tm : Tm) (H : Heap) : Option β :=
 iterC 57 (fun tm H k => evalCode ti0 p o147 57 n (cd c147 [1, 1, 0, 1, 0, 0]) tm H k) (blkK 0 (seqK (fun tm H => evalCode ti0 p o147 57 n (cd c147 [1, 1, 1]) tm H (endK ti0 p Go.Proofs.Tryz.f147.results.toList k)) (endK ti0 p Go.Proofs.Tryz.f147.results.toList k))) m tm H
theorem f147_L0_step (p : Pr β) (n : Nat)  (k : AV → Heap → Option β) (m0 : Nat) (t : Nat → AV) (H : Heap) : f147_L0 p n  k (m0 + 1) (tf 57 0 t) H =
 p.len (t 3) fun t9 =>
 p.bin .lss (t 4) t9 fun t10 =>
 p.cond t10
 (p.iadr 1 (t 3) (t 4) fun t15 =>
 p.load false 1 t15 H fun t16 =>
 p.call 4 (.fn 159 [] []) [t16, (.sc (.int .u8 43))] H fun t17 H =>
 p.guard t17 true H (fun k' => k' (t 3) H) fun t19 H =>
 p.guard t17 true H (fun k' => k' (t 4) H) fun t20 H =>
 p.guard t17 true H (fun k' => p.iadr 1 t19 t20 fun t' => k' t' H) fun t21 H =>
 p.guard t17 true H (fun k' => p.load false 1 t21 H fun t' => k' t' H) fun t22 H =>
 p.guard t17 true H (fun k' => p.bin .neq t22 (.sc (.string ⟨#[43]⟩)) fun t' => k' t' H) fun t23 H =>
 p.pick t17 t23 (.sc (.bool false)) fun t24 =>
 p.guard t24 false H (fun k' => k' (t 3) H) fun t26 H =>
 p.guard t24 false H (fun k' => k' (t 4) H) fun t27 H =>
 p.guard t24 false H (fun k' => p.iadr 1 t26 t27 fun t' => k' t' H) fun t28 H =>
 p.guard t24 false H (fun k' => p.load false 1 t28 H fun t' => k' t' H) fun t29 H =>
 p.guard t24 false H (fun k' => p.call 4 (.fn 159 [] []) [t29, (.sc (.int .u8 35))] H fun t' H => k' t' H) fun t30 H =>
 p.guard t24 false H (fun k' => k' t30 H) fun t31 H =>
 p.guard t31 true H (fun k' => k' (t 3) H) fun t32 H =>
 p.guard t31 true H (fun k' => k' (t 4) H) fun t33 H =>
 p.guard t31 true H (fun k' => p.iadr 1 t32 t33 fun t' => k' t' H) fun t34 H =>
 p.guard t31 true H (fun k' => p.load false 1 t34 H fun t' => k' t' H) fun t35 H =>
 p.guard t31 true H (fun k' => p.bin .neq t35 (.sc (.string ⟨#[35]⟩)) fun t' => k' t' H) fun t36 H =>
 p.guard t31 true H (fun k' => k' t36 H) fun t37 H =>
 p.guard t37 false H (fun k' => k' (t 4) H) fun t38 H =>
 p.guard t37 false H (fun k' => k' (t 3) H) fun t39 H =>
 p.guard t37 false H (fun k' => p.len t39 fun t' => k' t' H) fun t40 H =>
 p.guard t37 false H (fun k' => p.bin .sub t40 (.sc (.int .i64 1)) fun t' => k' t' H) fun t41 H =>
 p.guard t37 false H (fun k' => p.bin .lss t38 t41 fun t' => k' t' H) fun t42 H =>
 p.guard t31 true H (fun k' => p.pick t37 (.sc (.bool true)) t42 fun t' => k' t' H) fun t43 H =>
 p.guard t24 false H (fun k' => p.pick t31 t43 (.sc (.bool false)) fun t' => k' t' H) fun t44 H =>
 p.pick t24 (.sc (.bool true)) t44 fun t45 =>
 p.cond t45
 (k (.sc (.bool false)) H)
 (p.bin .add (t 4) (.sc (.int .i64 1)) fun t12 =>
 f147_L0 p n  k m0 (tf 57 0 (ud [(4, t12), (7, (t 4)), (8, (t 3)), (9, t9), (10, t10), (11, (t 4)), (12, t12), (13, (t 3)), (14, (t 4)), (15, t15), (16, t16), (17, t17), (18, t17), (19, t19), (20, t20), (21, t21), (22, t22), (23, t23), (24, t24), (25, t24), (26, t26), (27, t27), (28, t28), (29, t29), (30, t30), (31, t31), (32, t32), (33, t33), (34, t34), (35, t35), (36, t36), (37, t37), (38, t38), (39, t39), (40, t40), (41, t41), (42, t42), (43, t43), (44, t44), (45, t45)] t)) H))
 (p.call 4 (.fn 108 [] []) [(t 0)] H fun t47 H =>
 p.guard t47 true H (fun k' => k' (t 0) H) fun t49 H =>
 p.guard t47 true H (fun k' => p.bin .neq t49 (.sc (.string ⟨#[]⟩)) fun t' => k' t' H) fun t50 H =>
 p.pick t47 t50 (.sc (.bool false)) fun t51 =>
 p.guard t51 true H (fun k' => k' (t 3) H) fun t53 H =>
 p.guard t51 true H (fun k' => p.len t53 fun t' => k' t' H) fun t54 H =>
 p.guard t51 true H (fun k' => p.bin .leq t54 (.sc (.int .i64 6)) fun t' => k' t' H) fun t55 H =>
 p.pick t51 t55 (.sc (.bool false)) fun t56 =>
 k t56 H) := by kernel_rfl
theorem f147_l0_eq (p : Pr β) (n : Nat)  (k : AV → Heap → Option β)   (m0 : Nat) : ∀ (t : Nat → AV) (H : Heap), f147_L0 p n  k m0 (tf 57 0 t) H = f147_l0 p n  k m0 (t 0) (t 3) (t 4) H := by
 induction m0 with
 | zero => intros; rfl
 | succ m0 ih =>
  intro t H
  rw [f147_L0_step]
  simp only [ih]
  kernel_rfl
theorem f147_raw (p : Pr β) (n : Nat) (a0 : AV) (H : Heap) (k : AV → Heap → Option β) : evalBody ti0 p n ⟨c147, 57, Go.Proofs.Tryz.f147.results.toList, o147⟩ [a0] H k =
 p.call 64 (.fn 160 [] []) [a0] H fun t6 H =>
 f147_L0 p n  k n (tf 57 0 (ud [(0, a0), (2, (.sc (.bool false))), (3, t6), (4, (.sc (.int .i64 0))), (5, a0), (6, t6)] ut)) H := by kernel_rfl
theorem f147_body (p : Pr β) (n : Nat) (a0 : AV) (H : Heap) (k : AV → Heap → Option β) : evalBody ti0 p n ⟨c147, 57, Go.Proofs.Tryz.f147.results.toList, o147⟩ [a0] H k = f147 p n a0 H k := by
 rw [f147_raw]
 simp only [f147_l0_eq]
 kernel_rfl
noncomputable def f121_l0 (p : Pr β) (n : Nat)  (k : AV → Heap → Option β) : Nat → AV → AV → AV → Heap → Option β
 | 0, _, _, _, _ => none
 | m + 1, t1, t3, t4, H => p.fadr 22 t1 fun t105 =>
   p.load false 1 t105 H fun t106 =>
   p.len t106 fun t107 =>
   p.bin .lss t4 t107 fun t108 =>
   p.cond t108
   (p.fadr 22 t1 fun t111 =>
   p.load false 1 t111 H fun t112 =>
   p.iadr 2 t112 t4 fun t114 =>
   p.fadr 0 t114 fun t115 =>
   p.load false 1 t115 H fun t116 =>
   p.call 4 (.fn 147 [] []) [t116] H fun t117 H =>
   p.un .not t117 fun t118 =>
   p.guard t118 false H (fun k' => p.fadr 22 t1 fun t' => k' t' H) fun t120 H =>
   p.guard t118 false H (fun k' => p.load false 1 t120 H fun t' => k' t' H) fun t121 H =>
   p.guard t118 false H (fun k' => k' t4 H) fun t122 H =>
   p.guard t118 false H (fun k' => p.iadr 2 t121 t122 fun t' => k' t' H) fun t123 H =>
   p.guard t118 false H (fun k' => p.fadr 1 t123 fun t' => k' t' H) fun t124 H =>
   p.guard t118 false H (fun k' => p.load false 1 t124 H fun t' => k' t' H) fun t125 H =>
   p.guard t118 false H (fun k' => p.call 4 (.fn 109 [] []) [t125, (.sc (.int .i64 0)), (.sc (.int .i64 2))] H fun t' H => k' t' H) fun t126 H =>
   p.guard t118 false H (fun k' => p.un .not t126 fun t' => k' t' H) fun t127 H =>
   p.pick t118 (.sc (.bool true)) t127 fun t128 =>
   p.cond t128
   (k (.sc (.bool false)) H)
   (p.bin .add t4 (.sc (.int .i64 1)) fun t110 =>
   f121_l0 p n  k m t1 t3 t110 H))
   (p.guard t3 true H (fun k' => p.fadr 22 t1 fun t' => k' t' H) fun t131 H =>
   p.guard t3 true H (fun k' => p.load false 1 t131 H fun t' => k' t' H) fun t132 H =>
   p.guard t3 true H (fun k' => p.len t132 fun t' => k' t' H) fun t133 H =>
   p.guard t3 true H (fun k' => p.call 4 (.fn 109 [] []) [t133, (.sc (.int .i64 1)), (.sc (.int .i64 4))] H fun t' H => k' t' H) fun t134 H =>
   p.pick t3 t134 (.sc (.bool false)) fun t135 =>
   k t135 H)
noncomputable def f121_l1 (p : Pr β) (n : Nat)  (k : AV → Heap → Option β) : Nat → AV → AV → AV → Heap → Option β
 | 0, _, _, _, _ => none
 | m + 1, t1, t3, t5, H => p.fadr 24 t1 fun t139 =>
   p.load false 1 t139 H fun t140 =>
   p.len t140 fun t141 =>
   p.bin .lss t5 t141 fun t142 =>
   p.cond t142
   (p.fadr 24 t1 fun t145 =>
   p.load false 1 t145 H fun t146 =>
   p.iadr 1 t146 t5 fun t148 =>
   p.load false 1 t148 H fun t149 =>
   p.call 4 (.fn 109 [] []) [t149, (.sc (.int .i64 0)), (.sc (.int .i64 2))] H fun t150 H =>
   p.un .not t150 fun t151 =>
   p.guard t151 true H (fun k' => p.fadr 24 t1 fun t' => k' t' H) fun t153 H =>
   p.guard t151 true H (fun k' => p.load false 1 t153 H fun t' => k' t' H) fun t154 H =>
   p.guard t151 true H (fun k' => k' t5 H) fun t155 H =>
   p.guard t151 true H (fun k' => p.iadr 1 t154 t155 fun t' => k' t' H) fun t156 H =>
   p.guard t151 true H (fun k' => p.load false 1 t156 H fun t' => k' t' H) fun t157 H =>
   p.guard t151 true H (fun k' => p.bin .neq t157 (.sc (.int .i64 128)) fun t' => k' t' H) fun t158 H =>
   p.pick t151 t158 (.sc (.bool false)) fun t159 =>
   p.cond t159
   (k (.sc (.bool false)) H)
   (p.bin .add t5 (.sc (.int .i64 1)) fun t144 =>
   f121_l1 p n  k m t1 t3 t144 H))
   (p.guard t3 true H (fun k' => p.fadr 24 t1 fun t' => k' t' H) fun t162 H =>
   p.guard t3 true H (fun k' => p.load false 1 t162 H fun t' => k' t' H) fun t163 H =>
   p.guard t3 true H (fun k' => p.len t163 fun t' => k' t' H) fun t164 H =>
   p.guard t3 true H (fun k' => p.call 4 (.fn 109 [] []) [t164, (.sc (.int .i64 1)), (.sc (.int .i64 4))] H fun t' H => k' t' H) fun t165 H =>
   p.pick t3 t165 (.sc (.bool false)) fun t166 =>
   k t166 H)
noncomputable def f121_l2 (p : Pr β) (n : Nat)  (k : AV → Heap → Option β) : Nat → AV → AV → AV → Heap → Option β
 | 0, _, _, _, _ => none
 | m + 1, t1, t3, t6, H => p.fadr 23 t1 fun t170 =>
   p.load false 1 t170 H fun t171 =>
   p.len t171 fun t172 =>
   p.bin .lss t6 t172 fun t173 =>
   p.cond t173
   (p.fadr 23 t1 fun t176 =>
   p.load false 1 t176 H fun t177 =>
   p.iadr 1 t177 t6 fun t179 =>
   p.load false 1 t179 H fun t180 =>
   p.call 4 (.fn 147 [] []) [t180] H fun t181 H =>
   p.un .not t181 fun t182 =>
   p.cond t182
   (k (.sc (.bool false)) H)
   (p.bin .add t6 (.sc (.int .i64 1)) fun t175 =>
   f121_l2 p n  k m t1 t3 t175 H))
   (p.guard t3 true H (fun k' => p.fadr 23 t1 fun t' => k' t' H) fun t185 H =>
   p.guard t3 true H (fun k' => p.load false 1 t185 H fun t' => k' t' H) fun t186 H =>
   p.guard t3 true H (fun k' => p.len t186 fun t' => k' t' H) fun t187 H =>
   p.guard t3 true H (fun k' => p.call 4 (.fn 109 [] []) [t187, (.sc (.int .i64 1)), (.sc (.int .i64 4))] H fun t' H => k' t' H) fun t188 H =>
   p.pick t3 t188 (.sc (.bool false)) fun t189 =>
   k t189 H)
noncomputable def f121 (p : Pr β) (n : Nat) (a0 : AV) (H : Heap) (k : AV → Heap → Option β) : Option β :=
 p.box a0 H fun t1 H =>
 p.fadr 0 t1 fun t7 =>
 p.load false 1 t7 H fun t8 =>
 p.call 4 (.fn 109 [] []) [t8, (.sc (.int .i64 1)), (.sc (.int .i64 14))] H fun t9 H =>
 p.un .not t9 fun t10 =>
 p.guard t10 false H (fun k' => p.load true 25 t1 H fun t' => k' t' H) fun t13 H =>
 p.both
 (p.guard t10 false H (fun k' => p.load true 25 t1 H fun t' => k' t' H) fun t12 H =>
 p.guard t10 false H (fun k' => p.call 66 (.fn 146 [] []) [t13] H fun t' H => k' t' H) fun t14 H =>
 p.guard t10 false H (fun k' => p.call 4 (.fn 145 [] []) [t12, t14] H fun t' H => k' t' H) fun t15 H =>
 p.guard t10 false H (fun k' => p.un .not t15 fun t' => k' t' H) fun t16 H =>
 p.pick t10 (.sc (.bool true)) t16 fun t17 =>
 p.cond t17
 (k (.sc (.bool false)) H)
 (p.fadr 4 t1 fun t18 =>
 p.load false 1 t18 H fun t19 =>
 p.call 4 (.fn 109 [] []) [t19, (.sc (.int .i64 1)), (.sc (.int .i64 65535))] H fun t20 H =>
 p.fadr 0 t1 fun t21 =>
 p.load false 1 t21 H fun t22 =>
 p.bin .eql t22 (.sc (.int .i64 1)) fun t24 =>
 p.cond t24
 (p.fadr 11 t1 fun t25 =>
 p.load false 1 t25 H fun t26 =>
 p.guard t26 true H (fun k' => p.fadr 12 t1 fun t' => k' t' H) fun t28 H =>
 p.guard t26 true H (fun k' => p.load false 1 t28 H fun t' => k' t' H) fun t29 H =>
 p.guard t26 true H (fun k' => p.call 4 (.fn 144 [] []) [t29] H fun t' H => k' t' H) fun t30 H =>
 p.guard t26 true H (fun k' => p.un .not t30 fun t' => k' t' H) fun t31 H =>
 p.guard t26 true H (fun k' => k' t31 H) fun t32 H =>
 p.guard t32 false H (fun k' => p.fadr 13 t1 fun t' => k' t' H) fun t33 H =>
 p.guard t32 false H (fun k' => p.load false 1 t33 H fun t' => k' t' H) fun t34 H =>
 p.guard t32 false H (fun k' => p.len t34 fun t' => k' t' H) fun t35 H =>
 p.guard t32 false H (fun k' => p.bin .gtr t35 (.sc (.int .i64 40)) fun t' => k' t' H) fun t36 H =>
 p.guard t26 true H (fun k' => p.pick t32 (.sc (.bool true)) t36 fun t' => k' t' H) fun t37 H =>
 p.guard t26 true H (fun k' => k' t37 H) fun t38 H =>
 p.guard t38 false H (fun k' => p.fadr 14 t1 fun t' => k' t' H) fun t39 H =>
 p.guard t38 false H (fun k' => p.load false 1 t39 H fun t' => k' t' H) fun t40 H =>
 p.guard t38 false H (fun k' => p.call 4 (.fn 109 [] []) [t40, (.sc (.int .i64 0)), (.sc (.int .i64 2))] H fun t' H => k' t' H) fun t41 H =>
 p.guard t38 false H (fun k' => p.un .not t41 fun t' => k' t' H) fun t42 H =>
 p.guard t26 true H (fun k' => p.pick t38 (.sc (.bool true)) t42 fun t' => k' t' H) fun t43 H =>
 p.pick t26 t43 (.sc (.bool false)) fun t44 =>
 p.cond t44
 (k (.sc (.bool false)) H)
 (p.fadr 8 t1 fun t45 =>
 p.load false 1 t45 H fun t46 =>
 p.call 4 (.fn 109 [] []) [t46, (.sc (.int .i64 0)), (.sc (.int .i64 255))] H fun t47 H =>
 p.guard t47 true H (fun k' => p.fadr 7 t1 fun t' => k' t' H) fun t49 H =>
 p.guard t47 true H (fun k' => p.load false 1 t49 H fun t' => k' t' H) fun t50 H =>
 p.guard t47 true H (fun k' => p.call 4 (.fn 108 [] []) [t50] H fun t' H => k' t' H) fun t51 H =>
 p.pick t47 t51 (.sc (.bool false)) fun t52 =>
 p.guard t52 true H (fun k' => p.fadr 10 t1 fun t' => k' t' H) fun t54 H =>
 p.guard t52 true H (fun k' => p.load false 1 t54 H fun t' => k' t' H) fun t55 H =>
 p.guard t52 true H (fun k' => p.call 4 (.fn 109 [] []) [t55, (.sc (.int .i64 0)), (.sc (.int .i64 65535))] H fun t' H => k' t' H) fun t56 H =>
 p.pick t52 t56 (.sc (.bool false)) fun t57 =>
 p.guard t57 true H (fun k' => p.fadr 17 t1 fun t' => k' t' H) fun t59 H =>
 p.guard t57 true H (fun k' => p.load false 1 t59 H fun t' => k' t' H) fun t60 H =>
 p.guard t57 true H (fun k' => p.call 4 (.fn 108 [] []) [t60] H fun t' H => k' t' H) fun t61 H =>
 p.pick t57 t61 (.sc (.bool false)) fun t62 =>
 p.guard t62 true H (fun k' => p.fadr 19 t1 fun t' => k' t' H) fun t64 H =>
 p.guard t62 true H (fun k' => p.load false 1 t64 H fun t' => k' t' H) fun t65 H =>
 p.guard t62 true H (fun k' => p.len t65 fun t' => k' t' H) fun t66 H =>
 p.guard t62 true H (fun k' => p.bin .leq t66 (.sc (.int .i64 60)) fun t' => k' t' H) fun t67 H =>
 p.pick t62 t67 (.sc (.bool false)) fun t68 =>
 k t68 H))
 (p.bin .eql t22 (.sc (.int .i64 2)) fun t70 =>
 p.cond t70
 (p.fadr 20 t1 fun t71 =>
 p.load false 1 t71 H fun t72 =>
 p.call 4 (.fn 109 [] []) [t72, (.sc (.int .i64 0)), (.sc (.int .i64 5))] H fun t73 H =>
 k t73 H)
 (p.bin .eql t22 (.sc (.int .i64 3)) fun t75 =>
 p.cond t75
 (p.fadr 2 t1 fun t76 =>
 p.load false 1 t76 H fun t77 =>
 p.call 4 (.fn 109 [] []) [t77, (.sc (.int .i64 0)), (.sc (.int .i64 2))] H fun t78 H =>
 p.guard t78 true H (fun k' => p.fadr 2 t1 fun t' => k' t' H) fun t80 H =>
 p.guard t78 true H (fun k' => p.load false 1 t80 H fun t' => k' t' H) fun t81 H =>
 p.guard t78 true H (fun k' => p.bin .eql t81 (.sc (.int .i64 0)) fun t' => k' t' H) fun t82 H =>
 p.guard t78 true H (fun k' => k' t82 H) fun t83 H =>
 p.guard t83 false H (fun k' => k' t20 H) fun t84 H =>
 p.guard t78 true H (fun k' => p.pick t83 (.sc (.bool true)) t84 fun t' => k' t' H) fun t85 H =>
 p.pick t78 t85 (.sc (.bool false)) fun t86 =>
 p.guard t86 true H (fun k' => p.fadr 5 t1 fun t' => k' t' H) fun t88 H =>
 p.guard t86 true H (fun k' => p.load false 1 t88 H fun t' => k' t' H) fun t89 H =>
 p.guard t86 true H (fun k' => p.call 4 (.fn 144 [] []) [t89] H fun t' H => k' t' H) fun t90 H =>
 p.pick t86 t90 (.sc (.bool false)) fun t91 =>
 p.guard t91 true H (fun k' => p.fadr 6 t1 fun t' => k' t' H) fun t93 H =>
 p.guard t91 true H (fun k' => p.load false 1 t93 H fun t' => k' t' H) fun t94 H =>
 p.guard t91 true H (fun k' => p.len t94 fun t' => k' t' H) fun t95 H =>
 p.guard t91 true H (fun k' => p.bin .leq t95 (.sc (.int .i64 40)) fun t' => k' t' H) fun t96 H =>
 p.pick t91 t96 (.sc (.bool false)) fun t97 =>
 k t97 H)
 (p.bin .eql t22 (.sc (.int .i64 12)) fun t99 =>
 letJ (fun (t1 t3 t22 t98 : AV) (H : Heap) => p.cond t98
 (k (.sc (.bool true)) H)
 (p.bin .eql t22 (.sc (.int .i64 8)) fun t103 =>
 p.cond t103
 (f121_l0 p n  k n t1 t3 (.sc (.int .i64 0)) H)
 (p.bin .eql t22 (.sc (.int .i64 9)) fun t137 =>
 p.cond t137
 (f121_l1 p n  k n t1 t3 (.sc (.int .i64 0)) H)
 (p.bin .eql t22 (.sc (.int .i64 10)) fun t168 =>
 p.cond t168
 (f121_l2 p n  k n t1 t3 (.sc (.int .i64 0)) H)
 (k t3 H))))) fun j1 =>
 p.cond t99
 (j1 t1 t20 t22 t99 H)
 (p.bin .eql t22 (.sc (.int .i64 13)) fun t100 =>
 p.cond t100
 (j1 t1 t20 t22 t100 H)
 (p.bin .eql t22 (.sc (.int .i64 14)) fun t101 =>
 j1 t1 t20 t22 t101 H)))))))
 (p.guard t10 false H (fun k' => p.call 66 (.fn 146 [] []) [t13] H fun t' H => k' t' H) fun t14 H =>
 p.guard t10 false H (fun k' => p.load true 25 t1 H fun t' => k' t' H) fun t12 H =>
 p.guard t10 false H (fun k' => p.call 4 (.fn 145 [] []) [t12, t14] H fun t' H => k' t' H) fun t15 H =>
 p.guard t10 false H (fun k' => p.un .not t15 fun t' => k' t' H) fun t16 H =>
 p.pick t10 (.sc (.bool true)) t16 fun t17 =>
 p.cond t17
 (k (.sc (.bool false)) H)
 (p.fadr 4 t1 fun t18 =>
 p.load false 1 t18 H fun t19 =>
 p.call 4 (.fn 109 [] []) [t19, (.sc (.int .i64 1)), (.sc (.int .i64 65535))] H fun t20 H =>
 p.fadr 0 t1 fun t21 =>
 p.load false 1 t21 H fun t22 =>
 p.bin .eql t22 (.sc (.int .i64 1)) fun t24 =>
 p.cond t24
 (p.fadr 11 t1 fun t25 =>
 p.load false 1 t25 H fun t26 =>
 p.guard t26 true H (fun k' => p.fadr 12 t1 fun t' => k' t' H) fun t28 H =>
 p.guard t26 true H (fun k' => p.load false 1 t28 H fun t' => k' t' H) fun t29 H =>
 p.guard t26 true H (fun k' => p.call 4 (.fn 144 [] []) [t29] H fun t' H => k' t' H) fun t30 H =>
 p.guard t26 true H (fun k' => p.un .not t30 fun t' => k' t' H) fun t31 H =>
 p.guard t26 true H (fun k' => k' t31 H) fun t32 H =>
 p.guard t32 false H (fun k' => p.fadr 13 t1 fun t' => k' t' H) fun t33 H =>
 p.guard t32 false H (fun k' => p.load false 1 t33 H fun t' => k' t' H) fun t34 H =>
 p.guard t32 false H (fun k' => p.len t34 fun t' => k' t' H) fun t35 H =>
 p.guard t32 false H (fun k' => p.bin .gtr t35 (.sc (.int .i64 40)) fun t' => k' t' H) fun t36 H =>
 p.guard t26 true H (fun k' => p.pick t32 (.sc (.bool true)) t36 fun t' => k' t' H) fun t37 H =>
 p.guard t26 true H (fun k' => k' t37 H) fun t38 H =>
 p.guard t38 false H (fun k' => p.fadr 14 t1 fun t' => k' t' H) fun t39 H =>
 p.guard t38 false H (fun k' => p.load false 1 t39 H fun t' => k' t' H) fun t40 H =>
 p.guard t38 false H (fun k' => p.call 4 (.fn 109 [] []) [t40, (.sc (.int .i64 0)), (.sc (.int .i64 2))] H fun t' H => k' t' H) fun t41 H =>
 p.guard t38 false H (fun k' => p.un .not t41 fun t' => k' t' H) fun t42 H =>
 p.guard t26 true H (fun k' => p.pick t38 (.sc (.bool true)) t42 fun t' => k' t' H) fun t43 H =>
 p.pick t26 t43 (.sc (.bool false)) fun t44 =>
 p.cond t44
 (k (.sc (.bool false)) H)
 (p.fadr 8 t1 fun t45 =>
 p.load false 1 t45 H fun t46 =>
 p.call 4 (.fn 109 [] []) [t46, (.sc (.int .i64 0)), (.sc (.int .i64 255))] H fun t47 H =>
 p.guard t47 true H (fun k' => p.fadr 7 t1 fun t' => k' t' H) fun t49 H =>
 p.guard t47 true H (fun k' => p.load false 1 t49 H fun t' => k' t' H) fun t50 H =>
 p.guard t47 true H (fun k' => p.call 4 (.fn 108 [] []) [t50] H fun t' H => k' t' H) fun t51 H =>
 p.pick t47 t51 (.sc (.bool false)) fun t52 =>
 p.guard t52 true H (fun k' => p.fadr 10 t1 fun t' => k' t' H) fun t54 H =>
 p.guard t52 true H (fun k' => p.load false 1 t54 H fun t' => k' t' H) fun t55 H =>
 p.guard t52 true H (fun k' => p.call 4 (.fn 109 [] []) [t55, (.sc (.int .i64 0)), (.sc (.int .i64 65535))] H fun t' H => k' t' H) fun t56 H =>
 p.pick t52 t56 (.sc (.bool false)) fun t57 =>
 p.guard t57 true H (fun k' => p.fadr 17 t1 fun t' => k' t' H) fun t59 H =>
 p.guard t57 true H (fun k' => p.load false 1 t59 H fun t' => k' t' H) fun t60 H =>
 p.guard t57 true H (fun k' => p.call 4 (.fn 108 [] []) [t60] H fun t' H => k' t' H) fun t61 H =>
 p.pick t57 t61 (.sc (.bool false)) fun t62 =>
 p.guard t62 true H (fun k' => p.fadr 19 t1 fun t' => k' t' H) fun t64 H =>
 p.guard t62 true H (fun k' => p.load false 1 t64 H fun t' => k' t' H) fun t65 H =>
 p.guard t62 true H (fun k' => p.len t65 fun t' => k' t' H) fun t66 H =>
 p.guard t62 true H (fun k' => p.bin .leq t66 (.sc (.int .i64 60)) fun t' => k' t' H) fun t67 H =>
 p.pick t62 t67 (.sc (.bool false)) fun t68 =>
 k t68 H))
 (p.bin .eql t22 (.sc (.int .i64 2)) fun t70 =>
 p.cond t70
 (p.fadr 20 t1 fun t71 =>
 p.load false 1 t71 H fun t72 =>
 p.call 4 (.fn 109 [] []) [t72, (.sc (.int .i64 0)), (.sc (.int .i64 5))] H fun t73 H =>
 k t73 H)
 (p.bin .eql t22 (.sc (.int .i64 3)) fun t75 =>
 p.cond t75
 (p.fadr 2 t1 fun t76 =>
 p.load false 1 t76 H fun t77 =>
 p.call 4 (.fn 109 [] []) [t77, (.sc (.int .i64 0)), (.sc (.int .i64 2))] H fun t78 H =>
 p.guard t78 true H (fun k' => p.fadr 2 t1 fun t' => k' t' H) fun t80 H =>
 p.guard t78 true H (fun k' => p.load false 1 t80 H fun t' => k' t' H) fun t81 H =>
 p.guard t78 true H (fun k' => p.bin .eql t81 (.sc (.int .i64 0)) fun t' => k' t' H) fun t82 H =>
 p.guard t78 true H (fun k' => k' t82 H) fun t83 H =>
 p.guard t83 false H (fun k' => k' t20 H) fun t84 H =>
 p.guard t78 true H (fun k' => p.pick t83 (.sc (.bool true)) t84 fun t' => k' t' H) fun t85 H =>
 p.pick t78 t85 (.sc (.bool false)) fun t86 =>
 p.guard t86 true H (fun k' => p.fadr 5 t1 fun t' => k' t' H) fun t88 H =>
 p.guard t86 true H (fun k' => p.load false 1 t88 H fun t' => k' t' H) fun t89 H =>
 p.guard t86 true H (fun k' => p.call 4 (.fn 144 [] []) [t89] H fun t' H => k' t' H) fun t90 H =>
 p.pick t86 t90 (.sc (.bool false)) fun t91 =>
 p.guard t91 true H (fun k' => p.fadr 6 t1 fun t' => k' t' H) fun t93 H =>
 p.guard t91 true H (fun k' => p.load false 1 t93 H fun t' => k' t' H) fun t94 H =>
 p.guard t91 true H (fun k' => p.len t94 fun t' => k' t' H) fun t95 H =>
 p.guard t91 true H (fun k' => p.bin .leq t95 (.sc (.int .i64 40)) fun t' => k' t' H) fun t96 H =>
 p.pick t91 t96 (.sc (.bool false)) fun t97 =>
 k t97 H)
 (p.bin .eql t22 (.sc (.int .i64 12)) fun t99 =>
 letJ (fun (t1 t3 t22 t98 : AV) (H : Heap) => p.cond t98
 (k (.sc (.bool true)) H)
 (p.bin .eql t22 (.sc (.int .i64 8)) fun t103 =>
 p.cond t103
 (f121_l0 p n  k n t1 t3 (.sc (.int .i64 0)) H)
 (p.bin .eql t22 (.sc (.int .i64 9)) fun t137 =>
 p.cond t137
 (f121_l1 p n  k n t1 t3 (.sc (.int .i64 0)) H)
 (p.bin .eql t22 (.sc (.int .i64 10)) fun t168 =>
 p.cond t168
 (f121_l2 p n  k n t1 t3 (.sc (.int .i64 0)) H)
 (k t3 H))))) fun j2 =>
 p.cond t99
 (j2 t1 t20 t22 t99 H)
 (p.bin .eql t22 (.sc (.int .i64 13)) fun t100 =>
 p.cond t100
 (j2 t1 t20 t22 t100 H)
 (p.bin .eql t22 (.sc (.int .i64 14)) fun t101 =>
 j2 t1 t20 t22 t101 H)))))))
noncomputable def f121_L0 (p : Pr β) (n : Nat)  (k : AV → Heap → Option β) (m : Nat) (tm : Tm) (H : Heap) : Option β :=
 iterC 191 (fun tm H k => evalCode ti0 p o121 191 n (cd c121 [1, 1, 1, 0, 1, 0, 1, 2, 1, 2, 1, 2, 1, 2, 1, 1, 0, 1, 0, 0]) tm H k) (blkK 1 (seqK (fun tm H => evalCode ti0 p o121 191 n (cd c121 [1, 1, 1, 0, 1, 0, 1, 2, 1, 2, 1, 2, 1, 2, 1, 1, 1]) tm H (blkK 0 (seqK (fun tm H => evalCode ti0 p o121 191 n (cd c121 [1, 1, 1, 1]) tm H (endK ti0 p Go.Proofs.Tryz.f121.results.toList k)) (endK ti0 p Go.Proofs.Tryz.f121.results.toList k)))) (blkK 0 (seqK (fun tm H => evalCode ti0 p o121 191 n (cd c121 [1, 1, 1, 1]) tm H (endK ti0 p Go.Proofs.Tryz.f121.results.toList k)) (endK ti0 p Go.Proofs.Tryz.f121.results.toList k))))) m tm H
noncomputable def f121_L1 (p : Pr β) (n : Nat)  (k : AV → Heap → Option β) (m : Nat) (tm : Tm) (H : Heap) : Option β :=
 iterC 191 (fun tm H k => evalCode ti0 p o121 191 n (cd c121 [1, 1, 1, 0, 1, 0, 1, 2, 1, 2, 1, 2, 1, 2, 1, 2, 1, 1, 0, 1, 0, 0]) tm H k) (blkK 3 (seqK (fun tm H => evalCode ti0 p o121 191 n (cd c121 [1, 1, 1, 0, 1, 0, 1, 2, 1, 2, 1, 2, 1, 2, 1, 2, 1, 1, 1]) tm H (blkK 0 (seqK (fun tm H => evalCode ti0 p o121 191 n (cd c121 [1, 1, 1, 1]) tm H (endK ti0 p Go.Proofs.Tryz.f121.results.toList k)) (endK ti0 p Go.Proofs.Tryz.f121.results.toList k)))) (blkK 0 (seqK (fun tm H => evalCode ti0 p o121 191 n (cd c121 [1, 1, 1, 1]) tm H (endK ti0 p Go.Proofs.Tryz.f121.results.toList k)) (endK ti0 p Go.Proofs.Tryz.f121.results.toList k))))) m tm H
noncomputable def f121_L2 (p : Pr β) (n : Nat)  (k : AV → Heap → Option β) (m : Nat) (tm : Tm) (H : Heap) : Option β :=
 iterC 191 (fun tm H k => evalCode ti0 p o121 191 n (cd c121 [1, 1, 1, 0, 1, 0, 1, 2, 1, 2, 1, 2, 1, 2, 1, 2, 1, 2, 1, 1, 0, 1, 0, 0]) tm H k) (blkK 5 (seqK (fun tm H => evalCode ti0 p o121 191 n (cd c121 [1, 1, 1, 0, 1, 0, 1, 2, 1, 2, 1, 2, 1, 2, 1, 2, 1, 2, 1, 1, 1]) tm H (blkK 0 (seqK (fun tm H => evalCode ti0 p o121 191 n (cd c121 [1, 1, 1, 1]) tm H (endK ti0 p Go.Proofs.Tryz.f121.results.toList k)) (endK ti0 p Go.Proofs.Tryz.f121.results.toList k)))) (blkK 0 (seqK (fun tm H => evalCode ti0 p o121 191 n (cd c121 [1, 1, 1, 1]) tm H (endK ti0 p Go.Proofs.Tryz.f121.results.toList k)) (endK ti0 p Go.Proofs.Tryz.f121.results.toList k))))) m tm H
theorem f121_L0_step (p : Pr β) (n : Nat)  (k : AV → Heap → Option β) (m0 : Nat) (t : Nat → AV) (H : Heap) : f121_L0 p n  k (m0 + 1) (tf 191 0 t) H =
 p.fadr 22 (t 1) fun t105 =>
 p.load false 1 t105 H fun t106 =>
 p.len t106 fun t107 =>
 p.bin .lss (t 4) t107 fun t108 =>
 p.cond t108
 (p.fadr 22 (t 1) fun t111 =>
 p.load false 1 t111 H fun t112 =>
 p.iadr 2 t112 (t 4) fun t114 =>
 p.fadr 0 t114 fun t115 =>
 p.load false 1 t115 H fun t116 =>
 p.call 4 (.fn 147 [] []) [t116] H fun t117 H =>
 p.un .not t117 fun t118 =>
 p.guard t118 false H (fun k' => p.fadr 22 (t 1) fun t' => k' t' H) fun t120 H =>
 p.guard t118 false H (fun k' => p.load false 1 t120 H fun t' => k' t' H) fun t121 H =>
 p.guard t118 false H (fun k' => k' (t 4) H) fun t122 H =>
 p.guard t118 false H (fun k' => p.iadr 2 t121 t122 fun t' => k' t' H) fun t123 H =>
 p.guard t118 false H (fun k' => p.fadr 1 t123 fun t' => k' t' H) fun t124 H =>
 p.guard t118 false H (fun k' => p.load false 1 t124 H fun t' => k' t' H) fun t125 H =>
 p.guard t118 false H (fun k' => p.call 4 (.fn 109 [] []) [t125, (.sc (.int .i64 0)), (.sc (.int .i64 2))] H fun t' H => k' t' H) fun t126 H =>
 p.guard t118 false H (fun k' => p.un .not t126 fun t' => k' t' H) fun t127 H =>
 p.pick t118 (.sc (.bool true)) t127 fun t128 =>
 p.cond t128
 (k (.sc (.bool false)) H)
 (p.bin .add (t 4) (.sc (.int .i64 1)) fun t110 =>
 f121_L0 p n  k m0 (tf 191 0 (ud [(4, t110), (104, (t 4)), (105, t105), (106, t106), (107, t107), (108, t108), (109, (t 4)), (110, t110), (111, t111), (112, t112), (113, (t 4)), (114, t114), (115, t115), (116, t116), (117, t117), (118, t118), (119, t118), (120, t120), (121, t121), (122, t122), (123, t123), (124, t124), (125, t125), (126, t126), (127, t127), (128, t128)] t)) H))
 (p.guard (t 3) true H (fun k' => p.fadr 22 (t 1) fun t' => k' t' H) fun t131 H =>
 p.guard (t 3) true H (fun k' => p.load false 1 t131 H fun t' => k' t' H) fun t132 H =>
 p.guard (t 3) true H (fun k' => p.len t132 fun t' => k' t' H) fun t133 H =>
 p.guard (t 3) true H (fun k' => p.call 4 (.fn 109 [] []) [t133, (.sc (.int .i64 1)), (.sc (.int .i64 4))] H fun t' H => k' t' H) fun t134 H =>
 p.pick (t 3) t134 (.sc (.bool false)) fun t135 =>
 k t135 H) := by kernel_rfl
theorem f121_l0_eq (p : Pr β) (n : Nat)  (k : AV → Heap → Option β)   (m0 : Nat) : ∀ (t : Nat → AV) (H : Heap), f121_L0 p n  k m0 (tf 191 0 t) H = f121_l0 p n  k m0 (t 1) (t 3) (t 4) H := by
 induction m0 with
 | zero => intros; rfl
 | succ m0 ih =>
  intro t H
  rw [f121_L0_step]
  simp only [ih]
  kernel_rfl
theorem f121_L1_step (p : Pr β) (n : Nat)  (k : AV → Heap → Option β) (m1 : Nat) (t : Nat → AV) (H : Heap) : f121_L1 p n  k (m1 + 1) (tf 191 0 t) H =
 p.fadr 24 (t 1) fun t139 =>
 p.load false 1 t139 H fun t140 =>
 p.len t140 fun t141 =>
 p.bin .lss (t 5) t141 fun t142 =>
 p.cond t142
 (p.fadr 24 (t 1) fun t145 =>
 p.load false 1 t145 H fun t146 =>
 p.iadr 1 t146 (t 5) fun t148 =>
 p.load false 1 t148 H fun t149 =>
 p.call 4 (.fn 109 [] []) [t149, (.sc (.int .i64 0)), (.sc (.int .i64 2))] H fun t150 H =>
 p.un .not t150 fun t151 =>
 p.guard t151 true H (fun k' => p.fadr 24 (t 1) fun t' => k' t' H) fun t153 H =>
 p.guard t151 true H (fun k' => p.load false 1 t153 H fun t' => k' t' H) fun t154 H =>
 p.guard t151 true H (fun k' => k' (t 5) H) fun t155 H =>
 p.guard t151 true H (fun k' => p.iadr 1 t154 t155 fun t' => k' t' H) fun t156 H =>
 p.guard t151 true H (fun k' => p.load false 1 t156 H fun t' => k' t' H) fun t157 H =>
 p.guard t151 true H (fun k' => p.bin .neq t157 (.sc (.int .i64 128)) fun t' => k' t' H) fun t158 H =>
 p.pick t151 t158 (.sc (.bool false)) fun t159 =>
 p.cond t159
 (k (.sc (.bool false)) H)
 (p.bin .add (t 5) (.sc (.int .i64 1)) fun t144 =>
 f121_L1 p n  k m1 (tf 191 0 (ud [(5, t144), (138, (t 5)), (139, t139), (140, t140), (141, t141), (142, t142), (143, (t 5)), (144, t144), (145, t145), (146, t146), (147, (t 5)), (148, t148), (149, t149), (150, t150), (151, t151), (152, t151), (153, t153), (154, t154), (155, t155), (156, t156), (157, t157), (158, t158), (159, t159)] t)) H))
 (p.guard (t 3) true H (fun k' => p.fadr 24 (t 1) fun t' => k' t' H) fun t162 H =>
 p.guard (t 3) true H (fun k' => p.load false 1 t162 H fun t' => k' t' H) fun t163 H =>
 p.guard (t 3) true H (fun k' => p.len t163 fun t' => k' t' H) fun t164 H =>
 p.guard (t 3) true H (fun k' => p.call 4 (.fn 109 [] []) [t164, (.sc (.int .i64 1)), (.sc (.int .i64 4))] H fun t' H => k' t' H) fun t165 H =>
 p.pick (t 3) t165 (.sc (.bool false)) fun t166 =>
 k t166 H) := by kernel_rfl
theorem f121_l1_eq (p : Pr β) (n : Nat)  (k : AV → Heap → Option β)   (m1 : Nat) : ∀ (t : Nat → AV) (H : Heap), f121_L1 p n  k m1 (tf 191 0 t) H = f121_l1 p n  k m1 (t 1) (t 3) (t 5) H := by
 induction m1 with
 | zero => intros; rfl
 | succ m1 ih =>
  intro t H
  rw [f121_L1_step]
  simp only [ih, f121_l0_eq p n  k  ]
  kernel_rfl
theorem f121_L2_step (p : Pr β) (n : Nat)  (k : AV → Heap → Option β) (m2 : Nat) (t : Nat → AV) (H : Heap) : f121_L2 p n  k (m2 + 1) (tf 191 0 t) H =
 p.fadr 23 (t 1) fun t170 =>
 p.load false 1 t170 H fun t171 =>
 p.len t171 fun t172 =>
 p.bin .lss (t 6) t172 fun t173 =>
 p.cond t173
 (p.fadr 23 (t 1) fun t176 =>
 p.load false 1 t176 H fun t177 =>
 p.iadr 1 t177 (t 6) fun t179 =>
 p.load false 1 t179 H fun t180 =>
 p.call 4 (.fn 147 [] []) [t180] H fun t181 H =>
 p.un .not t181 fun t182 =>
 p.cond t182
 (k (.sc (.bool false)) H)
 (p.bin .add (t 6) (.sc (.int .i64 1)) fun t175 =>
 f121_L2 p n  k m2 (tf 191 0 (ud [(6, t175), (169, (t 6)), (170, t170), (171, t171), (172, t172), (173, t173), (174, (t 6)), (175, t175), (176, t176), (177, t177), (178, (t 6)), (179, t179), (180, t180), (181, t181), (182, t182)] t)) H))
 (p.guard (t 3) true H (fun k' => p.fadr 23 (t 1) fun t' => k' t' H) fun t185 H =>
 p.guard (t 3) true H (fun k' => p.load false 1 t185 H fun t' => k' t' H) fun t186 H =>
 p.guard (t 3) true H (fun k' => p.len t186 fun t' => k' t' H) fun t187 H =>
 p.guard (t 3) true H (fun k' => p.call 4 (.fn 109 [] []) [t187, (.sc (.int .i64 1)), (.sc (.int .i64 4))] H fun t' H => k' t' H) fun t188 H =>
 p.pick (t 3) t188 (.sc (.bool false)) fun t189 =>
 k t189 H) := by kernel_rfl
theorem f121_l2_eq (p : Pr β) (n : Nat)  (k : AV → Heap → Option β)   (m2 : Nat) : ∀ (t : Nat → AV) (H : Heap), f121_L2 p n  k m2 (tf 191 0 t) H = f121_l2 p n  k m2 (t 1) (t 3) (t 6) H := by
 induction m2 with
 | zero => intros; rfl
 | succ m2 ih =>
  intro t H
  rw [f121_L2_step]
  simp only [ih, f121_l0_eq p n  k  , f121_l1_eq p n  k  ]
  kernel_rfl
theorem f121_raw (p : Pr β) (n : Nat) (a0 : AV) (H : Heap) (k : AV → Heap → Option β) : evalBody ti0 p n ⟨c121, 191, Go.Proofs.Tryz.f121.results.toList, o121⟩ [a0] H k =
 p.box a0 H fun t1 H =>
 p.fadr 0 t1 fun t7 =>
 p.load false 1 t7 H fun t8 =>
 p.call 4 (.fn 109 [] []) [t8, (.sc (.int .i64 1)), (.sc (.int .i64 14))] H fun t9 H =>
 p.un .not t9 fun t10 =>
 p.guard t10 false H (fun k' => p.load true 25 t1 H fun t' => k' t' H) fun t13 H =>
 p.both
 (p.guard t10 false H (fun k' => p.load true 25 t1 H fun t' => k' t' H) fun t12 H =>
 p.guard t10 false H (fun k' => p.call 66 (.fn 146 [] []) [t13] H fun t' H => k' t' H) fun t14 H =>
 p.guard t10 false H (fun k' => p.call 4 (.fn 145 [] []) [t12, t14] H fun t' H => k' t' H) fun t15 H =>
 p.guard t10 false H (fun k' => p.un .not t15 fun t' => k' t' H) fun t16 H =>
 p.pick t10 (.sc (.bool true)) t16 fun t17 =>
 p.cond t17
 (k (.sc (.bool false)) H)
 (p.fadr 4 t1 fun t18 =>
 p.load false 1 t18 H fun t19 =>
 p.call 4 (.fn 109 [] []) [t19, (.sc (.int .i64 1)), (.sc (.int .i64 65535))] H fun t20 H =>
 p.fadr 0 t1 fun t21 =>
 p.load false 1 t21 H fun t22 =>
 p.bin .eql t22 (.sc (.int .i64 1)) fun t24 =>
 p.cond t24
 (p.fadr 11 t1 fun t25 =>
 p.load false 1 t25 H fun t26 =>
 p.guard t26 true H (fun k' => p.fadr 12 t1 fun t' => k' t' H) fun t28 H =>
 p.guard t26 true H (fun k' => p.load false 1 t28 H fun t' => k' t' H) fun t29 H =>
 p.guard t26 true H (fun k' => p.call 4 (.fn 144 [] []) [t29] H fun t' H => k' t' H) fun t30 H =>
 p.guard t26 true H (fun k' => p.un .not t30 fun t' => k' t' H) fun t31 H =>
 p.guard t26 true H (fun k' => k' t31 H) fun t32 H =>
 p.guard t32 false H (fun k' => p.fadr 13 t1 fun t' => k' t' H) fun t33 H =>
 p.guard t32 false H (fun k' => p.load false 1 t33 H fun t' => k' t' H) fun t34 H =>
 p.guard t32 false H (fun k' => p.len t34 fun t' => k' t' H) fun t35 H =>
 p.guard t32 false H (fun k' => p.bin .gtr t35 (.sc (.int .i64 40)) fun t' => k' t' H) fun t36 H =>
 p.guard t26 true H (fun k' => p.pick t32 (.sc (.bool true)) t36 fun t' => k' t' H) fun t37 H =>
 p.guard t26 true H (fun k' => k' t37 H) fun t38 H =>
 p.guard t38 false H (fun k' => p.fadr 14 t1 fun t' => k' t' H) fun t39 H =>
 p.guard t38 false H (fun k' => p.load false 1 t39 H fun t' => k' t' H) fun t40 H =>
 p.guard t38 false H (fun k' => p.call 4 (.fn 109 [] []) [t40, (.sc (.int .i64 0)), (.sc (.int .i64 2))] H fun t' H => k' t' H) fun t41 H =>
 p.guard t38 false H (fun k' => p.un .not t41 fun t' => k' t' H) fun t42 H =>
 p.guard t26 true H (fun k' => p.pick t38 (.sc (.bool true)) t42 fun t' => k' t' H) fun t43 H =>
 p.pick t26 t43 (.sc (.bool false)) fun t44 =>
 p.cond t44
 (k (.sc (.bool false)) H)
 (p.fadr 8 t1 fun t45 =>
 p.load false 1 t45 H fun t46 =>
 p.call 4 (.fn 109 [] []) [t46, (.sc (.int .i64 0)), (.sc (.int .i64 255))] H fun t47 H =>
 p.guard t47 true H (fun k' => p.fadr 7 t1 fun t' => k' t' H) fun t49 H =>
 p.guard t47 true H (fun k' => p.load false 1 t49 H fun t' => k' t' H) fun t50 H =>
 p.guard t47 true H (fun k' => p.call 4 (.fn 108 [] []) [t50] H fun t' H => k' t' H) fun t51 H =>
 p.pick t47 t51 (.sc (.bool false)) fun t52 =>
 p.guard t52 true H (fun k' => p.fadr 10 t1 fun t' => k' t' H) fun t54 H =>
 p.guard t52 true H (fun k' => p.load false 1 t54 H fun t' => k' t' H) fun t55 H =>
 p.guard t52 true H (fun k' => p.call 4 (.fn 109 [] []) [t55, (.sc (.int .i64 0)), (.sc (.int .i64 65535))] H fun t' H => k' t' H) fun t56 H =>
 p.pick t52 t56 (.sc (.bool false)) fun t57 =>
 p.guard t57 true H (fun k' => p.fadr 17 t1 fun t' => k' t' H) fun t59 H =>
 p.guard t57 true H (fun k' => p.load false 1 t59 H fun t' => k' t' H) fun t60 H =>
 p.guard t57 true H (fun k' => p.call 4 (.fn 108 [] []) [t60] H fun t' H => k' t' H) fun t61 H =>
 p.pick t57 t61 (.sc (.bool false)) fun t62 =>
 p.guard t62 true H (fun k' => p.fadr 19 t1 fun t' => k' t' H) fun t64 H =>
 p.guard t62 true H (fun k' => p.load false 1 t64 H fun t' => k' t' H) fun t65 H =>
 p.guard t62 true H (fun k' => p.len t65 fun t' => k' t' H) fun t66 H =>
 p.guard t62 true H (fun k' => p.bin .leq t66 (.sc (.int .i64 60)) fun t' => k' t' H) fun t67 H =>
 p.pick t62 t67 (.sc (.bool false)) fun t68 =>
 k t68 H))
 (p.bin .eql t22 (.sc (.int .i64 2)) fun t70 =>
 p.cond t70
 (p.fadr 20 t1 fun t71 =>
 p.load false 1 t71 H fun t72 =>
 p.call 4 (.fn 109 [] []) [t72, (.sc (.int .i64 0)), (.sc (.int .i64 5))] H fun t73 H =>
 k t73 H)
 (p.bin .eql t22 (.sc (.int .i64 3)) fun t75 =>
 p.cond t75
 (p.fadr 2 t1 fun t76 =>
 p.load false 1 t76 H fun t77 =>
 p.call 4 (.fn 109 [] []) [t77, (.sc (.int .i64 0)), (.sc (.int .i64 2))] H fun t78 H =>
 p.guard t78 true H (fun k' => p.fadr 2 t1 fun t' => k' t' H) fun t80 H =>
 p.guard t78 true H (fun k' => p.load false 1 t80 H fun t' => k' t' H) fun t81 H =>
 p.guard t78 true H (fun k' => p.bin .eql t81 (.sc (.int .i64 0)) fun t' => k' t' H) fun t82 H =>
 p.guard t78 true H (fun k' => k' t82 H) fun t83 H =>
 p.guard t83 false H (fun k' => k' t20 H) fun t84 H =>
 p.guard t78 true H (fun k' => p.pick t83 (.sc (.bool true)) t84 fun t' => k' t' H) fun t85 H =>
 p.pick t78 t85 (.sc (.bool false)) fun t86 =>
 p.guard t86 true H (fun k' => p.fadr 5 t1 fun t' => k' t' H) fun t88 H =>
 p.guard t86 true H (fun k' => p.load false 1 t88 H fun t' => k' t' H) fun t89 H =>
 p.guard t86 true H (fun k' => p.call 4 (.fn 144 [] []) [t89] H fun t' H => k' t' H) fun t90 H =>
 p.pick t86 t90 (.sc (.bool false)) fun t91 =>
 p.guard t91 true H (fun k' => p.fadr 6 t1 fun t' => k' t' H) fun t93 H =>
 p.guard t91 true H (fun k' => p.load false 1 t93 H fun t' => k' t' H) fun t94 H =>
 p.guard t91 true H (fun k' => p.len t94 fun t' => k' t' H) fun t95 H =>
 p.guard t91 true H (fun k' => p.bin .leq t95 (.sc (.int .i64 40)) fun t' => k' t' H) fun t96 H =>
 p.pick t91 t96 (.sc (.bool false)) fun t97 =>
 k t97 H)
 (p.bin .eql t22 (.sc (.int .i64 12)) fun t99 =>
 letJ (fun (t : Nat → AV) (H : Heap) => p.cond (t 98)
 (k (.sc (.bool true)) H)
 (p.bin .eql (t 22) (.sc (.int .i64 8)) fun t103 =>
 p.cond t103
 (f121_L0 p n  k n (tf 191 0 (ud [(4, (.sc (.int .i64 0))), (102, t103), (103, t103)] t)) H)
 (p.bin .eql (t 22) (.sc (.int .i64 9)) fun t137 =>
 p.cond t137
 (f121_L1 p n  k n (tf 191 0 (ud [(5, (.sc (.int .i64 0))), (102, t103), (103, t103), (136, t137), (137, t137)] t)) H)
 (p.bin .eql (t 22) (.sc (.int .i64 10)) fun t168 =>
 p.cond t168
 (f121_L2 p n  k n (tf 191 0 (ud [(6, (.sc (.int .i64 0))), (102, t103), (103, t103), (136, t137), (137, t137), (167, t168), (168, t168)] t)) H)
 (k (t 3) H))))) fun j1 =>
 p.cond t99
 (j1 (ud [(0, a0), (1, t1), (2, (.sc (.bool false))), (3, t20), (7, t7), (8, t8), (9, t9), (10, t10), (11, t10), (12, t12), (13, t13), (14, t14), (15, t15), (16, t16), (17, t17), (18, t18), (19, t19), (20, t20), (21, t21), (22, t22), (23, t24), (24, t24), (69, t70), (70, t70), (74, t75), (75, t75), (98, t99), (99, t99)] ut) H)
 (p.bin .eql t22 (.sc (.int .i64 13)) fun t100 =>
 p.cond t100
 (j1 (ud [(0, a0), (1, t1), (2, (.sc (.bool false))), (3, t20), (7, t7), (8, t8), (9, t9), (10, t10), (11, t10), (12, t12), (13, t13), (14, t14), (15, t15), (16, t16), (17, t17), (18, t18), (19, t19), (20, t20), (21, t21), (22, t22), (23, t24), (24, t24), (69, t70), (70, t70), (74, t75), (75, t75), (98, t100), (99, t99), (100, t100)] ut) H)
 (p.bin .eql t22 (.sc (.int .i64 14)) fun t101 =>
 j1 (ud [(0, a0), (1, t1), (2, (.sc (.bool false))), (3, t20), (7, t7), (8, t8), (9, t9), (10, t10), (11, t10), (12, t12), (13, t13), (14, t14), (15, t15), (16, t16), (17, t17), (18, t18), (19, t19), (20, t20), (21, t21), (22, t22), (23, t24), (24, t24), (69, t70), (70, t70), (74, t75), (75, t75), (98, t101), (99, t99), (100, t100), (101, t101)] ut) H)))))))
 (p.guard t10 false H (fun k' => p.call 66 (.fn 146 [] []) [t13] H fun t' H => k' t' H) fun t14 H =>
 p.guard t10 false H (fun k' => p.load true 25 t1 H fun t' => k' t' H) fun t12 H =>
 p.guard t10 false H (fun k' => p.call 4 (.fn 145 [] []) [t12, t14] H fun t' H => k' t' H) fun t15 H =>
 p.guard t10 false H (fun k' => p.un .not t15 fun t' => k' t' H) fun t16 H =>
 p.pick t10 (.sc (.bool true)) t16 fun t17 =>
 p.cond t17
 (k (.sc (.bool false)) H)
 (p.fadr 4 t1 fun t18 =>
 p.load false 1 t18 H fun t19 =>
 p.call 4 (.fn 109 [] []) [t19, (.sc (.int .i64 1)), (.sc (.int .i64 65535))] H fun t20 H =>
 p.fadr 0 t1 fun t21 =>
 p.load false 1 t21 H fun t22 =>
 p.bin .eql t22 (.sc (.int .i64 1)) fun t24 =>
 p.cond t24
 (p.fadr 11 t1 fun t25 =>
 p.load false 1 t25 H fun t26 =>
 p.guard t26 true H (fun k' => p.fadr 12 t1 fun t' => k' t' H) fun t28 H =>
 p.guard t26 true H (fun k' => p.load false 1 t28 H fun t' => k' t' H) fun t29 H =>
 p.guard t26 true H (fun k' => p.call 4 (.fn 144 [] []) [t29] H fun t' H => k' t' H) fun t30 H =>
 p.guard t26 true H (fun k' => p.un .not t30 fun t' => k' t' H) fun t31 H =>
 p.guard t26 true H (fun k' => k' t31 H) fun t32 H =>
 p.guard t32 false H (fun k' => p.fadr 13 t1 fun t' => k' t' H) fun t33 H =>
 p.guard t32 false H (fun k' => p.load false 1 t33 H fun t' => k' t' H) fun t34 H =>
 p.guard t32 false H (fun k' => p.len t34 fun t' => k' t' H) fun t35 H =>
 p.guard t32 false H (fun k' => p.bin .gtr t35 (.sc (.int .i64 40)) fun t' => k' t' H) fun t36 H =>
 p.guard t26 true H (fun k' => p.pick t32 (.sc (.bool true)) t36 fun t' => k' t' H) fun t37 H =>
 p.guard t26 true H (fun k' => k' t37 H) fun t38 H =>
 p.guard t38 false H (fun k' => p.fadr 14 t1 fun t' => k' t' H) fun t39 H =>
 p.guard t38 false H (fun k' => p.load false 1 t39 H fun t' => k' t' H) fun t40 H =>
 p.guard t38 false H (fun k' => p.call 4 (.fn 109 [] []) [t40, (.sc (.int .i64 0)), (.sc (.int .i64 2))] H fun t' H => k' t' H) fun t41 H =>
 p.guard t38 false H (fun k' => p.un .not t41 fun t' => k' t' H) fun t42 H =>
 p.guard t26 true H (fun k' => p.pick t38 (.sc (.bool true)) t42 fun t' => k' t' H) fun t43 H =>
 p.pick t26 t43 (.sc (.bool false)) fun t44 =>
 p.cond t44
 (k (.sc (.bool false)) H)
 (p.fadr 8 t1 fun t45 =>
 p.load false 1 t45 H fun t46 =>
 p.call 4 (.fn 109 [] []) [t46, (.sc (.int .i64 0)), (.sc (.int .i64 255))] H fun t47 H =>
 p.guard t47 true H (fun k' => p.fadr 7 t1 fun t' => k' t' H) fun t49 H =>
 p.guard t47 true H (fun k' => p.load false 1 t49 H fun t' => k' t' H) fun t50 H =>
 p.guard t47 true H (fun k' => p.call 4 (.fn 108 [] []) [t50] H fun t' H => k' t' H) fun t51 H =>
 p.pick t47 t51 (.sc (.bool false)) fun t52 =>
 p.guard t52 true H (fun k' => p.fadr 10 t1 fun t' => k' t' H) fun t54 H =>
 p.guard t52 true H (fun k' => p.load false 1 t54 H fun t' => k' t' H) fun t55 H =>
 p.guard t52 true H (fun k' => p.call 4 (.fn 109 [] []) [t55, (.sc (.int .i64 0)), (.sc (.int .i64 65535))] H fun t' H => k' t' H) fun t56 H =>
 p.pick t52 t56 (.sc (.bool false)) fun t57 =>
 p.guard t57 true H (fun k' => p.fadr 17 t1 fun t' => k' t' H) fun t59 H =>
 p.guard t57 true H (fun k' => p.load false 1 t59 H fun t' => k' t' H) fun t60 H =>
 p.guard t57 true H (fun k' => p.call 4 (.fn 108 [] []) [t60] H fun t' H => k' t' H) fun t61 H =>
 p.pick t57 t61 (.sc (.bool false)) fun t62 =>
 p.guard t62 true H (fun k' => p.fadr 19 t1 fun t' => k' t' H) fun t64 H =>
 p.guard t62 true H (fun k' => p.load false 1 t64 H fun t' => k' t' H) fun t65 H =>
 p.guard t62 true H (fun k' => p.len t65 fun t' => k' t' H) fun t66 H =>
 p.guard t62 true H (fun k' => p.bin .leq t66 (.sc (.int .i64 60)) fun t' => k' t' H) fun t67 H =>
 p.pick t62 t67 (.sc (.bool false)) fun t68 =>
 k t68 H))
 (p.bin .eql t22 (.sc (.int .i64 2)) fun t70 =>
 p.cond t70
 (p.fadr 20 t1 fun t71 =>
 p.load false 1 t71 H fun t72 =>
 p.call 4 (.fn 109 [] []) [t72, (.sc (.int .i64 0)), (.sc (.int .i64 5))] H fun t73 H =>
 k t73 H)
 (p.bin .eql t22 (.sc (.int .i64 3)) fun t75 =>
 p.cond t75
 (p.fadr 2 t1 fun t76 =>
 p.load false 1 t76 H fun t77 =>
 p.call 4 (.fn 109 [] []) [t77, (.sc (.int .i64 0)), (.sc (.int .i64 2))] H fun t78 H =>
 p.guard t78 true H (fun k' => p.fadr 2 t1 fun t' => k' t' H) fun t80 H =>
 p.guard t78 true H (fun k' => p.load false 1 t80 H fun t' => k' t' H) fun t81 H =>
 p.guard t78 true H (fun k' => p.bin .eql t81 (.sc (.int .i64 0)) fun t' => k' t' H) fun t82 H =>
 p.guard t78 true H (fun k' => k' t82 H) fun t83 H =>
 p.guard t83 false H (fun k' => k' t20 H) fun t84 H =>
 p.guard t78 true H (fun k' => p.pick t83 (.sc (.bool true)) t84 fun t' => k' t' H) fun t85 H =>
 p.pick t78 t85 (.sc (.bool false)) fun t86 =>
 p.guard t86 true H (fun k' => p.fadr 5 t1 fun t' => k' t' H) fun t88 H =>
 p.guard t86 true H (fun k' => p.load false 1 t88 H fun t' => k' t' H) fun t89 H =>
 p.guard t86 true H (fun k' => p.call 4 (.fn 144 [] []) [t89] H fun t' H => k' t' H) fun t90 H =>
 p.pick t86 t90 (.sc (.bool false)) fun t91 =>
 p.guard t91 true H (fun k' => p.fadr 6 t1 fun t' => k' t' H) fun t93 H =>
 p.guard t91 true H (fun k' => p.load false 1 t93 H fun t' => k' t' H) fun t94 H =>
 p.guard t91 true H (fun k' => p.len t94 fun t' => k' t' H) fun t95 H =>
 p.guard t91 true H (fun k' => p.bin .leq t95 (.sc (.int .i64 40)) fun t' => k' t' H) fun t96 H =>
 p.pick t91 t96 (.sc (.bool false)) fun t97 =>
 k t97 H)
 (p.bin .eql t22 (.sc (.int .i64 12)) fun t99 =>
 letJ (fun (t : Nat → AV) (H : Heap) => p.cond (t 98)
 (k (.sc (.bool true)) H)
 (p.bin .eql (t 22) (.sc (.int .i64 8)) fun t103 =>
 p.cond t103
 (f121_L0 p n  k n (tf 191 0 (ud [(4, (.sc (.int .i64 0))), (102, t103), (103, t103)] t)) H)
 (p.bin .eql (t 22) (.sc (.int .i64 9)) fun t137 =>
 p.cond t137
 (f121_L1 p n  k n (tf 191 0 (ud [(5, (.sc (.int .i64 0))), (102, t103), (103, t103), (136, t137), (137, t137)] t)) H)
 (p.bin .eql (t 22) (.sc (.int .i64 10)) fun t168 =>
 p.cond t168
 (f121_L2 p n  k n (tf 191 0 (ud [(6, (.sc (.int .i64 0))), (102, t103), (103, t103), (136, t137), (137, t137), (167, t168), (168, t168)] t)) H)
 (k (t 3) H))))) fun j2 =>
 p.cond t99
 (j2 (ud [(0, a0), (1, t1), (2, (.sc (.bool false))), (3, t20), (7, t7), (8, t8), (9, t9), (10, t10), (11, t10), (12, t12), (13, t13), (14, t14), (15, t15), (16, t16), (17, t17), (18, t18), (19, t19), (20, t20), (21, t21), (22, t22), (23, t24), (24, t24), (69, t70), (70, t70), (74, t75), (75, t75), (98, t99), (99, t99)] ut) H)
 (p.bin .eql t22 (.sc (.int .i64 13)) fun t100 =>
 p.cond t100
 (j2 (ud [(0, a0), (1, t1), (2, (.sc (.bool false))), (3, t20), (7, t7), (8, t8), (9, t9), (10, t10), (11, t10), (12, t12), (13, t13), (14, t14), (15, t15), (16, t16), (17, t17), (18, t18), (19, t19), (20, t20), (21, t21), (22, t22), (23, t24), (24, t24), (69, t70), (70, t70), (74, t75), (75, t75), (98, t100), (99, t99), (100, t100)] ut) H)
 (p.bin .eql t22 (.sc (.int .i64 14)) fun t101 =>
 j2 (ud [(0, a0), (1, t1), (2, (.sc (.bool false))), (3, t20), (7, t7), (8, t8), (9, t9), (10, t10), (11, t10), (12, t12), (13, t13), (14, t14), (15, t15), (16, t16), (17, t17), (18, t18), (19, t19), (20, t20), (21, t21), (22, t22), (23, t24), (24, t24), (69, t70), (70, t70), (74, t75), (75, t75), (98, t101), (99, t99), (100, t100), (101, t101)] ut) H))))))) := by kernel_rfl
theorem f121_body (p : Pr β) (n : Nat) (a0 : AV) (H : Heap) (k : AV → Heap → Option β) : evalBody ti0 p n ⟨c121, 191, Go.Proofs.Tryz.f121.results.toList, o121⟩ [a0] H k = f121 p n a0 H k := by
 rw [f121_raw]
 simp only [f121_l0_eq, f121_l1_eq, f121_l2_eq]
 kernel_rfl
noncomputable def f68 (p : Pr β) (n : Nat) (a0 a1 : AV) (H : Heap) (k : AV → Heap → Option β) : Option β :=
 p.new [(.sc (.int .i64 0)), (.sc (.bool false)), (.sc (.int .i64 0)), (.sc (.bool false)), (.sc (.int .i64 0)), (.sc (.string ⟨#[]⟩)), .nl, (.sc (.string ⟨#[]⟩)), (.sc (.int .i64 0)), (.sc (.bool false)), (.sc (.int .i64 0)), (.sc (.bool false)), (.sc (.string ⟨#[]⟩)), .nl, (.sc (.int .i64 0)), (.sc (.bool false)), (.sc (.bool false)), (.sc (.string ⟨#[]⟩)), (.sc (.bool false)), .nl, (.sc (.int .i64 0)), (.sc (.bool false)), .nl, .nl, .nl] H fun t4 H =>
 p.fill [(.sc (.int .i64 0)), (.sc (.bool false)), (.sc (.int .i64 0)), (.sc (.bool false)), (.sc (.int .i64 0)), (.sc (.string ⟨#[]⟩)), .nl, (.sc (.string ⟨#[]⟩)), (.sc (.int .i64 0)), (.sc (.bool false)), (.sc (.int .i64 0)), (.sc (.bool false)), (.sc (.string ⟨#[]⟩)), .nl, (.sc (.int .i64 0)), (.sc (.bool false)), (.sc (.bool false)), (.sc (.string ⟨#[]⟩)), (.sc (.bool false)), .nl, (.sc (.int .i64 0)), (.sc (.bool false)), .nl, .nl, .nl] [(0, 1, a0), (4, 1, a1)] fun ct8 =>
 p.new [(.sc (.int .i64 0)), (.sc (.bool false)), (.sc (.int .i64 0)), (.sc (.bool false)), (.sc (.int .i64 0)), (.sc (.string ⟨#[]⟩)), .nl, (.sc (.string ⟨#[]⟩)), (.sc (.int .i64 0)), (.sc (.bool false)), (.sc (.int .i64 0)), (.sc (.bool false)), (.sc (.string ⟨#[]⟩)), .nl, (.sc (.int .i64 0)), (.sc (.bool false)), (.sc (.bool false)), (.sc (.string ⟨#[]⟩)), (.sc (.bool false)), .nl, (.sc (.int .i64 0)), (.sc (.bool false)), .nl, .nl, .nl] H fun t5 H =>
 p.store 25 t5 (.agg ct8) H fun H =>
 p.call 4 (.fn 109 [] []) [a0, (.sc (.int .i64 4)), (.sc (.int .i64 7))] H fun t10 H =>
 p.un .not t10 fun t11 =>
 p.guard t11 true H (fun k' => k' a0 H) fun t13 H =>
 p.guard t11 true H (fun k' => p.bin .neq t13 (.sc (.int .i64 11)) fun t' => k' t' H) fun t14 H =>
 p.pick t11 t14 (.sc (.bool false)) fun t15 =>
 p.guard t15 false H (fun k' => p.load true 25 t5 H fun t' => k' t' H) fun t17 H =>
 p.guard t15 false H (fun k' => p.call 4 (.fn 121 [] []) [t17] H fun t' H => k' t' H) fun t18 H =>
 p.guard t15 false H (fun k' => p.un .not t18 fun t' => k' t' H) fun t19 H =>
 p.pick t15 (.sc (.bool true)) t19 fun t20 =>
 p.cond t20
 (p.fill [(.sc (.int .i64 0)), (.sc (.bool false)), (.sc (.int .i64 0)), (.sc (.bool false)), (.sc (.int .i64 0)), (.sc (.string ⟨#[]⟩)), .nl, (.sc (.string ⟨#[]⟩)), (.sc (.int .i64 0)), (.sc (.bool false)), (.sc (.int .i64 0)), (.sc (.bool false)), (.sc (.string ⟨#[]⟩)), .nl, (.sc (.int .i64 0)), (.sc (.bool false)), (.sc (.bool false)), (.sc (.string ⟨#[]⟩)), (.sc (.bool false)), .nl, (.sc (.int .i64 0)), (.sc (.bool false)), .nl, .nl, .nl] [] fun ct21 =>
 p.store 25 t4 (.agg ct21) H fun H =>
 p.load true 25 t4 H fun r0 =>
 k r0 H)
 (p.load true 25 t5 H fun t22 =>
 p.store 25 t4 t22 H fun H =>
 p.load true 25 t4 H fun r0 =>
 k r0 H)
theorem f68_body (p : Pr β) (n : Nat) (a0 a1 : AV) (H : Heap) (k : AV → Heap → Option β) : evalBody ti0 p n ⟨c68, 23, Go.Proofs.Tryz.f68.results.toList, o68⟩ [a0, a1] H k = f68 p n a0 a1 H k := by kernel_rfl
noncomputable def f69 (p : Pr β) (n : Nat) (a0 a1 a2 : AV) (H : Heap) (k : AV → Heap → Option β) : Option β :=
 p.box a0 H fun t3 H =>
 p.new [(.sc (.int .i64 0)), (.sc (.bool false)), (.sc (.int .i64 0)), (.sc (.bool false)), (.sc (.int .i64 0)), (.sc (.string ⟨#[]⟩)), .nl, (.sc (.string ⟨#[]⟩)), (.sc (.int .i64 0)), (.sc (.bool false)), (.sc (.int .i64 0)), (.sc (.bool false)), (.sc (.string ⟨#[]⟩)), .nl, (.sc (.int .i64 0)), (.sc (.bool false)), (.sc (.bool false)), (.sc (.string ⟨#[]⟩)), (.sc (.bool false)), .nl, (.sc (.int .i64 0)), (.sc (.bool false)), .nl, .nl, .nl] H fun t6 H =>
 p.fadr 2 t3 fun t8 =>
 p.load false 1 t8 H fun t9 =>
 p.fadr 3 t3 fun t10 =>
 p.load false 1 t10 H fun t11 =>
 p.fadr 0 t3 fun t13 =>
 p.load false 1 t13 H fun t14 =>
 p.fadr 1 t3 fun t16 =>
 p.load false 1 t16 H fun t17 =>
 p.app 1 1 .nl t17 H fun t18 H =>
 p.fill [(.sc (.int .i64 0)), (.sc (.bool false)), (.sc (.int .i64 0)), (.sc (.bool false)), (.sc (.int .i64 0)), (.sc (.string ⟨#[]⟩)), .nl, (.sc (.string ⟨#[]⟩)), (.sc (.int .i64 0)), (.sc (.bool false)), (.sc (.int .i64 0)), (.sc (.bool false)), (.sc (.string ⟨#[]⟩)), .nl, (.sc (.int .i64 0)), (.sc (.bool false)), (.sc (.bool false)), (.sc (.string ⟨#[]⟩)), (.sc (.bool false)), .nl, (.sc (.int .i64 0)), (.sc (.bool false)), .nl, .nl, .nl] [(0, 1, (.sc (.int .i64 3))), (1, 1, a2), (2, 1, t9), (3, 1, t11), (4, 1, a1), (5, 1, t14), (6, 1, t18)] fun ct19 =>
 p.store 25 t6 (.agg ct19) H fun H =>
 p.load true 25 t6 H fun r0 =>
 k r0 H
theorem f69_body (p : Pr β) (n : Nat) (a0 a1 a2 : AV) (H : Heap) (k : AV → Heap → Option β) : evalBody ti0 p n ⟨c69, 20, Go.Proofs.Tryz.f69.results.toList, o69⟩ [a0, a1, a2] H k = f69 p n a0 a1 a2 H k := by kernel_rfl
noncomputable def f26_l0 (p : Pr β) (n : Nat)  (k : AV → Heap → Option β) : Nat → AV → AV → AV → Heap → Option β
 | 0, _, _, _, _ => none
 | m + 1, t1, t3, t4, H => p.fadr 1 t1 fun t8 =>
   p.load false 1 t8 H fun t9 =>
   p.len t9 fun t10 =>
   p.bin .lss t4 t10 fun t11 =>
   p.guard t11 true H (fun k' => p.load true 3 t1 H fun t' => k' t' H) fun t13 H =>
   p.guard t11 true H (fun k' => p.call 4 (.fn 67 [] []) [t13] H fun t' H => k' t' H) fun t14 H =>
   p.pick t11 t14 (.sc (.bool false)) fun t15 =>
   p.cond t15
   (p.fadr 1 t1 fun t18 =>
   p.load false 1 t18 H fun t19 =>
   p.iadr 6 t19 t4 fun t21 =>
   p.load true 6 t21 H fun t22 =>
   p.new [(.sc (.int .i64 0)), (.sc (.string ⟨#[]⟩)), .nl, (.sc (.int .i64 0)), (.sc (.bool false)), (.sc (.int .i64 0))] H fun t5 H =>
   p.store 6 t5 t22 H fun H =>
   p.fadr 5 t5 fun t23 =>
   p.load false 1 t23 H fun t24 =>
   p.bin .eql t24 (.sc (.int .i64 3)) fun t25 =>
   p.cond t25
   (p.fadr 0 t5 fun t27 =>
   p.load false 1 t27 H fun t28 =>
   p.call 66 (.fn 68 [] []) [(.sc (.int .i64 6)), t28] H fun t29 H =>
   p.fill [(.sc (.int .i64 0)), (.sc (.bool false)), (.sc (.int .i64 0)), (.sc (.bool false)), (.sc (.int .i64 0)), (.sc (.string ⟨#[]⟩)), .nl, (.sc (.string ⟨#[]⟩)), (.sc (.int .i64 0)), (.sc (.bool false)), (.sc (.int .i64 0)), (.sc (.bool false)), (.sc (.string ⟨#[]⟩)), .nl, (.sc (.int .i64 0)), (.sc (.bool false)), (.sc (.bool false)), (.sc (.string ⟨#[]⟩)), (.sc (.bool false)), .nl, (.sc (.int .i64 0)), (.sc (.bool false)), .nl, .nl, .nl] [(0, 25, t29)] fun ct30 => p.newSl 1 25 ct30 true H fun t30 H =>
   p.app 25 320 t3 t30 H fun t31 H =>
   p.bin .add t4 (.sc (.int .i64 1)) fun t17 =>
   f26_l0 p n  k m t1 t31 t17 H)
   (p.fadr 1 t5 fun t33 =>
   p.load true 4 t33 H fun t34 =>
   p.fadr 0 t5 fun t35 =>
   p.load false 1 t35 H fun t36 =>
   p.call 66 (.fn 69 [] []) [t34, t36, (.sc (.bool true))] H fun t37 H =>
   p.fill [(.sc (.int .i64 0)), (.sc (.bool false)), (.sc (.int .i64 0)), (.sc (.bool false)), (.sc (.int .i64 0)), (.sc (.string ⟨#[]⟩)), .nl, (.sc (.string ⟨#[]⟩)), (.sc (.int .i64 0)), (.sc (.bool false)), (.sc (.int .i64 0)), (.sc (.bool false)), (.sc (.string ⟨#[]⟩)), .nl, (.sc (.int .i64 0)), (.sc (.bool false)), (.sc (.bool false)), (.sc (.string ⟨#[]⟩)), (.sc (.bool false)), .nl, (.sc (.int .i64 0)), (.sc (.bool false)), .nl, .nl, .nl] [(0, 25, t37)] fun ct38 => p.newSl 1 25 ct38 true H fun t38 H =>
   p.app 25 320 t3 t38 H fun t39 H =>
   p.bin .add t4 (.sc (.int .i64 1)) fun t17 =>
   f26_l0 p n  k m t1 t39 t17 H))
   (k t3 H)
noncomputable def f26 (p : Pr β) (n : Nat) (a0 : AV) (H : Heap) (k : AV → Heap → Option β) : Option β :=
 p.box a0 H fun t1 H =>
 f26_l0 p n  k n t1 .nl (.sc (.int .i64 0)) H
noncomputable def f26_L0 (p : Pr β) (n : Nat)  (k : AV → Heap → Option β) (m : Nat) (tm : Tm) (H : Heap) : Option β :=
 iterC 41 (fun tm H k => evalCode ti0 p o26 41 n (cd c26 [1, 1, 0, 1, 0, 0]) tm H k) (blkK 0 (seqK (fun tm H => evalCode ti0 p o26 41 n (cd c26 [1, 1, 1]) tm H (endK ti0 p Go.Proofs.Tryz.f26.results.toList k)) (endK ti0 p Go.Proofs.Tryz.f26.results.toList k))) m tm H
theorem f26_L0_step (p : Pr β) (n : Nat)  (k : AV → Heap → Option β) (m0 : Nat) (t : Nat → AV) (H : Heap) : f26_L0 p n  k (m0 + 1) (tf 41 0 t) H =
 p.fadr 1 (t 1) fun t8 =>
 p.load false 1 t8 H fun t9 =>
 p.len t9 fun t10 =>
 p.bin .lss (t 4) t10 fun t11 =>
 p.guard t11 true H (fun k' => p.load true 3 (t 1) H fun t' => k' t' H) fun t13 H =>
 p.guard t11 true H (fun k' => p.call 4 (.fn 67 [] []) [t13] H fun t' H => k' t' H) fun t14 H =>
 p.pick t11 t14 (.sc (.bool false)) fun t15 =>
 p.cond t15
 (p.fadr 1 (t 1) fun t18 =>
 p.load false 1 t18 H fun t19 =>
 p.iadr 6 t19 (t 4) fun t21 =>
 p.load true 6 t21 H fun t22 =>
 p.new [(.sc (.int .i64 0)), (.sc (.string ⟨#[]⟩)), .nl, (.sc (.int .i64 0)), (.sc (.bool false)), (.sc (.int .i64 0))] H fun t5 H =>
 p.store 6 t5 t22 H fun H =>
 p.fadr 5 t5 fun t23 =>
 p.load false 1 t23 H fun t24 =>
 p.bin .eql t24 (.sc (.int .i64 3)) fun t25 =>
 p.cond t25
 (p.fadr 0 t5 fun t27 =>
 p.load false 1 t27 H fun t28 =>
 p.call 66 (.fn 68 [] []) [(.sc (.int .i64 6)), t28] H fun t29 H =>
 p.fill [(.sc (.int .i64 0)), (.sc (.bool false)), (.sc (.int .i64 0)), (.sc (.bool false)), (.sc (.int .i64 0)), (.sc (.string ⟨#[]⟩)), .nl, (.sc (.string ⟨#[]⟩)), (.sc (.int .i64 0)), (.sc (.bool false)), (.sc (.int .i64 0)), (.sc (.bool false)), (.sc (.string ⟨#[]⟩)), .nl, (.sc (.int .i64 0)), (.sc (.bool false)), (.sc (.bool false)), (.sc (.string ⟨#[]⟩)), (.sc (.bool false)), .nl, (.sc (.int .i64 0)), (.sc (.bool false)), .nl, .nl, .nl] [(0, 25, t29)] fun ct30 => p.newSl 1 25 ct30 true H fun t30 H =>
 p.app 25 320 (t 3) t30 H fun t31 H =>
 p.bin .add (t 4) (.sc (.int .i64 1)) fun t17 =>
 f26_L0 p n  k m0 (tf 41 0 (ud [(3, t31), (4, t17), (5, t5), (7, (t 4)), (8, t8), (9, t9), (10, t10), (11, t11), (12, t11), (13, t13), (14, t14), (15, t15), (16, (t 4)), (17, t17), (18, t18), (19, t19), (20, (t 4)), (21, t21), (22, t22), (23, t23), (24, t24), (25, t25), (26, (t 3)), (27, t27), (28, t28), (29, t29), (30, t30), (31, t31)] t)) H)
 (p.fadr 1 t5 fun t33 =>
 p.load true 4 t33 H fun t34 =>
 p.fadr 0 t5 fun t35 =>
 p.load false 1 t35 H fun t36 =>
 p.call 66 (.fn 69 [] []) [t34, t36, (.sc (.bool true))] H fun t37 H =>
 p.fill [(.sc (.int .i64 0)), (.sc (.bool false)), (.sc (.int .i64 0)), (.sc (.bool false)), (.sc (.int .i64 0)), (.sc (.string ⟨#[]⟩)), .nl, (.sc (.string ⟨#[]⟩)), (.sc (.int .i64 0)), (.sc (.bool false)), (.sc (.int .i64 0)), (.sc (.bool false)), (.sc (.string ⟨#[]⟩)), .nl, (.sc (.int .i64 0)), (.sc (.bool false)), (.sc (.bool false)), (.sc (.string ⟨#[]⟩)), (.sc (.bool false)), .nl, (.sc (.int .i64 0)), (.sc (.bool false)), .nl, .nl, .nl] [(0, 25, t37)] fun ct38 => p.newSl 1 25 ct38 true H fun t38 H =>
 p.app 25 320 (t 3) t38 H fun t39 H =>
 p.bin .add (t 4) (.sc (.int .i64 1)) fun t17 =>
 f26_L0 p n  k m0 (tf 41 0 (ud [(3, t39), (4, t17), (5, t5), (7, (t 4)), (8, t8), (9, t9), (10, t10), (11, t11), (12, t11), (13, t13), (14, t14), (15, t15), (16, (t 4)), (17, t17), (18, t18), (19, t19), (20, (t 4)), (21, t21), (22, t22), (23, t23), (24, t24), (25, t25), (32, (t 3)), (33, t33), (34, t34), (35, t35), (36, t36), (37, t37), (38, t38), (39, t39)] t)) H))
 (k (t 3) H) := by kernel_rfl
theorem f26_l0_eq (p : Pr β) (n : Nat)  (k : AV → Heap → Option β)   (m0 : Nat) : ∀ (t : Nat → AV) (H : Heap), f26_L0 p n  k m0 (tf 41 0 t) H = f26_l0 p n  k m0 (t 1) (t 3) (t 4) H := by
 induction m0 with
 | zero => intros; rfl
 | succ m0 ih =>
  intro t H
  rw [f26_L0_step]
  simp only [ih]
  kernel_rfl
theorem f26_raw (p : Pr β) (n : Nat) (a0 : AV) (H : Heap) (k : AV → Heap → Option β) : evalBody ti0 p n ⟨c26, 41, Go.Proofs.Tryz.f26.results.toList, o26⟩ [a0] H k =
 p.box a0 H fun t1 H =>
 f26_L0 p n  k n (tf 41 0 (ud [(0, a0), (1, t1), (2, .nl), (3, .nl), (4, (.sc (.int .i64 0))), (6, .nl)] ut)) H := by kernel_rfl
theorem f26_body (p : Pr β) (n : Nat) (a0 : AV) (H : Heap) (k : AV → Heap → Option β) : evalBody ti0 p n ⟨c26, 41, Go.Proofs.Tryz.f26.results.toList, o26⟩ [a0] H k = f26 p n a0 H k := by
 rw [f26_raw]
 simp only [f26_l0_eq]
 kernel_rfl
noncomputable def f114 (p : Pr β) (n : Nat) (a0 a1 a2 : AV) (H : Heap) (k : AV → Heap → Option β) : Option β :=
 p.bin .geq a0 a1 fun t9 =>
 p.guard t9 true H (fun k' => k' a0 H) fun t11 H =>
 p.guard t9 true H (fun k' => k' a2 H) fun t12 H =>
 p.guard t9 true H (fun k' => p.bin .leq t11 t12 fun t' => k' t' H) fun t13 H =>
 p.pick t9 t13 (.sc (.bool false)) fun t14 =>
 k t14 H
theorem f114_body (p : Pr β) (n : Nat) (a0 a1 a2 : AV) (H : Heap) (k : AV → Heap → Option β) : evalBody ti0 p n ⟨c114, 15, Go.Proofs.Tryz.f114.results.toList, o114⟩ [a0, a1, a2] H k = f114 p n a0 a1 a2 H k := by kernel_rfl
noncomputable def f123 (p : Pr β) (n : Nat) (a0 : AV) (H : Heap) (k : AV → Heap → Option β) : Option β :=
 p.call 4 (.fn 114 [] []) [a0, (.sc (.int .i64 1)), (.sc (.int .i64 65535))] H fun t4 H =>
 k t4 H
theorem f123_body (p : Pr β) (n : Nat) (a0 : AV) (H : Heap) (k : AV → Heap → Option β) : evalBody ti0 p n ⟨c123, 5, Go.Proofs.Tryz.f123.results.toList, o123⟩ [a0] H k = f123 p n a0 H k := by kernel_rfl
noncomputable def f137 (p : Pr β) (n : Nat) (a0 a1 : AV) (H : Heap) (k : AV → Heap → Option β) : Option β :=
 p.box a0 H fun t2 H =>
 p.fadr 0 t2 fun t4 =>
 p.load false 1 t4 H fun t5 =>
 p.load false 1 a1 H fun t6 =>
 p.bin .eql t5 t6 fun t7 =>
 k t7 H
theorem f137_body (p : Pr β) (n : Nat) (a0 a1 : AV) (H : Heap) (k : AV → Heap → Option β) : evalBody ti0 p n ⟨c137, 8, Go.Proofs.Tryz.f137.results.toList, o137⟩ [a0, a1] H k = f137 p n a0 a1 H k := by kernel_rfl
noncomputable def f136_l0 (p : Pr β) (n : Nat)  (k : AV → Heap → Option β) : Nat → AV → AV → AV → AV → Heap → Option β
 | 0, _, _, _, _, _ => none
 | m + 1, t0, t1, t7, t8, H => p.bin .lss t8 t7 fun t9 =>
   p.cond t9
   (p.iadr 6 t0 t8 fun t14 =>
   p.load true 6 t14 H fun t15 =>
   p.call 4 t1 [t15] H fun t16 H =>
   p.cond t16
   (k t8 H)
   (p.bin .add t8 (.sc (.int .i64 1)) fun t18 =>
   f136_l0 p n  k m t0 t1 t7 t18 H))
   (k (.sc (.int .i64 (-1))) H)
noncomputable def f136 (p : Pr β) (n : Nat) (a0 a1 : AV) (H : Heap) (k : AV → Heap → Option β) : Option β :=
 p.len a0 fun t7 =>
 f136_l0 p n  k n a0 a1 t7 (.sc (.int .i64 0)) H
noncomputable def f136_L0 (p : Pr β) (n : Nat)  (k : AV → Heap → Option β) (m : Nat) (tm : Tm) (H : Heap) : Option β :=
 iterC 19 (fun tm H k => evalCode ti0 p o136 19 n (cd c136 [1, 0, 1, 0, 0]) tm H k) (blkK 0 (seqK (fun tm H => evalCode ti0 p o136 19 n (cd c136 [1, 1]) tm H (endK ti0 p Go.Proofs.Tryz.f136.results.toList k)) (endK ti0 p Go.Proofs.Tryz.f136.results.toList k))) m tm H
theorem f136_L0_step (p : Pr β) (n : Nat)  (k : AV → Heap → Option β) (m0 : Nat) (t : Nat → AV) (H : Heap) : f136_L0 p n  k (m0 + 1) (tf 19 0 t) H =
 p.bin .lss (t 8) (t 7) fun t9 =>
 p.cond t9
 (p.iadr 6 (t 0) (t 8) fun t14 =>
 p.load true 6 t14 H fun t15 =>
 p.call 4 (t 1) [t15] H fun t16 H =>
 p.cond t16
 (k (t 8) H)
 (p.bin .add (t 8) (.sc (.int .i64 1)) fun t18 =>
 f136_L0 p n  k m0 (tf 19 0 (ud [(5, (t 8)), (8, t18), (9, t9), (10, (t 8)), (11, (t 1)), (12, (t 0)), (13, (t 8)), (14, t14), (15, t15), (16, t16), (18, t18)] t)) H))
 (k (.sc (.int .i64 (-1))) H) := by kernel_rfl
theorem f136_l0_eq (p : Pr β) (n : Nat)  (k : AV → Heap → Option β)   (m0 : Nat) : ∀ (t : Nat → AV) (H : Heap), f136_L0 p n  k m0 (tf 19 0 t) H = f136_l0 p n  k m0 (t 0) (t 1) (t 7) (t 8) H := by
 induction m0 with
 | zero => intros; rfl
 | succ m0 ih =>
  intro t H
  rw [f136_L0_step]
  simp only [ih]
  kernel_rfl
theorem f136_raw (p : Pr β) (n : Nat) (a0 a1 : AV) (H : Heap) (k : AV → Heap → Option β) : evalBody ti0 p n ⟨c136, 19, Go.Proofs.Tryz.f136.results.toList, o136⟩ [a0, a1] H k =
 p.len a0 fun t7 =>
 f136_L0 p n  k n (tf 19 0 (ud [(0, a0), (1, a1), (4, (.sc (.int .i64 0))), (6, a0), (7, t7), (8, (.sc (.int .i64 0)))] ut)) H := by kernel_rfl
theorem f136_body (p : Pr β) (n : Nat) (a0 a1 : AV) (H : Heap) (k : AV → Heap → Option β) : evalBody ti0 p n ⟨c136, 19, Go.Proofs.Tryz.f136.results.toList, o136⟩ [a0, a1] H k = f136 p n a0 a1 H k := by
 rw [f136_raw]
 simp only [f136_l0_eq]
 kernel_rfl
noncomputable def f97 (p : Pr β) (n : Nat) (a0 a1 : AV) (H : Heap) (k : AV → Heap → Option β) : Option β :=
 p.box a1 H fun t3 H =>
 p.call 3 (.fn 136 [] []) [a0, (.fn 137 [] [t3])] H fun t7 H =>
 k t7 H
theorem f97_body (p : Pr β) (n : Nat) (a0 a1 : AV) (H : Heap) (k : AV → Heap → Option β) : evalBody ti0 p n ⟨c97, 8, Go.Proofs.Tryz.f97.results.toList, o97⟩ [a0, a1] H k = f97 p n a0 a1 H k := by kernel_rfl
noncomputable def f163 (p : Pr β) (n : Nat) (a0 : AV) (H : Heap) (k : AV → Heap → Option β) : Option β :=
 p.call 64 (.fn 172 [] []) [a0, (.sc (.string ⟨#[47]⟩))] H fun t4 H =>
 k t4 H
theorem f163_body (p : Pr β) (n : Nat) (a0 : AV) (H : Heap) (k : AV → Heap → Option β) : evalBody ti0 p n ⟨c163, 5, Go.Proofs.Tryz.f163.results.toList, o163⟩ [a0] H k = f163 p n a0 H k := by kernel_rfl
noncomputable def f148 (p : Pr β) (n : Nat) (a0 : AV) (H : Heap) (k : AV → Heap → Option β) : Option β :=
 p.call 4 (.fn 143 [] []) [a0] H fun t4 H =>
 p.guard t4 true H (fun k' => k' a0 H) fun t6 H =>
 p.guard t4 true H (fun k' => p.bin .neq t6 (.sc (.string ⟨#[]⟩)) fun t' => k' t' H) fun t7 H =>
 p.pick t4 t7 (.sc (.bool false)) fun t8 =>
 p.guard t8 true H (fun k' => k' a0 H) fun t10 H =>
 p.guard t8 true H (fun k' => p.call 4 (.fn 162 [] []) [t10, (.sc (.string ⟨#[43, 35]⟩))] H fun t' H => k' t' H) fun t11 H =>
 p.guard t8 true H (fun k' => p.un .not t11 fun t' => k' t' H) fun t12 H =>
 p.pick t8 t12 (.sc (.bool false)) fun t13 =>
 p.guard t13 true H (fun k' => k' a0 H) fun t15 H =>
 p.guard t13 true H (fun k' => p.call 64 (.fn 163 [] []) [t15] H fun t' H => k' t' H) fun t16 H =>
 p.guard t13 true H (fun k' => p.len t16 fun t' => k' t' H) fun t17 H =>
 p.guard t13 true H (fun k' => p.bin .leq t17 (.sc (.int .i64 6)) fun t' => k' t' H) fun t18 H =>
 p.pick t13 t18 (.sc (.bool false)) fun t19 =>
 k t19 H
theorem f148_body (p : Pr β) (n : Nat) (a0 : AV) (H : Heap) (k : AV → Heap → Option β) : evalBody ti0 p n ⟨c148, 20, Go.Proofs.Tryz.f148.results.toList, o148⟩ [a0] H k = f148 p n a0 H k := by kernel_rfl
noncomputable def f149 (p : Pr β) (n : Nat) (a0 : AV) (H : Heap) (k : AV → Heap → Option β) : Option β :=
 p.call 4 (.fn 114 [] []) [a0, (.sc (.int .i64 0)), (.sc (.int .i64 2))] H fun t4 H =>
 k t4 H
theorem f149_body (p : Pr β) (n : Nat) (a0 : AV) (H : Heap) (k : AV → Heap → Option β) : evalBody ti0 p n ⟨c149, 5, Go.Proofs.Tryz.f149.results.toList, o149⟩ [a0] H k = f149 p n a0 H k := by kernel_rfl
noncomputable def f124 (p : Pr β) (n : Nat) (a0 : AV) (H : Heap) (k : AV → Heap → Option β) : Option β :=
 p.box a0 H fun t1 H =>
 p.fadr 0 t1 fun t3 =>
 p.load false 1 t3 H fun t4 =>
 p.call 4 (.fn 148 [] []) [t4] H fun t5 H =>
 p.guard t5 true H (fun k' => p.fadr 1 t1 fun t' => k' t' H) fun t7 H =>
 p.guard t5 true H (fun k' => p.load false 1 t7 H fun t' => k' t' H) fun t8 H =>
 p.guard t5 true H (fun k' => p.len t8 fun t' => k' t' H) fun t9 H =>
 p.guard t5 true H (fun k' => p.bin .leq t9 (.sc (.int .i64 40)) fun t' => k' t' H) fun t10 H =>
 p.pick t5 t10 (.sc (.bool false)) fun t11 =>
 p.guard t11 true H (fun k' => p.fadr 2 t1 fun t' => k' t' H) fun t13 H =>
 p.guard t11 true H (fun k' => p.load false 1 t13 H fun t' => k' t' H) fun t14 H =>
 p.guard t11 true H (fun k' => p.call 4 (.fn 149 [] []) [t14] H fun t' H => k' t' H) fun t15 H =>
 p.pick t11 t15 (.sc (.bool false)) fun t16 =>
 k t16 H
theorem f124_body (p : Pr β) (n : Nat) (a0 : AV) (H : Heap) (k : AV → Heap → Option β) : evalBody ti0 p n ⟨c124, 17, Go.Proofs.Tryz.f124.results.toList, o124⟩ [a0] H k = f124 p n a0 H k := by kernel_rfl
noncomputable def f125 (p : Pr β) (n : Nat) (a0 : AV) (H : Heap) (k : AV → Heap → Option β) : Option β :=
 p.call 4 (.fn 114 [] []) [a0, (.sc (.int .i64 0)), (.sc (.int .i64 65535))] H fun t4 H =>
 k t4 H
theorem f125_body (p : Pr β) (n : Nat) (a0 : AV) (H : Heap) (k : AV → Heap → Option β) : evalBody ti0 p n ⟨c125, 5, Go.Proofs.Tryz.f125.results.toList, o125⟩ [a0] H k = f125 p n a0 H k := by kernel_rfl
noncomputable def f150_l0 (p : Pr β) (n : Nat)  (k : AV → Heap → Option β) : Nat → AV → AV → AV → Heap → Option β
 | 0, _, _, _, _ => none
 | m + 1, t5, t6, t7, H => p.bin .lss t7 t6 fun t8 =>
   p.cond t8
   (p.iadr 4 t5 t7 fun t9 =>
   p.load true 4 t9 H fun t10 =>
   p.new [(.sc (.string ⟨#[]⟩)), .nl, (.sc (.int .i64 0)), (.sc (.bool false))] H fun t4 H =>
   p.store 4 t4 t10 H fun H =>
   p.load true 4 t4 H fun t11 =>
   p.call 4 (.fn 124 [] []) [t11] H fun t12 H =>
   p.un .not t12 fun t13 =>
   p.cond t13
   (k (.sc (.bool false)) H)
   (p.bin .add t7 (.sc (.int .i64 1)) fun t14 =>
   f150_l0 p n  k m t5 t6 t14 H))
   (k (.sc (.bool true)) H)
noncomputable def f150 (p : Pr β) (n : Nat) (a0 : AV) (H : Heap) (k : AV → Heap → Option β) : Option β :=
 p.len a0 fun t6 =>
 f150_l0 p n  k n a0 t6 (.sc (.int .i64 0)) H
noncomputable def f150_L0 (p : Pr β) (n : Nat)  (k : AV → Heap → Option β) (m : Nat) (tm : Tm) (H : Heap) : Option β :=
 iterC 15 (fun tm H k => evalCode ti0 p o150 15 n (cd c150 [1, 0, 1, 0, 0]) tm H k) (blkK 0 (seqK (fun tm H => evalCode ti0 p o150 15 n (cd c150 [1, 1]) tm H (endK ti0 p Go.Proofs.Tryz.f150.results.toList k)) (endK ti0 p Go.Proofs.Tryz.f150.results.toList k))) m tm H
theorem f150_L0_step (p : Pr β) (n : Nat)  (k : AV → Heap → Option β) (m0 : Nat) (t : Nat → AV) (H : Heap) : f150_L0 p n  k (m0 + 1) (tf 15 0 t) H =
 p.bin .lss (t 7) (t 6) fun t8 =>
 p.cond t8
 (p.iadr 4 (t 5) (t 7) fun t9 =>
 p.load true 4 t9 H fun t10 =>
 p.new [(.sc (.string ⟨#[]⟩)), .nl, (.sc (.int .i64 0)), (.sc (.bool false))] H fun t4 H =>
 p.store 4 t4 t10 H fun H =>
 p.load true 4 t4 H fun t11 =>
 p.call 4 (.fn 124 [] []) [t11] H fun t12 H =>
 p.un .not t12 fun t13 =>
 p.cond t13
 (k (.sc (.bool false)) H)
 (p.bin .add (t 7) (.sc (.int .i64 1)) fun t14 =>
 f150_L0 p n  k m0 (tf 15 0 (ud [(4, t4), (7, t14), (8, t8), (9, t9), (10, t10), (11, t11), (12, t12), (13, t13), (14, t14)] t)) H))
 (k (.sc (.bool true)) H) := by kernel_rfl
theorem f150_l0_eq (p : Pr β) (n : Nat)  (k : AV → Heap → Option β)   (m0 : Nat) : ∀ (t : Nat → AV) (H : Heap), f150_L0 p n  k m0 (tf 15 0 t) H = f150_l0 p n  k m0 (t 5) (t 6) (t 7) H := by
 induction m0 with
 | zero => intros; rfl
 | succ m0 ih =>
  intro t H
  rw [f150_L0_step]
  simp only [ih]
  kernel_rfl
theorem f150_raw (p : Pr β) (n : Nat) (a0 : AV) (H : Heap) (k : AV → Heap → Option β) : evalBody ti0 p n ⟨c150, 15, Go.Proofs.Tryz.f150.results.toList, o150⟩ [a0] H k =
 p.len a0 fun t6 =>
 f150_L0 p n  k n (tf 15 0 (ud [(0, a0), (2, (.sc (.bool false))), (5, a0), (6, t6), (7, (.sc (.int .i64 0)))] ut)) H := by kernel_rfl
theorem f150_body (p : Pr β) (n : Nat) (a0 : AV) (H : Heap) (k : AV → Heap → Option β) : evalBody ti0 p n ⟨c150, 15, Go.Proofs.Tryz.f150.results.toList, o150⟩ [a0] H k = f150 p n a0 H k := by
 rw [f150_raw]
 simp only [f150_l0_eq]
 kernel_rfl
noncomputable def f126 (p : Pr β) (n : Nat) (a0 : AV) (H : Heap) (k : AV → Heap → Option β) : Option β :=
 p.len a0 fun t4 =>
 p.bin .leq t4 (.sc (.int .i64 6)) fun t5 =>
 p.guard t5 true H (fun k' => k' a0 H) fun t7 H =>
 p.guard t5 true H (fun k' => p.call 4 (.fn 150 [] []) [t7] H fun t' H => k' t' H) fun t8 H =>
 p.pick t5 t8 (.sc (.bool false)) fun t9 =>
 k t9 H
theorem f126_body (p : Pr β) (n : Nat) (a0 : AV) (H : Heap) (k : AV → Heap → Option β) : evalBody ti0 p n ⟨c126, 10, Go.Proofs.Tryz.f126.results.toList, o126⟩ [a0] H k = f126 p n a0 H k := by kernel_rfl
noncomputable def f72_l0 (p : Pr β) (n : Nat)  (k : AV → Heap → Option β) : Nat → AV → AV → AV → AV → Heap → Option β
 | 0, _, _, _, _, _ => none
 | m + 1, t1, t6, t7, t8, H => p.bin .lss t8 t7 fun t9 =>
   p.cond t9
   (p.iadr 6 t6 t8 fun t11 =>
   p.load true 6 t11 H fun t12 =>
   p.new [(.sc (.int .i64 0)), (.sc (.string ⟨#[]⟩)), .nl, (.sc (.int .i64 0)), (.sc (.bool false)), (.sc (.int .i64 0))] H fun t4 H =>
   p.store 6 t4 t12 H fun H =>
   p.fadr 0 t4 fun t13 =>
   p.load false 1 t13 H fun t14 =>
   p.call 4 (.fn 123 [] []) [t14] H fun t15 H =>
   p.un .not t15 fun t16 =>
   p.guard t16 false H (fun k' => p.fadr 1 t1 fun t' => k' t' H) fun t18 H =>
   p.guard t16 false H (fun k' => p.load false 1 t18 H fun t' => k' t' H) fun t19 H =>
   p.guard t16 false H (fun k' => p.fadr 0 t4 fun t' => k' t' H) fun t20 H =>
   p.guard t16 false H (fun k' => p.load false 1 t20 H fun t' => k' t' H) fun t21 H =>
   p.guard t16 false H (fun k' => p.call 3 (.fn 97 [] []) [t19, t21] H fun t' H => k' t' H) fun t22 H =>
   p.guard t16 false H (fun k' => k' t8 H) fun t23 H =>
   p.guard t16 false H (fun k' => p.bin .neq t22 t23 fun t' => k' t' H) fun t24 H =>
   p.pick t16 (.sc (.bool true)) t24 fun t25 =>
   p.guard t25 false H (fun k' => p.fadr 1 t4 fun t' => k' t' H) fun t27 H =>
   p.guard t25 false H (fun k' => p.load true 4 t27 H fun t' => k' t' H) fun t28 H =>
   p.guard t25 false H (fun k' => p.call 4 (.fn 124 [] []) [t28] H fun t' H => k' t' H) fun t29 H =>
   p.guard t25 false H (fun k' => p.un .not t29 fun t' => k' t' H) fun t30 H =>
   p.pick t25 (.sc (.bool true)) t30 fun t31 =>
   p.cond t31
   (k (.sc (.bool false)) H)
   (p.fadr 1 t4 fun t32 =>
   p.fadr 2 t32 fun t33 =>
   p.load false 1 t33 H fun t34 =>
   p.bin .eql t34 (.sc (.int .i64 0)) fun t35 =>
   p.guard t35 false H (fun k' => p.fadr 1 t4 fun t' => k' t' H) fun t37 H =>
   p.guard t35 false H (fun k' => p.fadr 2 t37 fun t' => k' t' H) fun t38 H =>
   p.guard t35 false H (fun k' => p.load false 1 t38 H fun t' => k' t' H) fun t39 H =>
   p.guard t35 false H (fun k' => p.bin .eql t39 (.sc (.int .i64 1)) fun t' => k' t' H) fun t40 H =>
   p.guard t35 false H (fun k' => p.fadr 5 t4 fun t' => k' t' H) fun t41 H =>
   p.guard t35 false H (fun k' => p.load false 1 t41 H fun t' => k' t' H) fun t42 H =>
   p.guard t35 false H (fun k' => p.bin .eql t42 (.sc (.int .i64 1)) fun t' => k' t' H) fun t43 H =>
   p.guard t35 false H (fun k' => p.binB .neq t40 t43 fun t' => k' t' H) fun t44 H =>
   p.pick t35 (.sc (.bool true)) t44 fun t45 =>
   p.guard t45 false H (fun k' => p.fadr 5 t4 fun t' => k' t' H) fun t47 H =>
   p.guard t45 false H (fun k' => p.load false 1 t47 H fun t' => k' t' H) fun t48 H =>
   p.guard t45 false H (fun k' => p.call 4 (.fn 114 [] []) [t48, (.sc (.int .i64 1)), (.sc (.int .i64 3))] H fun t' H => k' t' H) fun t49 H =>
   p.guard t45 false H (fun k' => p.un .not t49 fun t' => k' t' H) fun t50 H =>
   p.pick t45 (.sc (.bool true)) t50 fun t51 =>
   p.cond t51
   (k (.sc (.bool false)) H)
   (p.bin .add t8 (.sc (.int .i64 1)) fun t52 =>
   f72_l0 p n  k m t1 t6 t7 t52 H)))
   (p.fadr 0 t1 fun t53 =>
   p.load false 1 t53 H fun t54 =>
   p.call 4 (.fn 125 [] []) [t54] H fun t55 H =>
   p.guard t55 true H (fun k' => p.fadr 1 t1 fun t' => k' t' H) fun t57 H =>
   p.guard t55 true H (fun k' => p.load false 1 t57 H fun t' => k' t' H) fun t58 H =>
   p.guard t55 true H (fun k' => p.len t58 fun t' => k' t' H) fun t59 H =>
   p.guard t55 true H (fun k' => p.bin .leq t59 (.sc (.int .i64 3)) fun t' => k' t' H) fun t60 H =>
   p.pick t55 t60 (.sc (.bool false)) fun t61 =>
   p.guard t61 true H (fun k' => p.fadr 2 t1 fun t' => k' t' H) fun t63 H =>
   p.guard t61 true H (fun k' => p.load false 1 t63 H fun t' => k' t' H) fun t64 H =>
   p.guard t61 true H (fun k' => p.call 4 (.fn 126 [] []) [t64] H fun t' H => k' t' H) fun t65 H =>
   p.pick t61 t65 (.sc (.bool false)) fun t66 =>
   k t66 H)
noncomputable def f72 (p : Pr β) (n : Nat) (a0 : AV) (H : Heap) (k : AV → Heap → Option β) : Option β :=
 p.box a0 H fun t1 H =>
 p.fadr 1 t1 fun t5 =>
 p.load false 1 t5 H fun t6 =>
 p.len t6 fun t7 =>
 f72_l0 p n  k n t1 t6 t7 (.sc (.int .i64 0)) H
noncomputable def f72_L0 (p : Pr β) (n : Nat)  (k : AV → Heap → Option β) (m : Nat) (tm : Tm) (H : Heap) : Option β :=
 iterC 67 (fun tm H k => evalCode ti0 p o72 67 n (cd c72 [1, 0, 1, 0, 0]) tm H k) (blkK 0 (seqK (fun tm H => evalCode ti0 p o72 67 n (cd c72 [1, 1]) tm H (endK ti0 p Go.Proofs.Tryz.f72.results.toList k)) (endK ti0 p Go.Proofs.Tryz.f72.results.toList k))) m tm H
theorem f72_L0_step (p : Pr β) (n : Nat)  (k : AV → Heap → Option β) (m0 : Nat) (t : Nat → AV) (H : Heap) : f72_L0 p n  k (m0 + 1) (tf 67 0 t) H =
 p.bin .lss (t 8) (t 7) fun t9 =>
 p.cond t9
 (p.iadr 6 (t 6) (t 8) fun t11 =>
 p.load true 6 t11 H fun t12 =>
 p.new [(.sc (.int .i64 0)), (.sc (.string ⟨#[]⟩)), .nl, (.sc (.int .i64 0)), (.sc (.bool false)), (.sc (.int .i64 0))] H fun t4 H =>
 p.store 6 t4 t12 H fun H =>
 p.fadr 0 t4 fun t13 =>
 p.load false 1 t13 H fun t14 =>
 p.call 4 (.fn 123 [] []) [t14] H fun t15 H =>
 p.un .not t15 fun t16 =>
 p.guard t16 false H (fun k' => p.fadr 1 (t 1) fun t' => k' t' H) fun t18 H =>
 p.guard t16 false H (fun k' => p.load false 1 t18 H fun t' => k' t' H) fun t19 H =>
 p.guard t16 false H (fun k' => p.fadr 0 t4 fun t' => k' t' H) fun t20 H =>
 p.guard t16 false H (fun k' => p.load false 1 t20 H fun t' => k' t' H) fun t21 H =>
 p.guard t16 false H (fun k' => p.call 3 (.fn 97 [] []) [t19, t21] H fun t' H => k' t' H) fun t22 H =>
 p.guard t16 false H (fun k' => k' (t 8) H) fun t23 H =>
 p.guard t16 false H (fun k' => p.bin .neq t22 t23 fun t' => k' t' H) fun t24 H =>
 p.pick t16 (.sc (.bool true)) t24 fun t25 =>
 p.guard t25 false H (fun k' => p.fadr 1 t4 fun t' => k' t' H) fun t27 H =>
 p.guard t25 false H (fun k' => p.load true 4 t27 H fun t' => k' t' H) fun t28 H =>
 p.guard t25 false H (fun k' => p.call 4 (.fn 124 [] []) [t28] H fun t' H => k' t' H) fun t29 H =>
 p.guard t25 false H (fun k' => p.un .not t29 fun t' => k' t' H) fun t30 H =>
 p.pick t25 (.sc (.bool true)) t30 fun t31 =>
 p.cond t31
 (k (.sc (.bool false)) H)
 (p.fadr 1 t4 fun t32 =>
 p.fadr 2 t32 fun t33 =>
 p.load false 1 t33 H fun t34 =>
 p.bin .eql t34 (.sc (.int .i64 0)) fun t35 =>
 p.guard t35 false H (fun k' => p.fadr 1 t4 fun t' => k' t' H) fun t37 H =>
 p.guard t35 false H (fun k' => p.fadr 2 t37 fun t' => k' t' H) fun t38 H =>
 p.guard t35 false H (fun k' => p.load false 1 t38 H fun t' => k' t' H) fun t39 H =>
 p.guard t35 false H (fun k' => p.bin .eql t39 (.sc (.int .i64 1)) fun t' => k' t' H) fun t40 H =>
 p.guard t35 false H (fun k' => p.fadr 5 t4 fun t' => k' t' H) fun t41 H =>
 p.guard t35 false H (fun k' => p.load false 1 t41 H fun t' => k' t' H) fun t42 H =>
 p.guard t35 false H (fun k' => p.bin .eql t42 (.sc (.int .i64 1)) fun t' => k' t' H) fun t43 H =>
 p.guard t35 false H (fun k' => p.binB .neq t40 t43 fun t' => k' t' H) fun t44 H =>
 p.pick t35 (.sc (.bool true)) t44 fun t45 =>
 p.guard t45 false H (fun k' => p.fadr 5 t4 fun t' => k' t' H) fun t47 H =>
 p.guard t45 false H (fun k' => p.load false 1 t47 H fun t' => k' t' H) fun t48 H =>
 p.guard t45 false H (fun k' => p.call 4 (.fn 114 [] []) [t48, (.sc (.int .i64 1)), (.sc (.int .i64 3))] H fun t' H => k' t' H) fun t49 H =>
 p.guard t45 false H (fun k' => p.un .not t49 fun t' => k' t' H) fun t50 H =>
 p.pick t45 (.sc (.bool true)) t50 fun t51 =>
 p.cond t51
 (k (.sc (.bool false)) H)
 (p.bin .add (t 8) (.sc (.int .i64 1)) fun t52 =>
 f72_L0 p n  k m0 (tf 67 0 (ud [(3, (t 8)), (4, t4), (8, t52), (9, t9), (10, (t 8)), (11, t11), (12, t12), (13, t13), (14, t14), (15, t15), (16, t16), (17, t16), (18, t18), (19, t19), (20, t20), (21, t21), (22, t22), (23, t23), (24, t24), (25, t25), (26, t25), (27, t27), (28, t28), (29, t29), (30, t30), (31, t31), (32, t32), (33, t33), (34, t34), (35, t35), (36, t35), (37, t37), (38, t38), (39, t39), (40, t40), (41, t41), (42, t42), (43, t43), (44, t44), (45, t45), (46, t45), (47, t47), (48, t48), (49, t49), (50, t50), (51, t51), (52, t52)] t)) H)))
 (p.fadr 0 (t 1) fun t53 =>
 p.load false 1 t53 H fun t54 =>
 p.call 4 (.fn 125 [] []) [t54] H fun t55 H =>
 p.guard t55 true H (fun k' => p.fadr 1 (t 1) fun t' => k' t' H) fun t57 H =>
 p.guard t55 true H (fun k' => p.load false 1 t57 H fun t' => k' t' H) fun t58 H =>
 p.guard t55 true H (fun k' => p.len t58 fun t' => k' t' H) fun t59 H =>
 p.guard t55 true H (fun k' => p.bin .leq t59 (.sc (.int .i64 3)) fun t' => k' t' H) fun t60 H =>
 p.pick t55 t60 (.sc (.bool false)) fun t61 =>
 p.guard t61 true H (fun k' => p.fadr 2 (t 1) fun t' => k' t' H) fun t63 H =>
 p.guard t61 true H (fun k' => p.load false 1 t63 H fun t' => k' t' H) fun t64 H =>
 p.guard t61 true H (fun k' => p.call 4 (.fn 126 [] []) [t64] H fun t' H => k' t' H) fun t65 H =>
 p.pick t61 t65 (.sc (.bool false)) fun t66 =>
 k t66 H) := by kernel_rfl
theorem f72_l0_eq (p : Pr β) (n : Nat)  (k : AV → Heap → Option β)   (m0 : Nat) : ∀ (t : Nat → AV) (H : Heap), f72_L0 p n  k m0 (tf 67 0 t) H = f72_l0 p n  k m0 (t 1) (t 6) (t 7) (t 8) H := by
 induction m0 with
 | zero => intros; rfl
 | succ m0 ih =>
  intro t H
  rw [f72_L0_step]
  simp only [ih]
  kernel_rfl
theorem f72_raw (p : Pr β) (n : Nat) (a0 : AV) (H : Heap) (k : AV → Heap → Option β) : evalBody ti0 p n ⟨c72, 67, Go.Proofs.Tryz.f72.results.toList, o72⟩ [a0] H k =
 p.box a0 H fun t1 H =>
 p.fadr 1 t1 fun t5 =>
 p.load false 1 t5 H fun t6 =>
 p.len t6 fun t7 =>
 f72_L0 p n  k n (tf 67 0 (ud [(0, a0), (1, t1), (2, (.sc (.bool false))), (5, t5), (6, t6), (7, t7), (8, (.sc (.int .i64 0)))] ut)) H := by kernel_rfl
theorem f72_body (p : Pr β) (n : Nat) (a0 : AV) (H : Heap) (k : AV → Heap → Option β) : evalBody ti0 p n ⟨c72, 67, Go.Proofs.Tryz.f72.results.toList, o72⟩ [a0] H k = f72 p n a0 H k := by
 rw [f72_raw]
 simp only [f72_l0_eq]
 kernel_rfl
noncomputable def f152 (p : Pr β) (n : Nat) (a0 : AV) (H : Heap) (k : AV → Heap → Option β) : Option β :=
 p.box a0 H fun t1 H =>
 p.new [(.sc (.int .i64 0)), (.sc (.bool false)), (.sc (.int .i64 0)), (.sc (.bool false)), (.sc (.int .i64 0)), (.sc (.string ⟨#[]⟩)), .nl, (.sc (.string ⟨#[]⟩)), (.sc (.int .i64 0)), (.sc (.bool false)), (.sc (.int .i64 0)), (.sc (.bool false)), (.sc (.string ⟨#[]⟩)), .nl, (.sc (.int .i64 0)), (.sc (.bool false)), (.sc (.bool false)), (.sc (.string ⟨#[]⟩)), (.sc (.bool false)), .nl, (.sc (.int .i64 0)), (.sc (.bool false)), .nl, .nl, .nl] H fun t2 H =>
 p.fadr 0 t1 fun t4 =>
 p.load false 1 t4 H fun t5 =>
 p.fill [(.sc (.int .i64 0)), (.sc (.bool false)), (.sc (.int .i64 0)), (.sc (.bool false)), (.sc (.int .i64 0)), (.sc (.string ⟨#[]⟩)), .nl, (.sc (.string ⟨#[]⟩)), (.sc (.int .i64 0)), (.sc (.bool false)), (.sc (.int .i64 0)), (.sc (.bool false)), (.sc (.string ⟨#[]⟩)), .nl, (.sc (.int .i64 0)), (.sc (.bool false)), (.sc (.bool false)), (.sc (.string ⟨#[]⟩)), (.sc (.bool false)), .nl, (.sc (.int .i64 0)), (.sc (.bool false)), .nl, .nl, .nl] [(0, 1, t5)] fun ct6 =>
 p.new [(.sc (.int .i64 0)), (.sc (.bool false)), (.sc (.int .i64 0)), (.sc (.bool false)), (.sc (.int .i64 0)), (.sc (.string ⟨#[]⟩)), .nl, (.sc (.string ⟨#[]⟩)), (.sc (.int .i64 0)), (.sc (.bool false)), (.sc (.int .i64 0)), (.sc (.bool false)), (.sc (.string ⟨#[]⟩)), .nl, (.sc (.int .i64 0)), (.sc (.bool false)), (.sc (.bool false)), (.sc (.string ⟨#[]⟩)), (.sc (.bool false)), .nl, (.sc (.int .i64 0)), (.sc (.bool false)), .nl, .nl, .nl] H fun t3 H =>
 p.store 25 t3 (.agg ct6) H fun H =>
 p.fadr 0 t1 fun t7 =>
 p.load false 1 t7 H fun t8 =>
 p.bin .eql t8 (.sc (.int .i64 1)) fun t10 =>
 p.cond t10
 (p.fadr 7 t1 fun t11 =>
 p.load false 1 t11 H fun t12 =>
 p.fadr 8 t1 fun t13 =>
 p.fadr 9 t1 fun t15 =>
 p.fadr 10 t1 fun t17 =>
 p.fadr 11 t1 fun t19 =>
 p.fadr 16 t1 fun t21 =>
 p.fadr 7 t3 fun t23 =>
 p.apart t13 [t3] H
 (p.load false 1 t13 H fun t14 =>
 p.apart t15 [t3] H
 (p.load false 1 t15 H fun t16 =>
 p.apart t17 [t3] H
 (p.load false 1 t17 H fun t18 =>
 p.apart t19 [t3] H
 (p.load false 1 t19 H fun t20 =>
 p.apart t21 [t3] H
 (p.load false 1 t21 H fun t22 =>
 p.same t23 t3
 (p.store 1 t23 t12 H fun H =>
 p.fadr 8 t3 fun t24 =>
 p.same t24 t3
 (p.store 1 t24 t14 H fun H =>
 p.fadr 9 t3 fun t25 =>
 p.same t25 t3
 (p.store 1 t25 t16 H fun H =>
 p.fadr 10 t3 fun t26 =>
 p.same t26 t3
 (p.store 1 t26 t18 H fun H =>
 p.fadr 11 t3 fun t27 =>
 p.same t27 t3
 (p.store 1 t27 t20 H fun H =>
 p.fadr 16 t3 fun t28 =>
 p.store 1 t28 t22 H fun H =>
 p.fadr 11 t1 fun t29 =>
 p.load false 1 t29 H fun t30 =>
 letJ (fun (t1 t2 t3 : AV) (H : Heap) => p.fadr 16 t1 fun t43 =>
 p.load false 1 t43 H fun t44 =>
 letJ (fun (t1 t2 t3 : AV) (H : Heap) => p.fadr 18 t3 fun t51 =>
 p.load false 1 t51 H fun t52 =>
 p.cond t52
 (p.fadr 19 t1 fun t53 =>
 p.load false 1 t53 H fun t54 =>
 p.fadr 19 t3 fun t55 =>
 p.store 1 t55 t54 H fun H =>
 p.load true 25 t3 H fun t120 =>
 p.store 25 t2 t120 H fun H =>
 p.load true 25 t2 H fun r0 =>
 k r0 H)
 (p.load true 25 t3 H fun t120 =>
 p.store 25 t2 t120 H fun H =>
 p.load true 25 t2 H fun r0 =>
 k r0 H)) fun j2 =>
 p.cond t44
 (p.fadr 17 t1 fun t45 =>
 p.load false 1 t45 H fun t46 =>
 p.fadr 18 t1 fun t47 =>
 p.fadr 17 t3 fun t49 =>
 p.apart t47 [t3] H
 (p.load false 1 t47 H fun t48 =>
 p.same t49 t3
 (p.store 1 t49 t46 H fun H =>
 p.fadr 18 t3 fun t50 =>
 p.store 1 t50 t48 H fun H =>
 j2 t1 t2 t3 H)))
 (j2 t1 t2 t3 H)) fun j1 =>
 p.cond t30
 (p.fadr 12 t1 fun t31 =>
 p.load false 1 t31 H fun t32 =>
 p.fadr 13 t1 fun t33 =>
 p.fadr 14 t1 fun t35 =>
 p.fadr 15 t1 fun t37 =>
 p.fadr 12 t3 fun t39 =>
 p.apart t33 [t3] H
 (p.load false 1 t33 H fun t34 =>
 p.apart t35 [t3] H
 (p.load false 1 t35 H fun t36 =>
 p.apart t37 [t3] H
 (p.load false 1 t37 H fun t38 =>
 p.same t39 t3
 (p.store 1 t39 t32 H fun H =>
 p.fadr 13 t3 fun t40 =>
 p.same t40 t3
 (p.store 1 t40 t34 H fun H =>
 p.fadr 14 t3 fun t41 =>
 p.same t41 t3
 (p.store 1 t41 t36 H fun H =>
 p.fadr 15 t3 fun t42 =>
 p.store 1 t42 t38 H fun H =>
 j1 t1 t2 t3 H)))))))
 (j1 t1 t2 t3 H))))))))))))
 (p.bin .eql t8 (.sc (.int .i64 2)) fun t57 =>
 p.cond t57
 (p.fadr 20 t1 fun t58 =>
 p.load false 1 t58 H fun t59 =>
 p.fadr 21 t1 fun t60 =>
 p.fadr 20 t3 fun t62 =>
 p.apart t60 [t3] H
 (p.load false 1 t60 H fun t61 =>
 p.same t62 t3
 (p.store 1 t62 t59 H fun H =>
 p.fadr 21 t3 fun t63 =>
 p.store 1 t63 t61 H fun H =>
 p.load true 25 t3 H fun t120 =>
 p.store 25 t2 t120 H fun H =>
 p.load true 25 t2 H fun r0 =>
 k r0 H)))
 (p.bin .eql t8 (.sc (.int .i64 3)) fun t65 =>
 p.cond t65
 (p.fadr 2 t1 fun t66 =>
 p.load false 1 t66 H fun t67 =>
 p.fadr 3 t1 fun t68 =>
 p.fadr 5 t1 fun t70 =>
 p.fadr 6 t1 fun t72 =>
 p.fadr 2 t3 fun t74 =>
 p.apart t68 [t3] H
 (p.load false 1 t68 H fun t69 =>
 p.apart t70 [t3] H
 (p.load false 1 t70 H fun t71 =>
 p.apart t72 [t3] H
 (p.load false 1 t72 H fun t73 =>
 p.same t74 t3
 (p.store 1 t74 t67 H fun H =>
 p.fadr 3 t3 fun t75 =>
 p.same t75 t3
 (p.store 1 t75 t69 H fun H =>
 p.fadr 5 t3 fun t76 =>
 p.same t76 t3
 (p.store 1 t76 t71 H fun H =>
 p.fadr 6 t3 fun t77 =>
 p.store 1 t77 t73 H fun H =>
 p.fadr 2 t1 fun t78 =>
 p.load false 1 t78 H fun t79 =>
 p.bin .gtr t79 (.sc (.int .i64 0)) fun t80 =>
 p.cond t80
 (p.fadr 1 t1 fun t81 =>
 p.load false 1 t81 H fun t82 =>
 p.fadr 4 t1 fun t83 =>
 p.fadr 1 t3 fun t85 =>
 p.apart t83 [t3] H
 (p.load false 1 t83 H fun t84 =>
 p.same t85 t3
 (p.store 1 t85 t82 H fun H =>
 p.fadr 4 t3 fun t86 =>
 p.store 1 t86 t84 H fun H =>
 p.load true 25 t3 H fun t120 =>
 p.store 25 t2 t120 H fun H =>
 p.load true 25 t2 H fun r0 =>
 k r0 H)))
 (p.load true 25 t3 H fun t120 =>
 p.store 25 t2 t120 H fun H =>
 p.load true 25 t2 H fun r0 =>
 k r0 H))))))))
 (p.bin .eql t8 (.sc (.int .i64 4)) fun t88 =>
 letJ (fun (t1 t2 t3 t8 t87 : AV) (H : Heap) => p.cond t87
 (p.fadr 4 t1 fun t93 =>
 p.load false 1 t93 H fun t94 =>
 p.fadr 4 t3 fun t95 =>
 p.store 1 t95 t94 H fun H =>
 p.load true 25 t3 H fun t120 =>
 p.store 25 t2 t120 H fun H =>
 p.load true 25 t2 H fun r0 =>
 k r0 H)
 (p.bin .eql t8 (.sc (.int .i64 8)) fun t97 =>
 p.cond t97
 (p.fadr 4 t1 fun t98 =>
 p.load false 1 t98 H fun t99 =>
 p.fadr 22 t1 fun t100 =>
 p.fadr 4 t3 fun t102 =>
 p.apart t100 [t3] H
 (p.load false 1 t100 H fun t101 =>
 p.same t102 t3
 (p.store 1 t102 t99 H fun H =>
 p.fadr 22 t3 fun t103 =>
 p.store 1 t103 t101 H fun H =>
 p.load true 25 t3 H fun t120 =>
 p.store 25 t2 t120 H fun H =>
 p.load true 25 t2 H fun r0 =>
 k r0 H)))
 (p.bin .eql t8 (.sc (.int .i64 9)) fun t105 =>
 p.cond t105
 (p.fadr 4 t1 fun t106 =>
 p.load false 1 t106 H fun t107 =>
 p.fadr 24 t1 fun t108 =>
 p.fadr 4 t3 fun t110 =>
 p.apart t108 [t3] H
 (p.load false 1 t108 H fun t109 =>
 p.same t110 t3
 (p.store 1 t110 t107 H fun H =>
 p.fadr 24 t3 fun t111 =>
 p.store 1 t111 t109 H fun H =>
 p.load true 25 t3 H fun t120 =>
 p.store 25 t2 t120 H fun H =>
 p.load true 25 t2 H fun r0 =>
 k r0 H)))
 (p.bin .eql t8 (.sc (.int .i64 10)) fun t113 =>
 p.cond t113
 (p.fadr 4 t1 fun t114 =>
 p.load false 1 t114 H fun t115 =>
 p.fadr 23 t1 fun t116 =>
 p.fadr 4 t3 fun t118 =>
 p.apart t116 [t3] H
 (p.load false 1 t116 H fun t117 =>
 p.same t118 t3
 (p.store 1 t118 t115 H fun H =>
 p.fadr 23 t3 fun t119 =>
 p.store 1 t119 t117 H fun H =>
 p.load true 25 t3 H fun t120 =>
 p.store 25 t2 t120 H fun H =>
 p.load true 25 t2 H fun r0 =>
 k r0 H)))
 (p.load true 25 t3 H fun t120 =>
 p.store 25 t2 t120 H fun H =>
 p.load true 25 t2 H fun r0 =>
 k r0 H))))) fun j3 =>
 p.cond t88
 (j3 t1 t2 t3 t8 t88 H)
 (p.bin .eql t8 (.sc (.int .i64 5)) fun t89 =>
 p.cond t89
 (j3 t1 t2 t3 t8 t89 H)
 (p.bin .eql t8 (.sc (.int .i64 6)) fun t90 =>
 p.cond t90
 (j3 t1 t2 t3 t8 t90 H)
 (p.bin .eql t8 (.sc (.int .i64 7)) fun t91 =>
 p.cond t91
 (j3 t1 t2 t3 t8 t91 H)
 (p.bin .eql t8 (.sc (.int .i64 11)) fun t92 =>
 j3 t1 t2 t3 t8 t92 H)))))))
theorem f152_body (p : Pr β) (n : Nat) (a0 : AV) (H : Heap) (k : AV → Heap → Option β) : evalBody ti0 p n ⟨c152, 121, Go.Proofs.Tryz.f152.results.toList, o152⟩ [a0] H k = f152 p n a0 H k := by kernel_rfl
noncomputable def f164 (p : Pr β) (n : Nat) (a0 a1 : AV) (H : Heap) (k : AV → Heap → Option β) : Option β :=
 p.cvBS a0 H fun t6 =>
 p.cvBS a1 H fun t8 =>
 p.bin .eql t6 t8 fun t9 =>
 k t9 H
theorem f164_body (p : Pr β) (n : Nat) (a0 a1 : AV) (H : Heap) (k : AV → Heap → Option β) : evalBody ti0 p n ⟨c164, 10, Go.Proofs.Tryz.f164.results.toList, o164⟩ [a0, a1] H k = f164 p n a0 a1 H k := by kernel_rfl
end Go.Proofs.YtejjggnchdldoaaGreatDoor.Abs
