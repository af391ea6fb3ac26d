/- What the proof needs, part 2: a sound evaluator over trees, the program's functions on it, and what they come to. -/
import Derived.Test.YtjiahcekpohehaaGreatDoorMta
import Derived.Lib.SplitLaws
import Derived.Lib.IndexAny
import Derived.Lib.ValidLaws
import Derived.Test.YtjiahcekpohehaaGreatDoorProg
import Derived.KernelRfl
set_option linter.unusedVariables false
set_option linter.unusedSimpArgs false
namespace Go.Proofs.YtjiahcekpohehaaGreatDoor.Abs
section
open Go
def Vy : List UInt8 → List UInt8 → List (List UInt8)
 | cur, [] => [cur]
 | cur, b :: l => if b = 47 then cur :: Vy [] l else Vy (cur ++ [b]) l
def ofL (l : List UInt8) : ByteArray := ⟨l.toArray⟩
def A4 (s : ByteArray) : List ByteArray := (Vy [] s.data.toList).map ofL
def Fv (s : ByteArray) (b : UInt8) : Bool := s.data.toList.any fun c => c == b
def vPH (s : ByteArray) : Bool := Fv s 43 || Fv s 35
def Qk : ByteArray := ⟨#[47]⟩
def phB : ByteArray := ⟨#[43, 35]⟩
def Kq (c : List UInt8) : List (List UInt8) → List (List UInt8)
 | [] => [c]
 | h :: t => (c ++ h) :: t
theorem Rb {X : List (List UInt8)} (h : X ≠ []) : Kq [] X = X := by
 cases X with
 | nil => exact absurd rfl h
 | cons h t => rfl
theorem Th (a b : List UInt8) {X : List (List UInt8)} (h : X ≠ []) : Kq a (Kq b X) = Kq (a ++ b) X := by
 cases X with
 | nil => exact absurd rfl h
 | cons h t => simp [Kq]
theorem Nq (sep : List UInt8) (k : Nat) (l : List UInt8) : Lib.splitK sep 0 k l ≠ [] := by
 cases k with
 | zero => simp [Lib.splitK]
 | succ k =>
  unfold Lib.splitK
  split <;> simp
theorem Ab0 (l : List UInt8) : Lib.index (47 :: l) [47] = 0 := by
 unfold Lib.index
 simp
theorem Ab1 (b : UInt8) (l : List UInt8) (h : b ≠ 47) : Lib.index (b :: l) [47] = if Lib.index l [47] == -1 then -1 else Lib.index l [47] + 1 := by
 rw [Lib.index]
 rw [if_neg]
 simpa using fun h' => h h'.symm
theorem Qo (b : UInt8) (h : b ≠ 47) (k : Nat) (l : List UInt8) : Lib.splitK [47] 0 k (b :: l) = Kq [b] (Lib.splitK [47] 0 k l) := by
 cases k with
 | zero => rfl
 | succ k =>
  have hge := Lib.index_ge l [47]
  unfold Lib.splitK
  rw [Ab1 b l h]
  by_cases hi : Lib.index l [47] = -1
  ·simp [hi, Kq]
  ·have e1 : (Lib.index l [47] == -1) = false := by simpa using hi
   have e2 : (Lib.index l [47] + 1 == -1) = false := by simp; omega
   have e3 : (Lib.index l [47] + 1).toNat = (Lib.index l [47]).toNat + 1 := by omega
   simp only [e1, e2, e3, Bool.false_eq_true, if_false, Kq, Nat.add_zero, List.length_singleton]
   rw [show (Lib.index l [47]).toNat + 1 + 1 = ((Lib.index l [47]).toNat + 1) + 1 from rfl, List.drop_succ_cons, List.take_succ_cons]
   rfl
theorem Ng : ∀ (l cur : List UInt8), Vy cur l = Kq cur (Lib.splitK [47] 0 (Lib.count l [47]) l)
 | [], cur => by
  have e : Lib.count [] [47] = 0 := by rw [Lib.count_one]; rfl
  rw [e]
  simp [Vy, Lib.splitK, Kq]
 | b :: l, cur => by
  rw [Vy]
  by_cases h : b = 47
  ·subst h
   rw [if_pos rfl, Ng l [], Lib.count_cons_eq, Nat.add_comm, Lib.splitK, Ab0]
   rw [Rb (Nq _ _ _)]
   simp [Kq]
  ·rw [if_neg h, Ng l (cur ++ [b]), Lib.count_cons_ne _ _ _ h, Qo b h, Th _ _ (Nq _ _ _)]
theorem Tt (s : ByteArray) : ofL s.data.toList = s := by
 cases s
 rfl
theorem AdR (l : List ByteArray) : (l.map (·.data.toList)).map ofL = l := by
 rw [List.map_map]
 conv => rhs; rw [← List.map_id l]
 exact List.map_congr_left fun s _ => Tt s
theorem M2 (s : ByteArray) : Lib.splitB Qk 0 (Lib.countB s Qk) s = A4 s := by
 have h := Lib.splitB_data Qk 0 (Lib.countB s Qk) s
 rw [← AdR (Lib.splitB Qk 0 (Lib.countB s Qk) s), h, A4, Ng, Rb (Nq _ _ _)]
 rfl
theorem Vv (s : ByteArray) : (A4 s).length = Lib.countB s Qk + 1 := by
 rw [← M2]
 exact Lib.splitB_all Qk (Nat.le_refl _) 0 _ s rfl
theorem Ml (chars : List UInt8) : ∀ l : List UInt8, decide (0 ≤ Lib.indexAny l chars) = l.any fun c => chars.contains c
 | [] => rfl
 | b :: l => by
  have ih := Ml chars l
  have hge := Lib.indexAny_ge chars l
  rw [Lib.indexAny, List.any_cons, ← ih]
  by_cases h : chars.contains b = true
  ·rw [if_pos h, h]
   simp
  ·rw [if_neg h]
   have h' : chars.contains b = false := by simpa using h
   rw [h', Bool.false_or]
   by_cases hi : Lib.indexAny l chars = -1
   ·rw [hi]
    rfl
   ·rw [if_neg (by simpa using hi)]
    congr 1
    simp
    omega
theorem Uo {α : Type} (p q : α → Bool) : ∀ l : List α, (l.any fun c => p c || q c) = (l.any p || l.any q)
 | [] => rfl
 | x :: l => by
  rw [List.any_cons, List.any_cons, List.any_cons, Uo p q l]
  cases p x <;> cases q x <;> simp
theorem AfN (s : ByteArray) : Lib.containsAny s.data.toList phB.data.toList = vPH s := by
 unfold Lib.containsAny vPH Fv
 rw [Ml, ← Uo]
 congr 1
 funext c
 simp [phB]
 rfl
end
section
open Go
def K6 : Nat → List UInt8 → Bool
 | 0, _ => true
 | n + 1, l => if l = [] then true else if (Lib.decodeL l).1 = 65533 ∧ (Lib.decodeL l).2 = 1 then false else if (Lib.decodeL l).1 = 0 then false else K6 n (l.drop (Lib.decodeL l).2)
def Bi (s : ByteArray) : Bool := decide (s.size ≤ 60) && K6 s.size s.data.toList
def Sa (ty : Nat) (vs : List AV) : Option AV :=
 match vs with
 | [.sc (.string s)] => if s.size ≤ maxLen then some (.sc (.bool (Bi s))) else none
 | _ => none
def Pb (ty : Nat) (vs : List AV) : Option AV :=
 match vs with
 | [.sc (.string s), .sc (.string c)] => if c.data.toList = [43, 35] ∧ s.size < 4294967281 then some (.sc (.bool (vPH s))) else none
 | _ => none
def Nd (ty : Nat) (vs : List AV) : Option AV :=
 match vs with
 | [.sc (.string s), .sc (.string c)] => if ty = 33 ∧ c.data.toList = [47] ∧ s.size < 4294967281 then some (.ro (A4 s).length ((A4 s).map fun x => .sc (.string x))) else none
 | _ => none
end
end Go.Proofs.YtjiahcekpohehaaGreatDoor.Abs
set_option maxRecDepth 100000
namespace Go.Proofs.YtjiahcekpohehaaGreatDoor.Abs
section
open Go
variable {β : Type}
noncomputable def tis : List (Option TI) := [none,
 none,
 some ⟨false, false, 1, 8, [(.int .i64 0)], 0, [], some .i64, false, false, [2], false⟩,
 some ⟨false, false, 1, 8, [(.int .i64 0)], 0, [], some .i64, false, false, [3], false⟩,
 some ⟨false, false, 1, 1, [(.bool false)], 0, [], none, false, true, [4], false⟩,
 some ⟨false, false, 1, 1, [(.int .u8 0)], 0, [], some .u8, false, false, [5], false⟩,
 some ⟨false, false, 1, 1, [(.int .u8 0)], 0, [], some .u8, false, false, [6], false⟩,
 none,
 none,
 some ⟨false, false, 1, 16, [(.string ⟨#[]⟩)], 0, [], none, true, false, [9], false⟩,
 some ⟨false, false, 1, 16, [(.string ⟨#[]⟩)], 0, [], none, true, false, [10], false⟩,
 some ⟨false, false, 1, 16, [(.string ⟨#[]⟩)], 0, [], none, true, false, [11], false⟩,
 some ⟨false, false, 1, 8, [(.int .u64 0)], 0, [], some .u64, false, false, [12], false⟩,
 none,
 none,
 none,
 none,
 none,
 none,
 none,
 none,
 some ⟨false, false, 1, 4, [(.int .i32 0)], 0, [], some .i32, false, false, [21], false⟩,
 none,
 some ⟨false, true, 1, 24, [(.slice none 0 0)], 79, [], none, false, false, [23], false⟩,
 none,
 none,
 none,
 none,
 some ⟨false, true, 1, 24, [(.slice none 0 0)], 85, [], none, false, false, [28], false⟩,
 none,
 none,
 some ⟨false, true, 1, 24, [(.slice none 0 0)], 5, [], none, false, false, [31], false⟩,
 some ⟨false, true, 1, 24, [(.slice none 0 0)], 231, [], none, false, false, [32], false⟩,
 some ⟨false, true, 1, 24, [(.slice none 0 0)], 9, [], none, false, false, [33], false⟩,
 some ⟨false, true, 1, 24, [(.slice none 0 0)], 3, [], none, false, false, [34], false⟩,
 none,
 some ⟨true, false, 25, 320, [(.int .i64 0), (.bool false), (.int .i64 0), (.bool false), (.int .i64 0), (.string ⟨#[]⟩), (.slice none 0 0), (.string ⟨#[]⟩), (.int .i64 0), (.bool false), (.int .i64 0), (.bool false), (.string ⟨#[]⟩), (.slice none 0 0), (.int .i64 0), (.bool false), (.bool false), (.string ⟨#[]⟩), (.bool false), (.slice none 0 0), (.int .i64 0), (.bool false), (.slice none 0 0), (.slice none 0 0), (.slice none 0 0)], 0, [(0, 3), (1, 4), (2, 3), (3, 4), (4, 3), (5, 9), (6, 31), (7, 9), (8, 3), (9, 4), (10, 3), (11, 4), (12, 9), (13, 31), (14, 3), (15, 4), (16, 4), (17, 9), (18, 4), (19, 31), (20, 3), (21, 4), (22, 32), (23, 33), (24, 34)], none, false, false, [3, 4, 3, 4, 3, 9, 31, 9, 3, 4, 3, 4, 9, 31, 3, 4, 4, 9, 4, 31, 3, 4, 32, 33, 34], false⟩,
 none,
 none,
 none,
 none,
 none,
 none,
 none,
 none,
 none,
 none,
 none,
 none,
 none,
 none,
 none,
 none,
 none,
 none,
 none,
 none,
 none,
 none,
 none,
 none,
 none,
 none,
 none,
 none,
 none,
 some ⟨false, true, 1, 24, [(.slice none 0 0)], 245, [], none, false, false, [66], false⟩,
 none,
 some ⟨true, false, 25, 320, [(.int .i64 0), (.bool false), (.int .i64 0), (.bool false), (.int .i64 0), (.string ⟨#[]⟩), (.slice none 0 0), (.string ⟨#[]⟩), (.int .i64 0), (.bool false), (.int .i64 0), (.bool false), (.string ⟨#[]⟩), (.slice none 0 0), (.int .i64 0), (.bool false), (.bool false), (.string ⟨#[]⟩), (.bool false), (.slice none 0 0), (.int .i64 0), (.bool false), (.slice none 0 0), (.slice none 0 0), (.slice none 0 0)], 0, [(0, 3), (1, 4), (2, 3), (3, 4), (4, 3), (5, 9), (6, 31), (7, 9), (8, 3), (9, 4), (10, 3), (11, 4), (12, 9), (13, 31), (14, 3), (15, 4), (16, 4), (17, 9), (18, 4), (19, 31), (20, 3), (21, 4), (22, 66), (23, 33), (24, 34)], none, false, false, [3, 4, 3, 4, 3, 9, 31, 9, 3, 4, 3, 4, 9, 31, 3, 4, 4, 9, 4, 31, 3, 4, 66, 33, 34], false⟩,
 none,
 none,
 none,
 none,
 none,
 none,
 none,
 none,
 some ⟨false, true, 1, 24, [(.slice none 0 0)], 250, [], none, false, false, [77], false⟩,
 none,
 some ⟨true, false, 4, 56, [(.string ⟨#[]⟩), (.slice none 0 0), (.int .i64 0), (.bool false)], 0, [(0, 9), (1, 31), (2, 3), (3, 4)], none, false, false, [9, 31, 3, 4], false⟩,
 none,
 some ⟨true, false, 35, 464, [(.int .i64 0), (.int .i64 0), (.string ⟨#[]⟩), (.int .i64 0), (.bool false), (.int .i64 0), (.bool false), (.int .i64 0), (.string ⟨#[]⟩), (.slice none 0 0), (.string ⟨#[]⟩), (.int .i64 0), (.bool false), (.int .i64 0), (.bool false), (.string ⟨#[]⟩), (.slice none 0 0), (.int .i64 0), (.bool false), (.bool false), (.string ⟨#[]⟩), (.bool false), (.slice none 0 0), (.int .i64 0), (.bool false), (.slice none 0 0), (.slice none 0 0), (.slice none 0 0), (.slice none 0 0), (.string ⟨#[]⟩), (.slice none 0 0), (.int .i64 0), (.bool false), (.slice none 0 0), (.int .i64 0)], 0, [(0, 3), (1, 3), (2, 9), (3, 68), (28, 77), (29, 79), (33, 23), (34, 3)], none, false, false, [3, 3, 9, 3, 4, 3, 4, 3, 9, 31, 9, 3, 4, 3, 4, 9, 31, 3, 4, 4, 9, 4, 31, 3, 4, 66, 33, 34, 77, 9, 31, 3, 4, 23, 3], false⟩,
 none,
 none,
 some ⟨false, true, 1, 24, [(.slice none 0 0)], 188, [], none, false, false, [84], false⟩,
 some ⟨true, false, 4, 56, [(.string ⟨#[]⟩), (.slice none 0 0), (.int .i64 0), (.bool false)], 0, [(0, 9), (1, 31), (2, 3), (3, 4)], none, false, false, [9, 31, 3, 4], false⟩,
 none,
 some ⟨true, false, 35, 464, [(.int .i64 0), (.int .i64 0), (.string ⟨#[]⟩), (.int .i64 0), (.bool false), (.int .i64 0), (.bool false), (.int .i64 0), (.string ⟨#[]⟩), (.slice none 0 0), (.string ⟨#[]⟩), (.int .i64 0), (.bool false), (.int .i64 0), (.bool false), (.string ⟨#[]⟩), (.slice none 0 0), (.int .i64 0), (.bool false), (.bool false), (.string ⟨#[]⟩), (.bool false), (.slice none 0 0), (.int .i64 0), (.bool false), (.slice none 0 0), (.slice none 0 0), (.slice none 0 0), (.slice none 0 0), (.string ⟨#[]⟩), (.slice none 0 0), (.int .i64 0), (.bool false), (.slice none 0 0), (.int .i64 0)], 0, [(0, 3), (1, 3), (2, 9), (3, 36), (28, 84), (29, 85), (33, 28), (34, 3)], none, false, false, [3, 3, 9, 3, 4, 3, 4, 3, 9, 31, 9, 3, 4, 3, 4, 9, 31, 3, 4, 4, 9, 4, 31, 3, 4, 32, 33, 34, 84, 9, 31, 3, 4, 28, 3], false⟩,
 none,
 none,
 none,
 none,
 none,
 some ⟨false, true, 1, 24, [(.slice none 0 0)], 36, [], none, false, false, [93], false⟩,
 none,
 none,
 none,
 none,
 none,
 none,
 none,
 none,
 none,
 none,
 none,
 none,
 none,
 none,
 none,
 none,
 none,
 none,
 none,
 none,
 none,
 none,
 none,
 none,
 none,
 none,
 none,
 none,
 none,
 none,
 none,
 none,
 none,
 none,
 none,
 none,
 none,
 none,
 none,
 none,
 none,
 none,
 none,
 none,
 none,
 none,
 none,
 none,
 none,
 none,
 none,
 none,
 none,
 none,
 none,
 none,
 none,
 none,
 none,
 none,
 none,
 none,
 none,
 none,
 none,
 none,
 none,
 none,
 none,
 none,
 none,
 none,
 none,
 none,
 none,
 none,
 none,
 none,
 none,
 none,
 none,
 none,
 none,
 none,
 none,
 none,
 none,
 none,
 none,
 none,
 none,
 none,
 none,
 none,
 some ⟨true, false, 3, 32, [(.string ⟨#[]⟩), (.int .i64 0), (.int .i64 0)], 0, [(0, 9), (1, 3), (2, 3)], none, false, false, [9, 3, 3], false⟩,
 none,
 none,
 none,
 none,
 none,
 none,
 none,
 none,
 none,
 none,
 none,
 none,
 none,
 none,
 none,
 none,
 none,
 none,
 none,
 none,
 none,
 none,
 none,
 none,
 none,
 none,
 none,
 none,
 none,
 none,
 none,
 none,
 none,
 none,
 none,
 none,
 none,
 none,
 none,
 none,
 none,
 none,
 some ⟨true, false, 2, 24, [(.string ⟨#[]⟩), (.int .i64 0)], 0, [(0, 9), (1, 3)], none, false, false, [9, 3], true⟩,
 none,
 none,
 none,
 none,
 none,
 none,
 none,
 none,
 none,
 none,
 none,
 none,
 none,
 some ⟨true, false, 2, 24, [(.string ⟨#[]⟩), (.int .i64 0)], 0, [(0, 9), (1, 3)], none, false, false, [9, 3], false⟩,
 none,
 none,
 none,
 none,
 some ⟨true, false, 3, 32, [(.string ⟨#[]⟩), (.int .i64 0), (.int .i64 0)], 0, [(0, 9), (1, 3), (2, 3)], none, false, false, [9, 3, 3], false⟩,
 none,
 none,
 none,
 none,
 none,
 none,
 none,
 none,
 none,
 none,
 none,
 none,
 none,
 none,
 none,
 none,
 none,
 none,
 none,
 none,
 none,
 none,
 none,
 none,
 none,
 none,
 none,
 none,
 none,
 none,
 none,
 none,
 none,
 none,
 none,
 none,
 none,
 none,
 none,
 none,
 none,
 none,
 none,
 none,
 none,
 none,
 none,
 none,
 none,
 none,
 none,
 none,
 none,
 none,
 none,
 none,
 none,
 some ⟨false, true, 1, 24, [(.slice none 0 0)], 31, [], none, false, false, [308], false⟩]
noncomputable def Bb (f : Func) : Code := match f.body with | some c => c | none => .skip
noncomputable def AgT : Code := Bb Tryz.f120
noncomputable def Ahu : Code := Bb Tryz.f221
noncomputable def Afh : Code := Bb Tryz.f121
noncomputable def Afi : Code := Bb Tryz.f122
noncomputable def AgS : Code := Bb Tryz.f109
noncomputable def c33 : Code := Bb Tryz.f33
noncomputable def Ahy : Code := Bb Tryz.f230
noncomputable def Afm : Code := Bb Tryz.f133
noncomputable def AgU : Code := Bb Tryz.f134
noncomputable def c84 : Code := Bb Tryz.f84
noncomputable def c41 : Code := Bb Tryz.f41
noncomputable def Afj : Code := Bb Tryz.f126
noncomputable def Ahx : Code := Bb Tryz.f225
noncomputable def Afk : Code := Bb Tryz.f127
noncomputable def Afl : Code := Bb Tryz.f128
noncomputable def c35 : Code := Bb Tryz.f35
noncomputable def c36 : Code := Bb Tryz.f36
noncomputable def Ah0 : Code := Bb Tryz.f233
noncomputable def Afn : Code := Bb Tryz.f143
noncomputable def Ahc : Code := Bb Tryz.f144
noncomputable def c88 : Code := Bb Tryz.f88
noncomputable def c43 : Code := Bb Tryz.f43
noncomputable def Ahz : Code := Bb Tryz.f232
noncomputable def O0 : Code := Bb Tryz.f141
noncomputable def Ahb : Code := Bb Tryz.f142
noncomputable def AgV : Code := Bb Tryz.f135
noncomputable def Ahm : Code := Bb Tryz.f187
noncomputable def AgW : Code := Bb Tryz.f136
noncomputable def Afy : Code := Bb Tryz.f277
noncomputable def Afu : Code := Bb Tryz.f231
noncomputable def AgX : Code := Bb Tryz.f137
noncomputable def AgY : Code := Bb Tryz.f138
noncomputable def Afw : Code := Bb Tryz.f273
noncomputable def Afx : Code := Bb Tryz.f274
noncomputable def Ahw : Code := Bb Tryz.f223
noncomputable def AgZ : Code := Bb Tryz.f139
noncomputable def Ahv : Code := Bb Tryz.f222
noncomputable def Aft : Code := Bb Tryz.f224
noncomputable def Nb : Code := Bb Tryz.f124
noncomputable def Aha : Code := Bb Tryz.f140
noncomputable def c42 : Code := Bb Tryz.f42
noncomputable def Ahl : Code := Bb Tryz.f183
noncomputable def Afq : Code := Bb Tryz.f203
noncomputable def Afr : Code := Bb Tryz.f204
noncomputable def Afs : Code := Bb Tryz.f205
noncomputable def c82 : Code := Bb Tryz.f82
noncomputable def c62 : Code := Bb Tryz.f62
noncomputable def Ahd : Code := Bb Tryz.f145
noncomputable def Ahg : Code := Bb Tryz.f149
noncomputable def Ahe : Code := Bb Tryz.f146
noncomputable def Ahk : Code := Bb Tryz.f172
noncomputable def Ahr : Code := Bb Tryz.f197
noncomputable def Ahf : Code := Bb Tryz.f148
noncomputable def Ahp : Code := Bb Tryz.f195
noncomputable def Ah2 : Code := Bb Tryz.f268
noncomputable def Ahs : Code := Bb Tryz.f198
noncomputable def Aho : Code := Bb Tryz.f191
noncomputable def Ahq : Code := Bb Tryz.f196
noncomputable def Ahn : Code := Bb Tryz.f190
noncomputable def Ah3 : Code := Bb Tryz.f301
noncomputable def Afv : Code := Bb Tryz.f269
noncomputable def O1 : Code := Bb Tryz.f199
noncomputable def c76 : Code := Bb Tryz.f76
noncomputable def Ahh : Code := Bb Tryz.f150
noncomputable def Ahi : Code := Bb Tryz.f151
noncomputable def Afo : Code := Bb Tryz.f152
noncomputable def c44 : Code := Bb Tryz.f44
noncomputable def c95 : Code := Bb Tryz.f95
noncomputable def Aht : Code := Bb Tryz.f215
noncomputable def c96 : Code := Bb Tryz.f96
noncomputable def c97 : Code := Bb Tryz.f97
noncomputable def c38 : Code := Bb Tryz.f38
noncomputable def c17 : Code := Bb Tryz.f17
noncomputable def Ah1 : Code := Bb Tryz.f235
noncomputable def Afp : Code := Bb Tryz.f153
noncomputable def Ahj : Code := Bb Tryz.f154
noncomputable def c94 : Code := Bb Tryz.f94
noncomputable def c45 : Code := Bb Tryz.f45
noncomputable def c6 : Code := Bb Tryz.f6
noncomputable def P6 : List (Nat × PI) := [(6, PI.of [0, 1, 2, 3, 4, 5, 6, 7, 8, 9, 10]), (11, PI.of [0, 1, 2, 3, 4, 5, 6, 7, 8, 9, 10]), (16, PI.of [0, 1, 2, 3, 4, 5, 6, 7, 8, 9, 10])]
noncomputable def Nh : List (Nat × PI) := [(1, .one 0 (.one 1 (.one 2 (.one 3 (.one 4 (.one 6 (.two 5 (PI.of [7, 8, 9, 10]) 7 (PI.of [5, 8, 9, 10]))))))))]
noncomputable def AfV : List (Nat × PI) := [(6, PI.of [0, 1, 2, 3, 4, 5, 6, 7, 8])]
noncomputable def AfW : List (Nat × PI) := [(6, PI.of [0, 1, 2, 3, 4, 5, 6, 7, 8])]
noncomputable def AfX : List (Nat × PI) := [(6, PI.of [0, 1, 2, 3, 4, 5, 6, 7, 8])]
noncomputable def Ah8 : List (Nat × PI) := [(4, .one 0 (.one 1 (.one 2 (.one 4 (.one 6 (.one 8 (.one 10 (.one 12 (.ld 3 (.ld 5 (.ld 7 (.ld 9 (.ld 11 (.st 13 3 (.one 14 (.st 15 3 (.one 16 (.st 17 3 (.one 18 (.st 19 3 (.one 20 (.st 21 3 (PI.of [22, 23]))))))))))))))))))))))), (6, .one 0 (.one 1 (.one 2 (.one 4 (.one 6 (.one 8 (.ld 3 (.ld 5 (.ld 7 (.st 9 3 (.one 10 (.st 11 3 (.one 12 (.st 13 3 (PI.of [14, 15]))))))))))))))), (8, .one 0 (.one 1 (.one 2 (.one 4 (.ld 3 (.st 5 3 (PI.of [6, 7]))))))), (12, .one 0 (.one 1 (.one 2 (.one 4 (.ld 3 (.st 5 3 (PI.of [6, 7]))))))), (14, .one 0 (.one 1 (.one 2 (.one 4 (.one 6 (.one 8 (.ld 3 (.ld 5 (.ld 7 (.st 9 3 (.one 10 (.st 11 3 (.one 12 (.st 13 3 (PI.of [14, 15]))))))))))))))), (16, .one 0 (.one 1 (.one 2 (.one 4 (.ld 3 (.st 5 3 (PI.of [6, 7]))))))), (24, .one 0 (.one 1 (.one 2 (.one 4 (.ld 3 (.st 5 3 (PI.of [6, 7]))))))), (26, .one 0 (.one 1 (.one 2 (.one 4 (.ld 3 (.st 5 3 (PI.of [6, 7]))))))), (28, .one 0 (.one 1 (.one 2 (.one 4 (.ld 3 (.st 5 3 (PI.of [6, 7])))))))]
noncomputable def o76 : List (Nat × PI) := [(1, .one 0 (.one 1 (.one 2 (.one 3 (.one 4 (.one 6 (.two 5 (PI.of [7, 8, 9, 10]) 7 (PI.of [5, 8, 9, 10]))))))))]
noncomputable def o44 : List (Nat × PI) := [(14, PI.of [0, 1, 2, 3, 4, 5, 6, 8, 9, 7, 10, 11, 12])]
noncomputable def o95 : List (Nat × PI) := [(6, PI.of [0, 1, 2, 3, 4, 5, 6, 7, 8])]
noncomputable def o96 : List (Nat × PI) := [(6, PI.of [0, 1, 2, 3, 4, 5, 6, 7, 8, 9])]
noncomputable def o97 : List (Nat × PI) := [(6, PI.of [0, 1, 2, 3, 4, 5, 6, 7, 8])]
noncomputable def o38 : List (Nat × PI) := [(6, PI.of [0, 1, 2, 3, 4, 5, 6, 7, 8])]
noncomputable def AfU : List (Nat × PI) := [(6, PI.of [0, 1, 2, 3, 4, 5, 6, 7, 8, 9])]
noncomputable def o94 : List (Nat × PI) := [(6, PI.of [0, 1, 2, 3, 4, 5, 6, 7, 8, 9])]
noncomputable def o6 : List (Nat × PI) := [(10, PI.of [0, 1, 2, 3, 4])]
noncomputable abbrev Aev : Eb := ⟨AgT, 12, Tryz.f120.results.toList, []⟩
noncomputable abbrev AeM : Eb := ⟨Ahu, 13, Tryz.f221.results.toList, []⟩
noncomputable abbrev fi121 : Eb := ⟨Afh, 27, Tryz.f121.results.toList, []⟩
noncomputable abbrev fi122 : Eb := ⟨Afi, 28, Tryz.f122.results.toList, []⟩
noncomputable abbrev Aeu : Eb := ⟨AgS, 12, Tryz.f109.results.toList, []⟩
noncomputable abbrev Ags : Eb := ⟨c33, 70, Tryz.f33.results.toList, []⟩
noncomputable abbrev AeQ : Eb := ⟨Ahy, 13, Tryz.f230.results.toList, []⟩
noncomputable abbrev fi133 : Eb := ⟨Afm, 27, Tryz.f133.results.toList, []⟩
noncomputable abbrev Aew : Eb := ⟨AgU, 19, Tryz.f134.results.toList, []⟩
noncomputable abbrev fi84 : Eb := ⟨c84, 27, Tryz.f84.results.toList, []⟩
noncomputable abbrev Agu : Eb := ⟨c41, 37, Tryz.f41.results.toList, []⟩
noncomputable abbrev fi126 : Eb := ⟨Afj, 22, Tryz.f126.results.toList, []⟩
noncomputable abbrev AeP : Eb := ⟨Ahx, 11, Tryz.f225.results.toList, []⟩
noncomputable abbrev fi127 : Eb := ⟨Afk, 23, Tryz.f127.results.toList, []⟩
noncomputable abbrev fi128 : Eb := ⟨Afl, 22, Tryz.f128.results.toList, []⟩
noncomputable abbrev fi35 : Eb := ⟨c35, 22, Tryz.f35.results.toList, []⟩
noncomputable abbrev Agt : Eb := ⟨c36, 86, Tryz.f36.results.toList, []⟩
noncomputable abbrev AeS : Eb := ⟨Ah0, 14, Tryz.f233.results.toList, []⟩
noncomputable abbrev fi143 : Eb := ⟨Afn, 23, Tryz.f143.results.toList, []⟩
noncomputable abbrev Ae4 : Eb := ⟨Ahc, 18, Tryz.f144.results.toList, []⟩
noncomputable abbrev fi88 : Eb := ⟨c88, 23, Tryz.f88.results.toList, []⟩
noncomputable abbrev Agv : Eb := ⟨c43, 33, Tryz.f43.results.toList, []⟩
noncomputable abbrev AeR : Eb := ⟨Ahz, 10, Tryz.f232.results.toList, []⟩
noncomputable abbrev fi141 : Eb := ⟨O0, 239, Tryz.f141.results.toList, P6⟩
noncomputable abbrev Ae3 : Eb := ⟨Ahb, 22, Tryz.f142.results.toList, []⟩
noncomputable abbrev Aex : Eb := ⟨AgV, 44, Tryz.f135.results.toList, []⟩
noncomputable abbrev AeE : Eb := ⟨Ahm, 15, Tryz.f187.results.toList, []⟩
noncomputable abbrev Aey : Eb := ⟨AgW, 41, Tryz.f136.results.toList, []⟩
noncomputable abbrev fi277 : Eb := ⟨Afy, 104, Tryz.f277.results.toList, []⟩
noncomputable abbrev fi231 : Eb := ⟨Afu, 35, Tryz.f231.results.toList, []⟩
noncomputable abbrev Aez : Eb := ⟨AgX, 6, Tryz.f137.results.toList, []⟩
noncomputable abbrev Ae0 : Eb := ⟨AgY, 21, Tryz.f138.results.toList, []⟩
noncomputable abbrev fi273 : Eb := ⟨Afw, 17, Tryz.f273.results.toList, []⟩
noncomputable abbrev fi274 : Eb := ⟨Afx, 33, Tryz.f274.results.toList, []⟩
noncomputable abbrev AeO : Eb := ⟨Ahw, 25, Tryz.f223.results.toList, []⟩
noncomputable abbrev Ae1 : Eb := ⟨AgZ, 17, Tryz.f139.results.toList, []⟩
noncomputable abbrev AeN : Eb := ⟨Ahv, 120, Tryz.f222.results.toList, []⟩
noncomputable abbrev fi224 : Eb := ⟨Aft, 57, Tryz.f224.results.toList, []⟩
noncomputable abbrev fi124 : Eb := ⟨Nb, 191, Tryz.f124.results.toList, Nh⟩
noncomputable abbrev Ae2 : Eb := ⟨Aha, 28, Tryz.f140.results.toList, []⟩
noncomputable abbrev fi42 : Eb := ⟨c42, 142, Tryz.f42.results.toList, []⟩
noncomputable abbrev AeD : Eb := ⟨Ahl, 10, Tryz.f183.results.toList, []⟩
noncomputable abbrev fi203 : Eb := ⟨Afq, 26, Tryz.f203.results.toList, AfV⟩
noncomputable abbrev fi204 : Eb := ⟨Afr, 26, Tryz.f204.results.toList, AfW⟩
noncomputable abbrev fi205 : Eb := ⟨Afs, 26, Tryz.f205.results.toList, AfX⟩
noncomputable abbrev Agz : Eb := ⟨c82, 186, Tryz.f82.results.toList, []⟩
noncomputable abbrev Agx : Eb := ⟨c62, 31, Tryz.f62.results.toList, []⟩
noncomputable abbrev Ae5 : Eb := ⟨Ahd, 45, Tryz.f145.results.toList, []⟩
noncomputable abbrev Ae8 : Eb := ⟨Ahg, 15, Tryz.f149.results.toList, []⟩
noncomputable abbrev Ae6 : Eb := ⟨Ahe, 41, Tryz.f146.results.toList, []⟩
noncomputable abbrev AeC : Eb := ⟨Ahk, 9, Tryz.f172.results.toList, []⟩
noncomputable abbrev AeJ : Eb := ⟨Ahr, 5, Tryz.f197.results.toList, []⟩
noncomputable abbrev Ae7 : Eb := ⟨Ahf, 16, Tryz.f148.results.toList, []⟩
noncomputable abbrev AeH : Eb := ⟨Ahp, 121, Tryz.f195.results.toList, Ah8⟩
noncomputable abbrev AeU : Eb := ⟨Ah2, 5, Tryz.f268.results.toList, []⟩
noncomputable abbrev AeK : Eb := ⟨Ahs, 20, Tryz.f198.results.toList, []⟩
noncomputable abbrev AeG : Eb := ⟨Aho, 5, Tryz.f191.results.toList, []⟩
noncomputable abbrev AeI : Eb := ⟨Ahq, 50, Tryz.f196.results.toList, []⟩
noncomputable abbrev AeF : Eb := ⟨Ahn, 5, Tryz.f190.results.toList, []⟩
noncomputable abbrev AeV : Eb := ⟨Ah3, 19, Tryz.f301.results.toList, []⟩
noncomputable abbrev fi269 : Eb := ⟨Afv, 35, Tryz.f269.results.toList, []⟩
noncomputable abbrev fi199 : Eb := ⟨O1, 65, Tryz.f199.results.toList, []⟩
noncomputable abbrev Agy : Eb := ⟨c76, 81, Tryz.f76.results.toList, o76⟩
noncomputable abbrev Ae9 : Eb := ⟨Ahh, 17, Tryz.f150.results.toList, []⟩
noncomputable abbrev AeA : Eb := ⟨Ahi, 17, Tryz.f151.results.toList, []⟩
noncomputable abbrev fi152 : Eb := ⟨Afo, 15, Tryz.f152.results.toList, []⟩
noncomputable abbrev fi44 : Eb := ⟨c44, 130, Tryz.f44.results.toList, o44⟩
noncomputable abbrev fi95 : Eb := ⟨c95, 26, Tryz.f95.results.toList, o95⟩
noncomputable abbrev AeL : Eb := ⟨Aht, 15, Tryz.f215.results.toList, []⟩
noncomputable abbrev fi96 : Eb := ⟨c96, 27, Tryz.f96.results.toList, o96⟩
noncomputable abbrev fi97 : Eb := ⟨c97, 26, Tryz.f97.results.toList, o97⟩
noncomputable abbrev fi38 : Eb := ⟨c38, 26, Tryz.f38.results.toList, o38⟩
noncomputable abbrev Agr : Eb := ⟨c17, 136, Tryz.f17.results.toList, []⟩
noncomputable abbrev AeT : Eb := ⟨Ah1, 20, Tryz.f235.results.toList, []⟩
noncomputable abbrev fi153 : Eb := ⟨Afp, 27, Tryz.f153.results.toList, AfU⟩
noncomputable abbrev AeB : Eb := ⟨Ahj, 26, Tryz.f154.results.toList, []⟩
noncomputable abbrev fi94 : Eb := ⟨c94, 27, Tryz.f94.results.toList, o94⟩
noncomputable abbrev Agw : Eb := ⟨c45, 49, Tryz.f45.results.toList, []⟩
noncomputable abbrev fi6 : Eb := ⟨c6, 27, Tryz.f6.results.toList, o6⟩
abbrev uu : AV := .sc undef
noncomputable def tf : Nat → Nat → (Nat → AV) → Tm
 | 0, _, _ => []
 | n + 1, i, t => (i, t i) :: tf n (i + 1) t
noncomputable def ut : Nat → AV := fun _ => uu
noncomputable def ud : List (Nat × AV) → (Nat → AV) → Nat → AV
 | [], t, i => t i
 | (j, v) :: r, t, i => match Nat.beq j i with
  | true => v
  | false => ud r t i
theorem Ud : ∀ (n i : Nat) (t : Nat → AV), tf n i t = (List.range' i n).map fun j => (j, t j)
 | 0, _, _ => rfl
 | n + 1, i, t => by
  rw [tf, Ud n (i + 1) t, List.range'_succ, List.map_cons]
theorem AfT (nt : Nat) (tm : Tm) : nrm nt tm = tf nt 0 (fun i => gt tm i) := by
 rw [Ud, nrm, List.range_eq_range']
theorem Bp {nt m : Nat} {body : Tm → Af → (Ex → Tm → Af → Option β) → Option β} {c c' : Ex → Tm → Af → Option β} {g : (Nat → AV) → Af → Option β} {tm : Tm} {H : Af} (h : ∀ t H, Cx nt body c m (tf nt 0 t) H = g t H) (hc : c = c') : Cx nt body c (m + 1) tm H = body tm H (Dj (fun tm H => g (fun i => gt tm i) H) c') := by
 have e : (fun tm H => Cx nt body c m (nrm nt tm) H) = fun tm H => g (fun i => gt tm i) H := by
  funext tm H
  rw [AfT, h]
 rw [Cx, e, hc]
noncomputable def As (t : Nat) : Option TI := (tis[t]?).getD none
noncomputable def cd : Code → List Nat → Code
 | c, [] => c
 | .seq a b, i :: p => cd (if i = 0 then a else b) p
 | .cond _ a b, i :: p => cd (if i = 1 then a else b) p
 | .block _ a, _ :: p => cd a p
 | .loop a, _ :: p => cd a p
 | c, _ => c
abbrev Iy (i : Eb) (f : (β : Type) → Pr β → Nat → AV → Af → KO β → Option β) : Prop := ∀ {β : Type} (p : Pr β) (n : Nat) (a0 : AV) (H : Af) (k : KO β), B3 As p n i [a0] H k = f β p n a0 H k
abbrev Km (i : Eb) (f : (β : Type) → Pr β → Nat → AV → AV → Af → KO β → Option β) : Prop := ∀ {β : Type} (p : Pr β) (n : Nat) (a0 a1 : AV) (H : Af) (k : KO β), B3 As p n i [a0, a1] H k = f β p n a0 a1 H k
abbrev Bd3 (i : Eb) (f : (β : Type) → Pr β → Nat → AV → AV → AV → Af → KO β → Option β) : Prop := ∀ {β : Type} (p : Pr β) (n : Nat) (a0 a1 a2 : AV) (H : Af) (k : KO β), B3 As p n i [a0, a1, a2] H k = f β p n a0 a1 a2 H k
noncomputable def f120 (p : Pr β) (n : Nat) (a0 a1 : AV) (H : Af) (k : KO β) : Option β :=
 p.len a0 fun t7 =>
 p.bin .sub a1 t7 fun t8 =>
 p.bin .lss t8 (.sc (.int .i64 0)) fun t10 =>
 p.cond t10
 (k (.sc (.int .i64 (-1))) H)
 (k t8 H)
theorem Yb : Km Aev @f120 := fun p n a0 a1 H k => by kernel_rfl
noncomputable def f221 (p : Pr β) (n : Nat) (a0 a1 : AV) (H : Af) (k : KO β) : Option β :=
 p.box a0 H fun t2 H =>
 p.fadr 0 t2 fun t6 =>
 p.load false 1 t6 H fun t7 =>
 p.lenS t7 fun t8 =>
 p.bin .sub a1 t8 fun t9 =>
 p.bin .lss t9 (.sc (.int .i64 0)) fun t11 =>
 p.cond t11
 (k (.sc (.int .i64 (-1))) H)
 (k t9 H)
theorem Zh : Km AeM @f221 := fun p n a0 a1 H k => by kernel_rfl
noncomputable def L9 (p : Pr β) (n : Nat)  (k : KO β) : Nat → AV → AV → KO β
 | 0, _, _, _, _ => none
 | m + 1, t0, t1, t5, H => p.len t0 fun t14 =>
   p.bin .lss t5 t14 fun t15 =>
   p.cond t15
   (p.iadr 2 t0 t5 fun t20 =>
   p.load true 2 t20 H fun t21 =>
   p.call 3 (.fn 221 [] []) [t21, t1] H fun t23 H =>
   p.bin .lss t23 (.sc (.int .i64 0)) fun t25 =>
   p.cond t25
   (k (.sc (.int .i64 (-1))) H)
   (p.bin .add t5 (.sc (.int .i64 1)) fun t17 =>
   L9 p n  k m t0 t23 t17 H))
   (k t1 H)
noncomputable def f121 (p : Pr β) (n : Nat) (a0 a1 : AV) (H : Af) (k : KO β) : Option β :=
 p.len a0 fun t8 =>
 p.bin .sub a1 t8 fun t9 =>
 p.bin .lss t9 (.sc (.int .i64 0)) fun t11 =>
 p.cond t11
 (k (.sc (.int .i64 (-1))) H)
 (L9 p n  k n a0 t9 (.sc (.int .i64 0)) H)
noncomputable def Wp (p : Pr β) (n : Nat)  (k : KO β) (m : Nat) (tm : Tm) (H : Af) : Option β :=
 Cx 27 (fun tm H k => Ak As p [] 27 n (cd Afh [1, 1, 1, 0, 1, 0, 0]) tm H k) (Dy 0 (Dj (fun tm H => Ak As p [] 27 n (cd Afh [1, 1, 1, 1]) tm H (Cc As p fi121.results k)) (Cc As p fi121.results k))) m tm H
theorem U1 (p : Pr β) (n : Nat)  (k : KO β) (m0 : Nat) : ∀ (t : Nat → AV) (H : Af), Wp p n  k m0 (tf 27 0 t) H = L9 p n  k m0 (t 0) (t 1) (t 5) H := by
 induction m0 with
 | zero => intros; rfl
 | succ m0 ih =>
  intro t H
  refine Eq.trans (Bp (nt := 27) (m := m0) (g := fun t H => L9 p n  k m0 (t 0) (t 1) (t 5) H) ih rfl) ?_
  kernel_rfl
theorem Aa5 (p : Pr β) (n : Nat) (a0 a1 : AV) (H : Af) (k : KO β) : B3 As p n fi121 [a0, a1] H k =
 p.len a0 fun t8 =>
 p.bin .sub a1 t8 fun t9 =>
 p.bin .lss t9 (.sc (.int .i64 0)) fun t11 =>
 p.cond t11
 (k (.sc (.int .i64 (-1))) H)
 (Wp p n  k n (tf 27 0 (ud [(0, a0), (1, t9), (4, (.sc (.int .i64 0))), (5, (.sc (.int .i64 0))), (6, a1), (7, a0), (8, t8), (9, t9), (10, t9), (11, t11)] ut)) H) := by kernel_rfl
theorem Yc : Km fi121 @f121 := fun p n a0 a1 H k => by
 rw [Aa5]
 simp only [U1]
 kernel_rfl
noncomputable def Jq (p : Pr β) (n : Nat)  (k : KO β) : Nat → AV → AV → KO β
 | 0, _, _, _, _ => none
 | m + 1, t0, t1, t5, H => p.len t0 fun t14 =>
   p.bin .lss t5 t14 fun t15 =>
   p.cond t15
   (p.iadr 1 t0 t5 fun t21 =>
   p.load false 1 t21 H fun t22 =>
   p.lenS t22 fun t23 =>
   p.bin .sub t1 t23 fun t24 =>
   p.bin .lss t24 (.sc (.int .i64 0)) fun t26 =>
   p.cond t26
   (k (.sc (.int .i64 (-1))) H)
   (p.bin .add t5 (.sc (.int .i64 1)) fun t17 =>
   Jq p n  k m t0 t24 t17 H))
   (k t1 H)
noncomputable def f122 (p : Pr β) (n : Nat) (a0 a1 : AV) (H : Af) (k : KO β) : Option β :=
 p.len a0 fun t8 =>
 p.bin .sub a1 t8 fun t9 =>
 p.bin .lss t9 (.sc (.int .i64 0)) fun t11 =>
 p.cond t11
 (k (.sc (.int .i64 (-1))) H)
 (Jq p n  k n a0 t9 (.sc (.int .i64 0)) H)
noncomputable def Wq (p : Pr β) (n : Nat)  (k : KO β) (m : Nat) (tm : Tm) (H : Af) : Option β :=
 Cx 28 (fun tm H k => Ak As p [] 28 n (cd Afi [1, 1, 1, 0, 1, 0, 0]) tm H k) (Dy 0 (Dj (fun tm H => Ak As p [] 28 n (cd Afi [1, 1, 1, 1]) tm H (Cc As p fi122.results k)) (Cc As p fi122.results k))) m tm H
theorem U2 (p : Pr β) (n : Nat)  (k : KO β) (m0 : Nat) : ∀ (t : Nat → AV) (H : Af), Wq p n  k m0 (tf 28 0 t) H = Jq p n  k m0 (t 0) (t 1) (t 5) H := by
 induction m0 with
 | zero => intros; rfl
 | succ m0 ih =>
  intro t H
  refine Eq.trans (Bp (nt := 28) (m := m0) (g := fun t H => Jq p n  k m0 (t 0) (t 1) (t 5) H) ih rfl) ?_
  kernel_rfl
theorem Aa6 (p : Pr β) (n : Nat) (a0 a1 : AV) (H : Af) (k : KO β) : B3 As p n fi122 [a0, a1] H k =
 p.len a0 fun t8 =>
 p.bin .sub a1 t8 fun t9 =>
 p.bin .lss t9 (.sc (.int .i64 0)) fun t11 =>
 p.cond t11
 (k (.sc (.int .i64 (-1))) H)
 (Wq p n  k n (tf 28 0 (ud [(0, a0), (1, t9), (4, (.sc (.int .i64 0))), (5, (.sc (.int .i64 0))), (6, a1), (7, a0), (8, t8), (9, t9), (10, t9), (11, t11)] ut)) H) := by kernel_rfl
theorem Yd : Km fi122 @f122 := fun p n a0 a1 H k => by
 rw [Aa6]
 simp only [U2]
 kernel_rfl
noncomputable def f109 (p : Pr β) (n : Nat) (a0 a1 : AV) (H : Af) (k : KO β) : Option β :=
 p.len a0 fun t7 =>
 p.bin .sub a1 t7 fun t8 =>
 p.bin .lss t8 (.sc (.int .i64 0)) fun t10 =>
 p.cond t10
 (k (.sc (.int .i64 (-1))) H)
 (k t8 H)
theorem Ya : Km Aeu @f109 := fun p n a0 a1 H k => by kernel_rfl
noncomputable def f33 (p : Pr β) (n : Nat) (a0 a1 : AV) (H : Af) (k : KO β) : Option β :=
 p.box a0 H fun t2 H =>
 p.fadr 5 t2 fun t6 =>
 p.load false 1 t6 H fun t7 =>
 p.lenS t7 fun t8 =>
 p.bin .sub a1 t8 fun t9 =>
 p.bin .lss t9 (.sc (.int .i64 0)) fun t11 =>
 p.cond t11
 (k (.sc (.int .i64 (-1))) H)
 (p.fadr 6 t2 fun t12 =>
 p.load false 1 t12 H fun t13 =>
 p.call 3 (.fn 120 [] []) [t13, t9] H fun t15 H =>
 p.bin .lss t15 (.sc (.int .i64 0)) fun t17 =>
 p.cond t17
 (k (.sc (.int .i64 (-1))) H)
 (p.fadr 7 t2 fun t19 =>
 p.load false 1 t19 H fun t20 =>
 p.lenS t20 fun t21 =>
 p.bin .sub t15 t21 fun t22 =>
 p.bin .lss t22 (.sc (.int .i64 0)) fun t24 =>
 p.cond t24
 (k (.sc (.int .i64 (-1))) H)
 (p.fadr 12 t2 fun t26 =>
 p.load false 1 t26 H fun t27 =>
 p.lenS t27 fun t28 =>
 p.bin .sub t22 t28 fun t29 =>
 p.bin .lss t29 (.sc (.int .i64 0)) fun t31 =>
 p.cond t31
 (k (.sc (.int .i64 (-1))) H)
 (p.fadr 13 t2 fun t32 =>
 p.load false 1 t32 H fun t33 =>
 p.call 3 (.fn 120 [] []) [t33, t29] H fun t35 H =>
 p.bin .lss t35 (.sc (.int .i64 0)) fun t37 =>
 p.cond t37
 (k (.sc (.int .i64 (-1))) H)
 (p.fadr 17 t2 fun t39 =>
 p.load false 1 t39 H fun t40 =>
 p.lenS t40 fun t41 =>
 p.bin .sub t35 t41 fun t42 =>
 p.bin .lss t42 (.sc (.int .i64 0)) fun t44 =>
 p.cond t44
 (k (.sc (.int .i64 (-1))) H)
 (p.fadr 19 t2 fun t45 =>
 p.load false 1 t45 H fun t46 =>
 p.call 3 (.fn 120 [] []) [t46, t42] H fun t48 H =>
 p.bin .lss t48 (.sc (.int .i64 0)) fun t50 =>
 p.cond t50
 (k (.sc (.int .i64 (-1))) H)
 (p.fadr 22 t2 fun t51 =>
 p.load false 1 t51 H fun t52 =>
 p.call 3 (.fn 121 [] []) [t52, t48] H fun t54 H =>
 p.bin .lss t54 (.sc (.int .i64 0)) fun t56 =>
 p.cond t56
 (k (.sc (.int .i64 (-1))) H)
 (p.fadr 23 t2 fun t57 =>
 p.load false 1 t57 H fun t58 =>
 p.call 3 (.fn 122 [] []) [t58, t54] H fun t60 H =>
 p.bin .lss t60 (.sc (.int .i64 0)) fun t62 =>
 p.cond t62
 (k (.sc (.int .i64 (-1))) H)
 (p.fadr 24 t2 fun t63 =>
 p.load false 1 t63 H fun t64 =>
 p.call 3 (.fn 109 [] []) [t64, t60] H fun t66 H =>
 p.bin .lss t66 (.sc (.int .i64 0)) fun t68 =>
 p.cond t68
 (k (.sc (.int .i64 (-1))) H)
 (k t66 H))))))))))
theorem AaR : Km Ags @f33 := fun p n a0 a1 H k => by kernel_rfl
noncomputable def f230 (p : Pr β) (n : Nat) (a0 a1 : AV) (H : Af) (k : KO β) : Option β :=
 p.box a0 H fun t2 H =>
 p.fadr 0 t2 fun t6 =>
 p.load false 1 t6 H fun t7 =>
 p.lenS t7 fun t8 =>
 p.bin .sub a1 t8 fun t9 =>
 p.bin .lss t9 (.sc (.int .i64 0)) fun t11 =>
 p.cond t11
 (k (.sc (.int .i64 (-1))) H)
 (k t9 H)
theorem Zm : Km AeQ @f230 := fun p n a0 a1 H k => by kernel_rfl
noncomputable def Md (p : Pr β) (n : Nat)  (k : KO β) : Nat → AV → AV → KO β
 | 0, _, _, _, _ => none
 | m + 1, t0, t1, t5, H => p.len t0 fun t14 =>
   p.bin .lss t5 t14 fun t15 =>
   p.cond t15
   (p.iadr 3 t0 t5 fun t20 =>
   p.load true 3 t20 H fun t21 =>
   p.call 3 (.fn 230 [] []) [t21, t1] H fun t23 H =>
   p.bin .lss t23 (.sc (.int .i64 0)) fun t25 =>
   p.cond t25
   (k (.sc (.int .i64 (-1))) H)
   (p.bin .add t5 (.sc (.int .i64 1)) fun t17 =>
   Md p n  k m t0 t23 t17 H))
   (k t1 H)
noncomputable def f133 (p : Pr β) (n : Nat) (a0 a1 : AV) (H : Af) (k : KO β) : Option β :=
 p.len a0 fun t8 =>
 p.bin .sub a1 t8 fun t9 =>
 p.bin .lss t9 (.sc (.int .i64 0)) fun t11 =>
 p.cond t11
 (k (.sc (.int .i64 (-1))) H)
 (Md p n  k n a0 t9 (.sc (.int .i64 0)) H)
noncomputable def Wu (p : Pr β) (n : Nat)  (k : KO β) (m : Nat) (tm : Tm) (H : Af) : Option β :=
 Cx 27 (fun tm H k => Ak As p [] 27 n (cd Afm [1, 1, 1, 0, 1, 0, 0]) tm H k) (Dy 0 (Dj (fun tm H => Ak As p [] 27 n (cd Afm [1, 1, 1, 1]) tm H (Cc As p fi133.results k)) (Cc As p fi133.results k))) m tm H
theorem U9 (p : Pr β) (n : Nat)  (k : KO β) (m0 : Nat) : ∀ (t : Nat → AV) (H : Af), Wu p n  k m0 (tf 27 0 t) H = Md p n  k m0 (t 0) (t 1) (t 5) H := by
 induction m0 with
 | zero => intros; rfl
 | succ m0 ih =>
  intro t H
  refine Eq.trans (Bp (nt := 27) (m := m0) (g := fun t H => Md p n  k m0 (t 0) (t 1) (t 5) H) ih rfl) ?_
  kernel_rfl
theorem AaB (p : Pr β) (n : Nat) (a0 a1 : AV) (H : Af) (k : KO β) : B3 As p n fi133 [a0, a1] H k =
 p.len a0 fun t8 =>
 p.bin .sub a1 t8 fun t9 =>
 p.bin .lss t9 (.sc (.int .i64 0)) fun t11 =>
 p.cond t11
 (k (.sc (.int .i64 (-1))) H)
 (Wu p n  k n (tf 27 0 (ud [(0, a0), (1, t9), (4, (.sc (.int .i64 0))), (5, (.sc (.int .i64 0))), (6, a1), (7, a0), (8, t8), (9, t9), (10, t9), (11, t11)] ut)) H) := by kernel_rfl
theorem Yi : Km fi133 @f133 := fun p n a0 a1 H k => by
 rw [AaB]
 simp only [U9]
 kernel_rfl
noncomputable def f134 (p : Pr β) (n : Nat) (a0 a1 : AV) (H : Af) (k : KO β) : Option β :=
 p.box a0 H fun t2 H =>
 p.fadr 0 t2 fun t6 =>
 p.load false 1 t6 H fun t7 =>
 p.lenS t7 fun t8 =>
 p.bin .sub a1 t8 fun t9 =>
 p.bin .lss t9 (.sc (.int .i64 0)) fun t11 =>
 p.cond t11
 (k (.sc (.int .i64 (-1))) H)
 (p.fadr 1 t2 fun t12 =>
 p.load false 1 t12 H fun t13 =>
 p.call 3 (.fn 120 [] []) [t13, t9] H fun t15 H =>
 p.bin .lss t15 (.sc (.int .i64 0)) fun t17 =>
 p.cond t17
 (k (.sc (.int .i64 (-1))) H)
 (k t15 H))
theorem Yj : Km Aew @f134 := fun p n a0 a1 H k => by kernel_rfl
noncomputable def Pi (p : Pr β) (n : Nat)  (k : KO β) : Nat → AV → AV → KO β
 | 0, _, _, _, _ => none
 | m + 1, t0, t1, t5, H => p.len t0 fun t14 =>
   p.bin .lss t5 t14 fun t15 =>
   p.cond t15
   (p.iadr 4 t0 t5 fun t20 =>
   p.load true 4 t20 H fun t21 =>
   p.call 3 (.fn 134 [] []) [t21, t1] H fun t23 H =>
   p.bin .lss t23 (.sc (.int .i64 0)) fun t25 =>
   p.cond t25
   (k (.sc (.int .i64 (-1))) H)
   (p.bin .add t5 (.sc (.int .i64 1)) fun t17 =>
   Pi p n  k m t0 t23 t17 H))
   (k t1 H)
noncomputable def f84 (p : Pr β) (n : Nat) (a0 a1 : AV) (H : Af) (k : KO β) : Option β :=
 p.len a0 fun t8 =>
 p.bin .sub a1 t8 fun t9 =>
 p.bin .lss t9 (.sc (.int .i64 0)) fun t11 =>
 p.cond t11
 (k (.sc (.int .i64 (-1))) H)
 (Pi p n  k n a0 t9 (.sc (.int .i64 0)) H)
noncomputable def Abi (p : Pr β) (n : Nat)  (k : KO β) (m : Nat) (tm : Tm) (H : Af) : Option β :=
 Cx 27 (fun tm H k => Ak As p [] 27 n (cd c84 [1, 1, 1, 0, 1, 0, 0]) tm H k) (Dy 0 (Dj (fun tm H => Ak As p [] 27 n (cd c84 [1, 1, 1, 1]) tm H (Cc As p fi84.results k)) (Cc As p fi84.results k))) m tm H
theorem Z1 (p : Pr β) (n : Nat)  (k : KO β) (m0 : Nat) : ∀ (t : Nat → AV) (H : Af), Abi p n  k m0 (tf 27 0 t) H = Pi p n  k m0 (t 0) (t 1) (t 5) H := by
 induction m0 with
 | zero => intros; rfl
 | succ m0 ih =>
  intro t H
  refine Eq.trans (Bp (nt := 27) (m := m0) (g := fun t H => Pi p n  k m0 (t 0) (t 1) (t 5) H) ih rfl) ?_
  kernel_rfl
theorem Ad9 (p : Pr β) (n : Nat) (a0 a1 : AV) (H : Af) (k : KO β) : B3 As p n fi84 [a0, a1] H k =
 p.len a0 fun t8 =>
 p.bin .sub a1 t8 fun t9 =>
 p.bin .lss t9 (.sc (.int .i64 0)) fun t11 =>
 p.cond t11
 (k (.sc (.int .i64 (-1))) H)
 (Abi p n  k n (tf 27 0 (ud [(0, a0), (1, t9), (4, (.sc (.int .i64 0))), (5, (.sc (.int .i64 0))), (6, a1), (7, a0), (8, t8), (9, t9), (10, t9), (11, t11)] ut)) H) := by kernel_rfl
theorem Abj : Km fi84 @f84 := fun p n a0 a1 H k => by
 rw [Ad9]
 simp only [Z1]
 kernel_rfl
noncomputable def f41 (p : Pr β) (n : Nat) (a0 a1 : AV) (H : Af) (k : KO β) : Option β :=
 p.box a0 H fun t2 H =>
 p.fadr 2 t2 fun t6 =>
 p.load false 1 t6 H fun t7 =>
 p.lenS t7 fun t8 =>
 p.bin .sub a1 t8 fun t9 =>
 p.bin .lss t9 (.sc (.int .i64 0)) fun t11 =>
 p.cond t11
 (k (.sc (.int .i64 (-1))) H)
 (p.fadr 3 t2 fun t12 =>
 p.load true 25 t12 H fun t13 =>
 p.call 3 (.fn 33 [] []) [t13, t9] H fun t15 H =>
 p.bin .lss t15 (.sc (.int .i64 0)) fun t17 =>
 p.cond t17
 (k (.sc (.int .i64 (-1))) H)
 (p.fadr 28 t2 fun t18 =>
 p.load false 1 t18 H fun t19 =>
 p.call 3 (.fn 133 [] []) [t19, t15] H fun t21 H =>
 p.bin .lss t21 (.sc (.int .i64 0)) fun t23 =>
 p.cond t23
 (k (.sc (.int .i64 (-1))) H)
 (p.fadr 29 t2 fun t24 =>
 p.load true 4 t24 H fun t25 =>
 p.call 3 (.fn 134 [] []) [t25, t21] H fun t27 H =>
 p.bin .lss t27 (.sc (.int .i64 0)) fun t29 =>
 p.cond t29
 (k (.sc (.int .i64 (-1))) H)
 (p.fadr 33 t2 fun t30 =>
 p.load false 1 t30 H fun t31 =>
 p.call 3 (.fn 84 [] []) [t31, t27] H fun t33 H =>
 p.bin .lss t33 (.sc (.int .i64 0)) fun t35 =>
 p.cond t35
 (k (.sc (.int .i64 (-1))) H)
 (k t33 H)))))
theorem AaX : Km Agu @f41 := fun p n a0 a1 H k => by kernel_rfl
noncomputable def Ma (p : Pr β) (n : Nat)  (k : KO β) : Nat → AV → AV → KO β
 | 0, _, _, _, _ => none
 | m + 1, t0, t3, t4, H => p.len t0 fun t10 =>
   p.bin .lss t4 t10 fun t11 =>
   p.cond t11
   (p.iadr 1 t0 t4 fun t18 =>
   p.load false 1 t18 H fun t19 =>
   p.iadr 1 t3 t4 fun t20 =>
   p.store 1 t20 t19 H fun H =>
   p.bin .add t4 (.sc (.int .i64 1)) fun t13 =>
   Ma p n  k m t0 t3 t13 H)
   (k t3 H)
noncomputable def f126 (p : Pr β) (n : Nat) (a0 : AV) (H : Af) (k : KO β) : Option β :=
 p.len a0 fun t6 =>
 p.make 1 1 [(.sc (.int .u8 0))] t6 t6 H fun t7 H =>
 Ma p n  k n a0 t7 (.sc (.int .i64 0)) H
noncomputable def Wr (p : Pr β) (n : Nat)  (k : KO β) (m : Nat) (tm : Tm) (H : Af) : Option β :=
 Cx 22 (fun tm H k => Ak As p [] 22 n (cd Afj [1, 1, 0, 1, 0, 0]) tm H k) (Dy 0 (Dj (fun tm H => Ak As p [] 22 n (cd Afj [1, 1, 1]) tm H (Cc As p fi126.results k)) (Cc As p fi126.results k))) m tm H
theorem U6 (p : Pr β) (n : Nat)  (k : KO β) (m0 : Nat) : ∀ (t : Nat → AV) (H : Af), Wr p n  k m0 (tf 22 0 t) H = Ma p n  k m0 (t 0) (t 3) (t 4) H := by
 induction m0 with
 | zero => intros; rfl
 | succ m0 ih =>
  intro t H
  refine Eq.trans (Bp (nt := 22) (m := m0) (g := fun t H => Ma p n  k m0 (t 0) (t 3) (t 4) H) ih rfl) ?_
  kernel_rfl
theorem Aa8 (p : Pr β) (n : Nat) (a0 : AV) (H : Af) (k : KO β) : B3 As p n fi126 [a0] H k =
 p.len a0 fun t6 =>
 p.make 1 1 [(.sc (.int .u8 0))] t6 t6 H fun t7 H =>
 Wr p n  k n (tf 22 0 (ud [(0, a0), (2, .nl), (3, t7), (4, (.sc (.int .i64 0))), (5, a0), (6, t6), (7, t7)] ut)) H := by kernel_rfl
theorem Yf : Iy fi126 @f126 := fun p n a0 H k => by
 rw [Aa8]
 simp only [U6]
 kernel_rfl
noncomputable def f225 (p : Pr β) (n : Nat) (a0 : AV) (H : Af) (k : KO β) : Option β :=
 p.box a0 H fun t1 H =>
 p.new [(.sc (.string ⟨#[]⟩)), (.sc (.int .i64 0))] H fun t2 H =>
 p.new [(.sc (.string ⟨#[]⟩)), (.sc (.int .i64 0))] H fun t3 H =>
 p.fadr 0 t1 fun t4 =>
 p.load false 1 t4 H fun t5 =>
 p.fadr 0 t3 fun t6 =>
 p.store 1 t6 t5 H fun H =>
 p.fadr 1 t1 fun t7 =>
 p.load false 1 t7 H fun t8 =>
 p.fadr 1 t3 fun t9 =>
 p.store 1 t9 t8 H fun H =>
 p.load true 2 t3 H fun t10 =>
 p.store 2 t2 t10 H fun H =>
 p.load true 2 t2 H fun r0 =>
 k r0 H
theorem Zl : Iy AeP @f225 := fun p n a0 H k => by kernel_rfl
noncomputable def Mb (p : Pr β) (n : Nat)  (k : KO β) : Nat → AV → AV → KO β
 | 0, _, _, _, _ => none
 | m + 1, t0, t3, t4, H => p.len t0 fun t10 =>
   p.bin .lss t4 t10 fun t11 =>
   p.cond t11
   (p.iadr 2 t0 t4 fun t18 =>
   p.load true 2 t18 H fun t19 =>
   p.call 231 (.fn 225 [] []) [t19] H fun t20 H =>
   p.iadr 2 t3 t4 fun t21 =>
   p.store 2 t21 t20 H fun H =>
   p.bin .add t4 (.sc (.int .i64 1)) fun t13 =>
   Mb p n  k m t0 t3 t13 H)
   (k t3 H)
noncomputable def f127 (p : Pr β) (n : Nat) (a0 : AV) (H : Af) (k : KO β) : Option β :=
 p.len a0 fun t6 =>
 p.make 2 24 [(.sc (.string ⟨#[]⟩)), (.sc (.int .i64 0))] t6 t6 H fun t7 H =>
 Mb p n  k n a0 t7 (.sc (.int .i64 0)) H
noncomputable def Ws (p : Pr β) (n : Nat)  (k : KO β) (m : Nat) (tm : Tm) (H : Af) : Option β :=
 Cx 23 (fun tm H k => Ak As p [] 23 n (cd Afk [1, 1, 0, 1, 0, 0]) tm H k) (Dy 0 (Dj (fun tm H => Ak As p [] 23 n (cd Afk [1, 1, 1]) tm H (Cc As p fi127.results k)) (Cc As p fi127.results k))) m tm H
theorem U7 (p : Pr β) (n : Nat)  (k : KO β) (m0 : Nat) : ∀ (t : Nat → AV) (H : Af), Ws p n  k m0 (tf 23 0 t) H = Mb p n  k m0 (t 0) (t 3) (t 4) H := by
 induction m0 with
 | zero => intros; rfl
 | succ m0 ih =>
  intro t H
  refine Eq.trans (Bp (nt := 23) (m := m0) (g := fun t H => Mb p n  k m0 (t 0) (t 3) (t 4) H) ih rfl) ?_
  kernel_rfl
theorem Aa9 (p : Pr β) (n : Nat) (a0 : AV) (H : Af) (k : KO β) : B3 As p n fi127 [a0] H k =
 p.len a0 fun t6 =>
 p.make 2 24 [(.sc (.string ⟨#[]⟩)), (.sc (.int .i64 0))] t6 t6 H fun t7 H =>
 Ws p n  k n (tf 23 0 (ud [(0, a0), (2, .nl), (3, t7), (4, (.sc (.int .i64 0))), (5, a0), (6, t6), (7, t7)] ut)) H := by kernel_rfl
theorem Yg : Iy fi127 @f127 := fun p n a0 H k => by
 rw [Aa9]
 simp only [U7]
 kernel_rfl
noncomputable def Mc (p : Pr β) (n : Nat)  (k : KO β) : Nat → AV → AV → KO β
 | 0, _, _, _, _ => none
 | m + 1, t0, t3, t4, H => p.len t0 fun t10 =>
   p.bin .lss t4 t10 fun t11 =>
   p.cond t11
   (p.iadr 1 t0 t4 fun t18 =>
   p.load false 1 t18 H fun t19 =>
   p.iadr 1 t3 t4 fun t20 =>
   p.store 1 t20 t19 H fun H =>
   p.bin .add t4 (.sc (.int .i64 1)) fun t13 =>
   Mc p n  k m t0 t3 t13 H)
   (k t3 H)
noncomputable def f128 (p : Pr β) (n : Nat) (a0 : AV) (H : Af) (k : KO β) : Option β :=
 p.len a0 fun t6 =>
 p.make 1 16 [(.sc (.string ⟨#[]⟩))] t6 t6 H fun t7 H =>
 Mc p n  k n a0 t7 (.sc (.int .i64 0)) H
noncomputable def Wt (p : Pr β) (n : Nat)  (k : KO β) (m : Nat) (tm : Tm) (H : Af) : Option β :=
 Cx 22 (fun tm H k => Ak As p [] 22 n (cd Afl [1, 1, 0, 1, 0, 0]) tm H k) (Dy 0 (Dj (fun tm H => Ak As p [] 22 n (cd Afl [1, 1, 1]) tm H (Cc As p fi128.results k)) (Cc As p fi128.results k))) m tm H
theorem U8 (p : Pr β) (n : Nat)  (k : KO β) (m0 : Nat) : ∀ (t : Nat → AV) (H : Af), Wt p n  k m0 (tf 22 0 t) H = Mc p n  k m0 (t 0) (t 3) (t 4) H := by
 induction m0 with
 | zero => intros; rfl
 | succ m0 ih =>
  intro t H
  refine Eq.trans (Bp (nt := 22) (m := m0) (g := fun t H => Mc p n  k m0 (t 0) (t 3) (t 4) H) ih rfl) ?_
  kernel_rfl
theorem AaA (p : Pr β) (n : Nat) (a0 : AV) (H : Af) (k : KO β) : B3 As p n fi128 [a0] H k =
 p.len a0 fun t6 =>
 p.make 1 16 [(.sc (.string ⟨#[]⟩))] t6 t6 H fun t7 H =>
 Wt p n  k n (tf 22 0 (ud [(0, a0), (2, .nl), (3, t7), (4, (.sc (.int .i64 0))), (5, a0), (6, t6), (7, t7)] ut)) H := by kernel_rfl
theorem Yh : Iy fi128 @f128 := fun p n a0 H k => by
 rw [AaA]
 simp only [U8]
 kernel_rfl
noncomputable def Pg (p : Pr β) (n : Nat)  (k : KO β) : Nat → AV → AV → KO β
 | 0, _, _, _, _ => none
 | m + 1, t0, t3, t4, H => p.len t0 fun t10 =>
   p.bin .lss t4 t10 fun t11 =>
   p.cond t11
   (p.iadr 1 t0 t4 fun t18 =>
   p.load false 1 t18 H fun t19 =>
   p.iadr 1 t3 t4 fun t20 =>
   p.store 1 t20 t19 H fun H =>
   p.bin .add t4 (.sc (.int .i64 1)) fun t13 =>
   Pg p n  k m t0 t3 t13 H)
   (k t3 H)
noncomputable def f35 (p : Pr β) (n : Nat) (a0 : AV) (H : Af) (k : KO β) : Option β :=
 p.len a0 fun t6 =>
 p.make 1 8 [(.sc (.int .i64 0))] t6 t6 H fun t7 H =>
 Pg p n  k n a0 t7 (.sc (.int .i64 0)) H
noncomputable def AaS (p : Pr β) (n : Nat)  (k : KO β) (m : Nat) (tm : Tm) (H : Af) : Option β :=
 Cx 22 (fun tm H k => Ak As p [] 22 n (cd c35 [1, 1, 0, 1, 0, 0]) tm H k) (Dy 0 (Dj (fun tm H => Ak As p [] 22 n (cd c35 [1, 1, 1]) tm H (Cc As p fi35.results k)) (Cc As p fi35.results k))) m tm H
theorem Zx (p : Pr β) (n : Nat)  (k : KO β) (m0 : Nat) : ∀ (t : Nat → AV) (H : Af), AaS p n  k m0 (tf 22 0 t) H = Pg p n  k m0 (t 0) (t 3) (t 4) H := by
 induction m0 with
 | zero => intros; rfl
 | succ m0 ih =>
  intro t H
  refine Eq.trans (Bp (nt := 22) (m := m0) (g := fun t H => Pg p n  k m0 (t 0) (t 3) (t 4) H) ih rfl) ?_
  kernel_rfl
theorem Ad4 (p : Pr β) (n : Nat) (a0 : AV) (H : Af) (k : KO β) : B3 As p n fi35 [a0] H k =
 p.len a0 fun t6 =>
 p.make 1 8 [(.sc (.int .i64 0))] t6 t6 H fun t7 H =>
 AaS p n  k n (tf 22 0 (ud [(0, a0), (2, .nl), (3, t7), (4, (.sc (.int .i64 0))), (5, a0), (6, t6), (7, t7)] ut)) H := by kernel_rfl
theorem AaT : Iy fi35 @f35 := fun p n a0 H k => by
 rw [Ad4]
 simp only [Zx]
 kernel_rfl
noncomputable def f36 (p : Pr β) (n : Nat) (a0 : AV) (H : Af) (k : KO β) : Option β :=
 p.box a0 H fun t1 H =>
 p.new [(.sc (.int .i64 0)), (.sc (.bool false)), (.sc (.int .i64 0)), (.sc (.bool false)), (.sc (.int .i64 0)), (.sc (.string ⟨#[]⟩)), .nl, (.sc (.string ⟨#[]⟩)), (.sc (.int .i64 0)), (.sc (.bool false)), (.sc (.int .i64 0)), (.sc (.bool false)), (.sc (.string ⟨#[]⟩)), .nl, (.sc (.int .i64 0)), (.sc (.bool false)), (.sc (.bool false)), (.sc (.string ⟨#[]⟩)), (.sc (.bool false)), .nl, (.sc (.int .i64 0)), (.sc (.bool false)), .nl, .nl, .nl] H fun t2 H =>
 p.new [(.sc (.int .i64 0)), (.sc (.bool false)), (.sc (.int .i64 0)), (.sc (.bool false)), (.sc (.int .i64 0)), (.sc (.string ⟨#[]⟩)), .nl, (.sc (.string ⟨#[]⟩)), (.sc (.int .i64 0)), (.sc (.bool false)), (.sc (.int .i64 0)), (.sc (.bool false)), (.sc (.string ⟨#[]⟩)), .nl, (.sc (.int .i64 0)), (.sc (.bool false)), (.sc (.bool false)), (.sc (.string ⟨#[]⟩)), (.sc (.bool false)), .nl, (.sc (.int .i64 0)), (.sc (.bool false)), .nl, .nl, .nl] H fun t3 H =>
 p.fadr 0 t1 fun t4 =>
 p.load false 1 t4 H fun t5 =>
 p.fadr 0 t3 fun t6 =>
 p.store 1 t6 t5 H fun H =>
 p.fadr 1 t1 fun t7 =>
 p.load false 1 t7 H fun t8 =>
 p.fadr 1 t3 fun t9 =>
 p.store 1 t9 t8 H fun H =>
 p.fadr 2 t1 fun t10 =>
 p.load false 1 t10 H fun t11 =>
 p.fadr 2 t3 fun t12 =>
 p.store 1 t12 t11 H fun H =>
 p.fadr 3 t1 fun t13 =>
 p.load false 1 t13 H fun t14 =>
 p.fadr 3 t3 fun t15 =>
 p.store 1 t15 t14 H fun H =>
 p.fadr 4 t1 fun t16 =>
 p.load false 1 t16 H fun t17 =>
 p.fadr 4 t3 fun t18 =>
 p.store 1 t18 t17 H fun H =>
 p.fadr 5 t1 fun t19 =>
 p.load false 1 t19 H fun t20 =>
 p.fadr 5 t3 fun t21 =>
 p.store 1 t21 t20 H fun H =>
 p.fadr 6 t1 fun t22 =>
 p.load false 1 t22 H fun t23 =>
 p.call 31 (.fn 126 [] []) [t23] H fun t24 H =>
 p.fadr 6 t3 fun t25 =>
 p.store 1 t25 t24 H fun H =>
 p.fadr 7 t1 fun t26 =>
 p.load false 1 t26 H fun t27 =>
 p.fadr 7 t3 fun t28 =>
 p.store 1 t28 t27 H fun H =>
 p.fadr 8 t1 fun t29 =>
 p.load false 1 t29 H fun t30 =>
 p.fadr 8 t3 fun t31 =>
 p.store 1 t31 t30 H fun H =>
 p.fadr 9 t1 fun t32 =>
 p.load false 1 t32 H fun t33 =>
 p.fadr 9 t3 fun t34 =>
 p.store 1 t34 t33 H fun H =>
 p.fadr 10 t1 fun t35 =>
 p.load false 1 t35 H fun t36 =>
 p.fadr 10 t3 fun t37 =>
 p.store 1 t37 t36 H fun H =>
 p.fadr 11 t1 fun t38 =>
 p.load false 1 t38 H fun t39 =>
 p.fadr 11 t3 fun t40 =>
 p.store 1 t40 t39 H fun H =>
 p.fadr 12 t1 fun t41 =>
 p.load false 1 t41 H fun t42 =>
 p.fadr 12 t3 fun t43 =>
 p.store 1 t43 t42 H fun H =>
 p.fadr 13 t1 fun t44 =>
 p.load false 1 t44 H fun t45 =>
 p.call 31 (.fn 126 [] []) [t45] H fun t46 H =>
 p.fadr 13 t3 fun t47 =>
 p.store 1 t47 t46 H fun H =>
 p.fadr 14 t1 fun t48 =>
 p.load false 1 t48 H fun t49 =>
 p.fadr 14 t3 fun t50 =>
 p.store 1 t50 t49 H fun H =>
 p.fadr 15 t1 fun t51 =>
 p.load false 1 t51 H fun t52 =>
 p.fadr 15 t3 fun t53 =>
 p.store 1 t53 t52 H fun H =>
 p.fadr 16 t1 fun t54 =>
 p.load false 1 t54 H fun t55 =>
 p.fadr 16 t3 fun t56 =>
 p.store 1 t56 t55 H fun H =>
 p.fadr 17 t1 fun t57 =>
 p.load false 1 t57 H fun t58 =>
 p.fadr 17 t3 fun t59 =>
 p.store 1 t59 t58 H fun H =>
 p.fadr 18 t1 fun t60 =>
 p.load false 1 t60 H fun t61 =>
 p.fadr 18 t3 fun t62 =>
 p.store 1 t62 t61 H fun H =>
 p.fadr 19 t1 fun t63 =>
 p.load false 1 t63 H fun t64 =>
 p.call 31 (.fn 126 [] []) [t64] H fun t65 H =>
 p.fadr 19 t3 fun t66 =>
 p.store 1 t66 t65 H fun H =>
 p.fadr 20 t1 fun t67 =>
 p.load false 1 t67 H fun t68 =>
 p.fadr 20 t3 fun t69 =>
 p.store 1 t69 t68 H fun H =>
 p.fadr 21 t1 fun t70 =>
 p.load false 1 t70 H fun t71 =>
 p.fadr 21 t3 fun t72 =>
 p.store 1 t72 t71 H fun H =>
 p.fadr 22 t1 fun t73 =>
 p.load false 1 t73 H fun t74 =>
 p.call 32 (.fn 127 [] []) [t74] H fun t75 H =>
 p.fadr 22 t3 fun t76 =>
 p.store 1 t76 t75 H fun H =>
 p.fadr 23 t1 fun t77 =>
 p.load false 1 t77 H fun t78 =>
 p.call 33 (.fn 128 [] []) [t78] H fun t79 H =>
 p.fadr 23 t3 fun t80 =>
 p.store 1 t80 t79 H fun H =>
 p.fadr 24 t1 fun t81 =>
 p.load false 1 t81 H fun t82 =>
 p.call 34 (.fn 35 [] []) [t82] H fun t83 H =>
 p.fadr 24 t3 fun t84 =>
 p.store 1 t84 t83 H fun H =>
 p.load true 25 t3 H fun t85 =>
 p.store 25 t2 t85 H fun H =>
 p.load true 25 t2 H fun r0 =>
 k r0 H
theorem AaU : Iy Agt @f36 := fun p n a0 H k => by kernel_rfl
noncomputable def f233 (p : Pr β) (n : Nat) (a0 : AV) (H : Af) (k : KO β) : Option β :=
 p.box a0 H fun t1 H =>
 p.new [(.sc (.string ⟨#[]⟩)), (.sc (.int .i64 0)), (.sc (.int .i64 0))] H fun t2 H =>
 p.new [(.sc (.string ⟨#[]⟩)), (.sc (.int .i64 0)), (.sc (.int .i64 0))] H fun t3 H =>
 p.fadr 0 t1 fun t4 =>
 p.load false 1 t4 H fun t5 =>
 p.fadr 0 t3 fun t6 =>
 p.store 1 t6 t5 H fun H =>
 p.fadr 1 t1 fun t7 =>
 p.load false 1 t7 H fun t8 =>
 p.fadr 1 t3 fun t9 =>
 p.store 1 t9 t8 H fun H =>
 p.fadr 2 t1 fun t10 =>
 p.load false 1 t10 H fun t11 =>
 p.fadr 2 t3 fun t12 =>
 p.store 1 t12 t11 H fun H =>
 p.load true 3 t3 H fun t13 =>
 p.store 3 t2 t13 H fun H =>
 p.load true 3 t2 H fun r0 =>
 k r0 H
theorem Zp : Iy AeS @f233 := fun p n a0 H k => by kernel_rfl
noncomputable def Me (p : Pr β) (n : Nat)  (k : KO β) : Nat → AV → AV → KO β
 | 0, _, _, _, _ => none
 | m + 1, t0, t3, t4, H => p.len t0 fun t10 =>
   p.bin .lss t4 t10 fun t11 =>
   p.cond t11
   (p.iadr 3 t0 t4 fun t18 =>
   p.load true 3 t18 H fun t19 =>
   p.call 188 (.fn 233 [] []) [t19] H fun t20 H =>
   p.iadr 3 t3 t4 fun t21 =>
   p.store 3 t21 t20 H fun H =>
   p.bin .add t4 (.sc (.int .i64 1)) fun t13 =>
   Me p n  k m t0 t3 t13 H)
   (k t3 H)
noncomputable def f143 (p : Pr β) (n : Nat) (a0 : AV) (H : Af) (k : KO β) : Option β :=
 p.len a0 fun t6 =>
 p.make 3 32 [(.sc (.string ⟨#[]⟩)), (.sc (.int .i64 0)), (.sc (.int .i64 0))] t6 t6 H fun t7 H =>
 Me p n  k n a0 t7 (.sc (.int .i64 0)) H
noncomputable def Wy (p : Pr β) (n : Nat)  (k : KO β) (m : Nat) (tm : Tm) (H : Af) : Option β :=
 Cx 23 (fun tm H k => Ak As p [] 23 n (cd Afn [1, 1, 0, 1, 0, 0]) tm H k) (Dy 0 (Dj (fun tm H => Ak As p [] 23 n (cd Afn [1, 1, 1]) tm H (Cc As p fi143.results k)) (Cc As p fi143.results k))) m tm H
theorem Vb (p : Pr β) (n : Nat)  (k : KO β) (m0 : Nat) : ∀ (t : Nat → AV) (H : Af), Wy p n  k m0 (tf 23 0 t) H = Me p n  k m0 (t 0) (t 3) (t 4) H := by
 induction m0 with
 | zero => intros; rfl
 | succ m0 ih =>
  intro t H
  refine Eq.trans (Bp (nt := 23) (m := m0) (g := fun t H => Me p n  k m0 (t 0) (t 3) (t 4) H) ih rfl) ?_
  kernel_rfl
theorem AaD (p : Pr β) (n : Nat) (a0 : AV) (H : Af) (k : KO β) : B3 As p n fi143 [a0] H k =
 p.len a0 fun t6 =>
 p.make 3 32 [(.sc (.string ⟨#[]⟩)), (.sc (.int .i64 0)), (.sc (.int .i64 0))] t6 t6 H fun t7 H =>
 Wy p n  k n (tf 23 0 (ud [(0, a0), (2, .nl), (3, t7), (4, (.sc (.int .i64 0))), (5, a0), (6, t6), (7, t7)] ut)) H := by kernel_rfl
theorem Ys : Iy fi143 @f143 := fun p n a0 H k => by
 rw [AaD]
 simp only [Vb]
 kernel_rfl
noncomputable def f144 (p : Pr β) (n : Nat) (a0 : AV) (H : Af) (k : KO β) : Option β :=
 p.box a0 H fun t1 H =>
 p.new [(.sc (.string ⟨#[]⟩)), .nl, (.sc (.int .i64 0)), (.sc (.bool false))] H fun t2 H =>
 p.new [(.sc (.string ⟨#[]⟩)), .nl, (.sc (.int .i64 0)), (.sc (.bool false))] H fun t3 H =>
 p.fadr 0 t1 fun t4 =>
 p.load false 1 t4 H fun t5 =>
 p.fadr 0 t3 fun t6 =>
 p.store 1 t6 t5 H fun H =>
 p.fadr 1 t1 fun t7 =>
 p.load false 1 t7 H fun t8 =>
 p.call 31 (.fn 126 [] []) [t8] H fun t9 H =>
 p.fadr 1 t3 fun t10 =>
 p.store 1 t10 t9 H fun H =>
 p.fadr 2 t1 fun t11 =>
 p.load false 1 t11 H fun t12 =>
 p.fadr 2 t3 fun t13 =>
 p.store 1 t13 t12 H fun H =>
 p.fadr 3 t1 fun t14 =>
 p.load false 1 t14 H fun t15 =>
 p.fadr 3 t3 fun t16 =>
 p.store 1 t16 t15 H fun H =>
 p.load true 4 t3 H fun t17 =>
 p.store 4 t2 t17 H fun H =>
 p.load true 4 t2 H fun r0 =>
 k r0 H
theorem Yt : Iy Ae4 @f144 := fun p n a0 H k => by kernel_rfl
noncomputable def Pj (p : Pr β) (n : Nat)  (k : KO β) : Nat → AV → AV → KO β
 | 0, _, _, _, _ => none
 | m + 1, t0, t3, t4, H => p.len t0 fun t10 =>
   p.bin .lss t4 t10 fun t11 =>
   p.cond t11
   (p.iadr 4 t0 t4 fun t18 =>
   p.load true 4 t18 H fun t19 =>
   p.call 85 (.fn 144 [] []) [t19] H fun t20 H =>
   p.iadr 4 t3 t4 fun t21 =>
   p.store 4 t21 t20 H fun H =>
   p.bin .add t4 (.sc (.int .i64 1)) fun t13 =>
   Pj p n  k m t0 t3 t13 H)
   (k t3 H)
noncomputable def f88 (p : Pr β) (n : Nat) (a0 : AV) (H : Af) (k : KO β) : Option β :=
 p.len a0 fun t6 =>
 p.make 4 56 [(.sc (.string ⟨#[]⟩)), .nl, (.sc (.int .i64 0)), (.sc (.bool false))] t6 t6 H fun t7 H =>
 Pj p n  k n a0 t7 (.sc (.int .i64 0)) H
noncomputable def Abk (p : Pr β) (n : Nat)  (k : KO β) (m : Nat) (tm : Tm) (H : Af) : Option β :=
 Cx 23 (fun tm H k => Ak As p [] 23 n (cd c88 [1, 1, 0, 1, 0, 0]) tm H k) (Dy 0 (Dj (fun tm H => Ak As p [] 23 n (cd c88 [1, 1, 1]) tm H (Cc As p fi88.results k)) (Cc As p fi88.results k))) m tm H
theorem Z2 (p : Pr β) (n : Nat)  (k : KO β) (m0 : Nat) : ∀ (t : Nat → AV) (H : Af), Abk p n  k m0 (tf 23 0 t) H = Pj p n  k m0 (t 0) (t 3) (t 4) H := by
 induction m0 with
 | zero => intros; rfl
 | succ m0 ih =>
  intro t H
  refine Eq.trans (Bp (nt := 23) (m := m0) (g := fun t H => Pj p n  k m0 (t 0) (t 3) (t 4) H) ih rfl) ?_
  kernel_rfl
theorem AdA (p : Pr β) (n : Nat) (a0 : AV) (H : Af) (k : KO β) : B3 As p n fi88 [a0] H k =
 p.len a0 fun t6 =>
 p.make 4 56 [(.sc (.string ⟨#[]⟩)), .nl, (.sc (.int .i64 0)), (.sc (.bool false))] t6 t6 H fun t7 H =>
 Abk p n  k n (tf 23 0 (ud [(0, a0), (2, .nl), (3, t7), (4, (.sc (.int .i64 0))), (5, a0), (6, t6), (7, t7)] ut)) H := by kernel_rfl
theorem Abl : Iy fi88 @f88 := fun p n a0 H k => by
 rw [AdA]
 simp only [Z2]
 kernel_rfl
noncomputable def f43 (p : Pr β) (n : Nat) (a0 : AV) (H : Af) (k : KO β) : Option β :=
 p.box a0 H fun t1 H =>
 p.new [(.sc (.int .i64 0)), (.sc (.int .i64 0)), (.sc (.string ⟨#[]⟩)), (.sc (.int .i64 0)), (.sc (.bool false)), (.sc (.int .i64 0)), (.sc (.bool false)), (.sc (.int .i64 0)), (.sc (.string ⟨#[]⟩)), .nl, (.sc (.string ⟨#[]⟩)), (.sc (.int .i64 0)), (.sc (.bool false)), (.sc (.int .i64 0)), (.sc (.bool false)), (.sc (.string ⟨#[]⟩)), .nl, (.sc (.int .i64 0)), (.sc (.bool false)), (.sc (.bool false)), (.sc (.string ⟨#[]⟩)), (.sc (.bool false)), .nl, (.sc (.int .i64 0)), (.sc (.bool false)), .nl, .nl, .nl, .nl, (.sc (.string ⟨#[]⟩)), .nl, (.sc (.int .i64 0)), (.sc (.bool false)), .nl, (.sc (.int .i64 0))] H fun t2 H =>
 p.new [(.sc (.int .i64 0)), (.sc (.int .i64 0)), (.sc (.string ⟨#[]⟩)), (.sc (.int .i64 0)), (.sc (.bool false)), (.sc (.int .i64 0)), (.sc (.bool false)), (.sc (.int .i64 0)), (.sc (.string ⟨#[]⟩)), .nl, (.sc (.string ⟨#[]⟩)), (.sc (.int .i64 0)), (.sc (.bool false)), (.sc (.int .i64 0)), (.sc (.bool false)), (.sc (.string ⟨#[]⟩)), .nl, (.sc (.int .i64 0)), (.sc (.bool false)), (.sc (.bool false)), (.sc (.string ⟨#[]⟩)), (.sc (.bool false)), .nl, (.sc (.int .i64 0)), (.sc (.bool false)), .nl, .nl, .nl, .nl, (.sc (.string ⟨#[]⟩)), .nl, (.sc (.int .i64 0)), (.sc (.bool false)), .nl, (.sc (.int .i64 0))] H fun t3 H =>
 p.fadr 0 t1 fun t4 =>
 p.load false 1 t4 H fun t5 =>
 p.fadr 0 t3 fun t6 =>
 p.store 1 t6 t5 H fun H =>
 p.fadr 1 t1 fun t7 =>
 p.load false 1 t7 H fun t8 =>
 p.fadr 1 t3 fun t9 =>
 p.store 1 t9 t8 H fun H =>
 p.fadr 2 t1 fun t10 =>
 p.load false 1 t10 H fun t11 =>
 p.fadr 2 t3 fun t12 =>
 p.store 1 t12 t11 H fun H =>
 p.fadr 3 t1 fun t13 =>
 p.load true 25 t13 H fun t14 =>
 p.call 36 (.fn 36 [] []) [t14] H fun t15 H =>
 p.fadr 3 t3 fun t16 =>
 p.store 25 t16 t15 H fun H =>
 p.fadr 28 t1 fun t17 =>
 p.load false 1 t17 H fun t18 =>
 p.call 84 (.fn 143 [] []) [t18] H fun t19 H =>
 p.fadr 28 t3 fun t20 =>
 p.store 1 t20 t19 H fun H =>
 p.fadr 29 t1 fun t21 =>
 p.load true 4 t21 H fun t22 =>
 p.call 85 (.fn 144 [] []) [t22] H fun t23 H =>
 p.fadr 29 t3 fun t24 =>
 p.store 4 t24 t23 H fun H =>
 p.fadr 33 t1 fun t25 =>
 p.load false 1 t25 H fun t26 =>
 p.call 28 (.fn 88 [] []) [t26] H fun t27 H =>
 p.fadr 33 t3 fun t28 =>
 p.store 1 t28 t27 H fun H =>
 p.fadr 34 t1 fun t29 =>
 p.load false 1 t29 H fun t30 =>
 p.fadr 34 t3 fun t31 =>
 p.store 1 t31 t30 H fun H =>
 p.load true 35 t3 H fun t32 =>
 p.store 35 t2 t32 H fun H =>
 p.load true 35 t2 H fun r0 =>
 k r0 H
theorem Abb : Iy Agv @f43 := fun p n a0 H k => by kernel_rfl
noncomputable def f232 (p : Pr β) (n : Nat) (a0 a1 : AV) (H : Af) (k : KO β) : Option β :=
 p.cvBS a0 H fun t6 =>
 p.cvBS a1 H fun t8 =>
 p.bin .eql t6 t8 fun t9 =>
 k t9 H
theorem Zo : Km AeR @f232 := fun p n a0 a1 H k => by kernel_rfl
noncomputable def Ik (p : Pr β) (n : Nat)  (k : KO β) : Nat → AV → AV → KO β
 | 0, _, _, _, _ => none
 | m + 1, t2, t3, t7, H => p.fadr 24 t2 fun t70 =>
   p.load false 1 t70 H fun t71 =>
   p.len t71 fun t72 =>
   p.bin .lss t7 t72 fun t73 =>
   p.cond t73
   (p.fadr 24 t2 fun t76 =>
   p.load false 1 t76 H fun t77 =>
   p.iadr 1 t77 t7 fun t79 =>
   p.load false 1 t79 H fun t80 =>
   p.fadr 24 t3 fun t81 =>
   p.load false 1 t81 H fun t82 =>
   p.iadr 1 t82 t7 fun t84 =>
   p.load false 1 t84 H fun t85 =>
   p.bin .neq t80 t85 fun t86 =>
   p.cond t86
   (k (.sc (.bool false)) H)
   (p.bin .add t7 (.sc (.int .i64 1)) fun t75 =>
   Ik p n  k m t2 t3 t75 H))
   (p.fadr 0 t2 fun t87 =>
   p.load false 1 t87 H fun t88 =>
   p.fadr 0 t3 fun t89 =>
   p.load false 1 t89 H fun t90 =>
   p.bin .eql t88 t90 fun t91 =>
   p.guard t91 true H (fun k' => p.fadr 1 t2 fun t' => k' t' H) fun t93 H =>
   p.guard t91 true H (fun k' => p.load false 1 t93 H fun t' => k' t' H) fun t94 H =>
   p.guard t91 true H (fun k' => p.fadr 1 t3 fun t' => k' t' H) fun t95 H =>
   p.guard t91 true H (fun k' => p.load false 1 t95 H fun t' => k' t' H) fun t96 H =>
   p.guard t91 true H (fun k' => p.binB .eql t94 t96 fun t' => k' t' H) fun t97 H =>
   p.pick t91 t97 (.sc (.bool false)) fun t98 =>
   p.guard t98 true H (fun k' => p.fadr 2 t2 fun t' => k' t' H) fun t100 H =>
   p.guard t98 true H (fun k' => p.load false 1 t100 H fun t' => k' t' H) fun t101 H =>
   p.guard t98 true H (fun k' => p.fadr 2 t3 fun t' => k' t' H) fun t102 H =>
   p.guard t98 true H (fun k' => p.load false 1 t102 H fun t' => k' t' H) fun t103 H =>
   p.guard t98 true H (fun k' => p.bin .eql t101 t103 fun t' => k' t' H) fun t104 H =>
   p.pick t98 t104 (.sc (.bool false)) fun t105 =>
   p.guard t105 true H (fun k' => p.fadr 3 t2 fun t' => k' t' H) fun t107 H =>
   p.guard t105 true H (fun k' => p.load false 1 t107 H fun t' => k' t' H) fun t108 H =>
   p.guard t105 true H (fun k' => p.fadr 3 t3 fun t' => k' t' H) fun t109 H =>
   p.guard t105 true H (fun k' => p.load false 1 t109 H fun t' => k' t' H) fun t110 H =>
   p.guard t105 true H (fun k' => p.binB .eql t108 t110 fun t' => k' t' H) fun t111 H =>
   p.pick t105 t111 (.sc (.bool false)) fun t112 =>
   p.guard t112 true H (fun k' => p.fadr 4 t2 fun t' => k' t' H) fun t114 H =>
   p.guard t112 true H (fun k' => p.load false 1 t114 H fun t' => k' t' H) fun t115 H =>
   p.guard t112 true H (fun k' => p.fadr 4 t3 fun t' => k' t' H) fun t116 H =>
   p.guard t112 true H (fun k' => p.load false 1 t116 H fun t' => k' t' H) fun t117 H =>
   p.guard t112 true H (fun k' => p.bin .eql t115 t117 fun t' => k' t' H) fun t118 H =>
   p.pick t112 t118 (.sc (.bool false)) fun t119 =>
   p.guard t119 true H (fun k' => p.fadr 5 t2 fun t' => k' t' H) fun t121 H =>
   p.guard t119 true H (fun k' => p.load false 1 t121 H fun t' => k' t' H) fun t122 H =>
   p.guard t119 true H (fun k' => p.fadr 5 t3 fun t' => k' t' H) fun t123 H =>
   p.guard t119 true H (fun k' => p.load false 1 t123 H fun t' => k' t' H) fun t124 H =>
   p.guard t119 true H (fun k' => p.bin .eql t122 t124 fun t' => k' t' H) fun t125 H =>
   p.pick t119 t125 (.sc (.bool false)) fun t126 =>
   p.guard t126 true H (fun k' => p.fadr 6 t2 fun t' => k' t' H) fun t128 H =>
   p.guard t126 true H (fun k' => p.load false 1 t128 H fun t' => k' t' H) fun t129 H =>
   p.guard t126 true H (fun k' => p.fadr 6 t3 fun t' => k' t' H) fun t130 H =>
   p.guard t126 true H (fun k' => p.load false 1 t130 H fun t' => k' t' H) fun t131 H =>
   p.guard t126 true H (fun k' => p.call 4 (.fn 232 [] []) [t129, t131] H fun t' H => k' t' H) fun t132 H =>
   p.pick t126 t132 (.sc (.bool false)) fun t133 =>
   p.guard t133 true H (fun k' => p.fadr 7 t2 fun t' => k' t' H) fun t135 H =>
   p.guard t133 true H (fun k' => p.load false 1 t135 H fun t' => k' t' H) fun t136 H =>
   p.guard t133 true H (fun k' => p.fadr 7 t3 fun t' => k' t' H) fun t137 H =>
   p.guard t133 true H (fun k' => p.load false 1 t137 H fun t' => k' t' H) fun t138 H =>
   p.guard t133 true H (fun k' => p.bin .eql t136 t138 fun t' => k' t' H) fun t139 H =>
   p.pick t133 t139 (.sc (.bool false)) fun t140 =>
   p.guard t140 true H (fun k' => p.fadr 8 t2 fun t' => k' t' H) fun t142 H =>
   p.guard t140 true H (fun k' => p.load false 1 t142 H fun t' => k' t' H) fun t143 H =>
   p.guard t140 true H (fun k' => p.fadr 8 t3 fun t' => k' t' H) fun t144 H =>
   p.guard t140 true H (fun k' => p.load false 1 t144 H fun t' => k' t' H) fun t145 H =>
   p.guard t140 true H (fun k' => p.bin .eql t143 t145 fun t' => k' t' H) fun t146 H =>
   p.pick t140 t146 (.sc (.bool false)) fun t147 =>
   p.guard t147 true H (fun k' => p.fadr 9 t2 fun t' => k' t' H) fun t149 H =>
   p.guard t147 true H (fun k' => p.load false 1 t149 H fun t' => k' t' H) fun t150 H =>
   p.guard t147 true H (fun k' => p.fadr 9 t3 fun t' => k' t' H) fun t151 H =>
   p.guard t147 true H (fun k' => p.load false 1 t151 H fun t' => k' t' H) fun t152 H =>
   p.guard t147 true H (fun k' => p.binB .eql t150 t152 fun t' => k' t' H) fun t153 H =>
   p.pick t147 t153 (.sc (.bool false)) fun t154 =>
   p.guard t154 true H (fun k' => p.fadr 10 t2 fun t' => k' t' H) fun t156 H =>
   p.guard t154 true H (fun k' => p.load false 1 t156 H fun t' => k' t' H) fun t157 H =>
   p.guard t154 true H (fun k' => p.fadr 10 t3 fun t' => k' t' H) fun t158 H =>
   p.guard t154 true H (fun k' => p.load false 1 t158 H fun t' => k' t' H) fun t159 H =>
   p.guard t154 true H (fun k' => p.bin .eql t157 t159 fun t' => k' t' H) fun t160 H =>
   p.pick t154 t160 (.sc (.bool false)) fun t161 =>
   p.guard t161 true H (fun k' => p.fadr 11 t2 fun t' => k' t' H) fun t163 H =>
   p.guard t161 true H (fun k' => p.load false 1 t163 H fun t' => k' t' H) fun t164 H =>
   p.guard t161 true H (fun k' => p.fadr 11 t3 fun t' => k' t' H) fun t165 H =>
   p.guard t161 true H (fun k' => p.load false 1 t165 H fun t' => k' t' H) fun t166 H =>
   p.guard t161 true H (fun k' => p.binB .eql t164 t166 fun t' => k' t' H) fun t167 H =>
   p.pick t161 t167 (.sc (.bool false)) fun t168 =>
   p.guard t168 true H (fun k' => p.fadr 12 t2 fun t' => k' t' H) fun t170 H =>
   p.guard t168 true H (fun k' => p.load false 1 t170 H fun t' => k' t' H) fun t171 H =>
   p.guard t168 true H (fun k' => p.fadr 12 t3 fun t' => k' t' H) fun t172 H =>
   p.guard t168 true H (fun k' => p.load false 1 t172 H fun t' => k' t' H) fun t173 H =>
   p.guard t168 true H (fun k' => p.bin .eql t171 t173 fun t' => k' t' H) fun t174 H =>
   p.pick t168 t174 (.sc (.bool false)) fun t175 =>
   p.guard t175 true H (fun k' => p.fadr 13 t2 fun t' => k' t' H) fun t177 H =>
   p.guard t175 true H (fun k' => p.load false 1 t177 H fun t' => k' t' H) fun t178 H =>
   p.guard t175 true H (fun k' => p.fadr 13 t3 fun t' => k' t' H) fun t179 H =>
   p.guard t175 true H (fun k' => p.load false 1 t179 H fun t' => k' t' H) fun t180 H =>
   p.guard t175 true H (fun k' => p.call 4 (.fn 232 [] []) [t178, t180] H fun t' H => k' t' H) fun t181 H =>
   p.pick t175 t181 (.sc (.bool false)) fun t182 =>
   p.guard t182 true H (fun k' => p.fadr 14 t2 fun t' => k' t' H) fun t184 H =>
   p.guard t182 true H (fun k' => p.load false 1 t184 H fun t' => k' t' H) fun t185 H =>
   p.guard t182 true H (fun k' => p.fadr 14 t3 fun t' => k' t' H) fun t186 H =>
   p.guard t182 true H (fun k' => p.load false 1 t186 H fun t' => k' t' H) fun t187 H =>
   p.guard t182 true H (fun k' => p.bin .eql t185 t187 fun t' => k' t' H) fun t188 H =>
   p.pick t182 t188 (.sc (.bool false)) fun t189 =>
   p.guard t189 true H (fun k' => p.fadr 15 t2 fun t' => k' t' H) fun t191 H =>
   p.guard t189 true H (fun k' => p.load false 1 t191 H fun t' => k' t' H) fun t192 H =>
   p.guard t189 true H (fun k' => p.fadr 15 t3 fun t' => k' t' H) fun t193 H =>
   p.guard t189 true H (fun k' => p.load false 1 t193 H fun t' => k' t' H) fun t194 H =>
   p.guard t189 true H (fun k' => p.binB .eql t192 t194 fun t' => k' t' H) fun t195 H =>
   p.pick t189 t195 (.sc (.bool false)) fun t196 =>
   p.guard t196 true H (fun k' => p.fadr 16 t2 fun t' => k' t' H) fun t198 H =>
   p.guard t196 true H (fun k' => p.load false 1 t198 H fun t' => k' t' H) fun t199 H =>
   p.guard t196 true H (fun k' => p.fadr 16 t3 fun t' => k' t' H) fun t200 H =>
   p.guard t196 true H (fun k' => p.load false 1 t200 H fun t' => k' t' H) fun t201 H =>
   p.guard t196 true H (fun k' => p.binB .eql t199 t201 fun t' => k' t' H) fun t202 H =>
   p.pick t196 t202 (.sc (.bool false)) fun t203 =>
   p.guard t203 true H (fun k' => p.fadr 17 t2 fun t' => k' t' H) fun t205 H =>
   p.guard t203 true H (fun k' => p.load false 1 t205 H fun t' => k' t' H) fun t206 H =>
   p.guard t203 true H (fun k' => p.fadr 17 t3 fun t' => k' t' H) fun t207 H =>
   p.guard t203 true H (fun k' => p.load false 1 t207 H fun t' => k' t' H) fun t208 H =>
   p.guard t203 true H (fun k' => p.bin .eql t206 t208 fun t' => k' t' H) fun t209 H =>
   p.pick t203 t209 (.sc (.bool false)) fun t210 =>
   p.guard t210 true H (fun k' => p.fadr 18 t2 fun t' => k' t' H) fun t212 H =>
   p.guard t210 true H (fun k' => p.load false 1 t212 H fun t' => k' t' H) fun t213 H =>
   p.guard t210 true H (fun k' => p.fadr 18 t3 fun t' => k' t' H) fun t214 H =>
   p.guard t210 true H (fun k' => p.load false 1 t214 H fun t' => k' t' H) fun t215 H =>
   p.guard t210 true H (fun k' => p.binB .eql t213 t215 fun t' => k' t' H) fun t216 H =>
   p.pick t210 t216 (.sc (.bool false)) fun t217 =>
   p.guard t217 true H (fun k' => p.fadr 19 t2 fun t' => k' t' H) fun t219 H =>
   p.guard t217 true H (fun k' => p.load false 1 t219 H fun t' => k' t' H) fun t220 H =>
   p.guard t217 true H (fun k' => p.fadr 19 t3 fun t' => k' t' H) fun t221 H =>
   p.guard t217 true H (fun k' => p.load false 1 t221 H fun t' => k' t' H) fun t222 H =>
   p.guard t217 true H (fun k' => p.call 4 (.fn 232 [] []) [t220, t222] H fun t' H => k' t' H) fun t223 H =>
   p.pick t217 t223 (.sc (.bool false)) fun t224 =>
   p.guard t224 true H (fun k' => p.fadr 20 t2 fun t' => k' t' H) fun t226 H =>
   p.guard t224 true H (fun k' => p.load false 1 t226 H fun t' => k' t' H) fun t227 H =>
   p.guard t224 true H (fun k' => p.fadr 20 t3 fun t' => k' t' H) fun t228 H =>
   p.guard t224 true H (fun k' => p.load false 1 t228 H fun t' => k' t' H) fun t229 H =>
   p.guard t224 true H (fun k' => p.bin .eql t227 t229 fun t' => k' t' H) fun t230 H =>
   p.pick t224 t230 (.sc (.bool false)) fun t231 =>
   p.guard t231 true H (fun k' => p.fadr 21 t2 fun t' => k' t' H) fun t233 H =>
   p.guard t231 true H (fun k' => p.load false 1 t233 H fun t' => k' t' H) fun t234 H =>
   p.guard t231 true H (fun k' => p.fadr 21 t3 fun t' => k' t' H) fun t235 H =>
   p.guard t231 true H (fun k' => p.load false 1 t235 H fun t' => k' t' H) fun t236 H =>
   p.guard t231 true H (fun k' => p.binB .eql t234 t236 fun t' => k' t' H) fun t237 H =>
   p.pick t231 t237 (.sc (.bool false)) fun t238 =>
   k t238 H)
noncomputable def G5 (p : Pr β) (n : Nat)  (k : KO β) : Nat → AV → AV → KO β
 | 0, _, _, _, _ => none
 | m + 1, t2, t3, t6, H => p.fadr 23 t2 fun t52 =>
   p.load false 1 t52 H fun t53 =>
   p.len t53 fun t54 =>
   p.bin .lss t6 t54 fun t55 =>
   p.cond t55
   (p.fadr 23 t2 fun t58 =>
   p.load false 1 t58 H fun t59 =>
   p.iadr 1 t59 t6 fun t61 =>
   p.load false 1 t61 H fun t62 =>
   p.fadr 23 t3 fun t63 =>
   p.load false 1 t63 H fun t64 =>
   p.iadr 1 t64 t6 fun t66 =>
   p.load false 1 t66 H fun t67 =>
   p.bin .neq t62 t67 fun t68 =>
   p.cond t68
   (k (.sc (.bool false)) H)
   (p.bin .add t6 (.sc (.int .i64 1)) fun t57 =>
   G5 p n  k m t2 t3 t57 H))
   (Ik p n  k n t2 t3 (.sc (.int .i64 0)) H)
noncomputable def G4 (p : Pr β) (n : Nat)  (k : KO β) : Nat → AV → AV → KO β
 | 0, _, _, _, _ => none
 | m + 1, t2, t3, t5, H => p.fadr 22 t2 fun t34 =>
   p.load false 1 t34 H fun t35 =>
   p.len t35 fun t36 =>
   p.bin .lss t5 t36 fun t37 =>
   p.cond t37
   (p.fadr 22 t2 fun t40 =>
   p.load false 1 t40 H fun t41 =>
   p.iadr 2 t41 t5 fun t43 =>
   p.load true 2 t43 H fun t44 =>
   p.fadr 22 t3 fun t45 =>
   p.load false 1 t45 H fun t46 =>
   p.iadr 2 t46 t5 fun t48 =>
   p.load true 2 t48 H fun t49 =>
   p.binA .neq [1, 0] t44 t49 fun t50 =>
   p.cond t50
   (k (.sc (.bool false)) H)
   (p.bin .add t5 (.sc (.int .i64 1)) fun t39 =>
   G4 p n  k m t2 t3 t39 H))
   (G5 p n  k n t2 t3 (.sc (.int .i64 0)) H)
noncomputable def f141 (p : Pr β) (n : Nat) (a0 a1 : AV) (H : Af) (k : KO β) : Option β :=
 p.box a0 H fun t2 H =>
 p.box a1 H fun t3 H =>
 p.fadr 22 t2 fun t8 =>
 p.load false 1 t8 H fun t9 =>
 p.len t9 fun t10 =>
 p.fadr 22 t3 fun t11 =>
 p.load false 1 t11 H fun t12 =>
 p.len t12 fun t13 =>
 p.bin .neq t10 t13 fun t14 =>
 p.guard t14 false H (fun k' => p.fadr 23 t2 fun t' => k' t' H) fun t16 H =>
 p.guard t14 false H (fun k' => p.load false 1 t16 H fun t' => k' t' H) fun t17 H =>
 p.guard t14 false H (fun k' => p.len t17 fun t' => k' t' H) fun t18 H =>
 p.guard t14 false H (fun k' => p.fadr 23 t3 fun t' => k' t' H) fun t19 H =>
 p.guard t14 false H (fun k' => p.load false 1 t19 H fun t' => k' t' H) fun t20 H =>
 p.guard t14 false H (fun k' => p.len t20 fun t' => k' t' H) fun t21 H =>
 p.guard t14 false H (fun k' => p.bin .neq t18 t21 fun t' => k' t' H) fun t22 H =>
 p.pick t14 (.sc (.bool true)) t22 fun t23 =>
 p.guard t23 false H (fun k' => p.fadr 24 t2 fun t' => k' t' H) fun t25 H =>
 p.guard t23 false H (fun k' => p.load false 1 t25 H fun t' => k' t' H) fun t26 H =>
 p.guard t23 false H (fun k' => p.len t26 fun t' => k' t' H) fun t27 H =>
 p.guard t23 false H (fun k' => p.fadr 24 t3 fun t' => k' t' H) fun t28 H =>
 p.guard t23 false H (fun k' => p.load false 1 t28 H fun t' => k' t' H) fun t29 H =>
 p.guard t23 false H (fun k' => p.len t29 fun t' => k' t' H) fun t30 H =>
 p.guard t23 false H (fun k' => p.bin .neq t27 t30 fun t' => k' t' H) fun t31 H =>
 p.pick t23 (.sc (.bool true)) t31 fun t32 =>
 p.cond t32
 (k (.sc (.bool false)) H)
 (G4 p n  k n t2 t3 (.sc (.int .i64 0)) H)
noncomputable def Wx (p : Pr β) (n : Nat)  (k : KO β) (m : Nat) (tm : Tm) (H : Af) : Option β :=
 Cx 239 (fun tm H k => Ak As p P6 239 n (cd O0 [1, 1, 1, 1, 0, 1, 0, 0]) tm H k) (Dy 4 (Dj (fun tm H => Ak As p P6 239 n (cd O0 [1, 1, 1, 1, 1]) tm H (Cc As p fi141.results k)) (Cc As p fi141.results k))) m tm H
noncomputable def Ww (p : Pr β) (n : Nat)  (k : KO β) (m : Nat) (tm : Tm) (H : Af) : Option β :=
 Cx 239 (fun tm H k => Ak As p P6 239 n (cd O0 [1, 1, 1, 0, 1, 0, 0]) tm H k) (Dy 2 (Dj (fun tm H => Ak As p P6 239 n (cd O0 [1, 1, 1, 1]) tm H (Cc As p fi141.results k)) (Cc As p fi141.results k))) m tm H
noncomputable def Wv (p : Pr β) (n : Nat)  (k : KO β) (m : Nat) (tm : Tm) (H : Af) : Option β :=
 Cx 239 (fun tm H k => Ak As p P6 239 n (cd O0 [1, 1, 0, 1, 0, 0]) tm H k) (Dy 0 (Dj (fun tm H => Ak As p P6 239 n (cd O0 [1, 1, 1]) tm H (Cc As p fi141.results k)) (Cc As p fi141.results k))) m tm H
theorem Pd (p : Pr β) (n : Nat)  (k : KO β) (m2 : Nat) : ∀ (t : Nat → AV) (H : Af), Wx p n  k m2 (tf 239 0 t) H = Ik p n  k m2 (t 2) (t 3) (t 7) H := by
 induction m2 with
 | zero => intros; rfl
 | succ m2 ih =>
  intro t H
  refine Eq.trans (Bp (nt := 239) (m := m2) (g := fun t H => Ik p n  k m2 (t 2) (t 3) (t 7) H) ih rfl) ?_
  kernel_rfl
theorem Sf (p : Pr β) (n : Nat)  (k : KO β) (m1 : Nat) (t : Nat → AV) (H : Af) : Ak As p P6 239 n (cd O0 [1, 1, 1, 0, 1, 0, 0]) (tf 239 0 t) H (Dj (fun tm H => G5 p n  k m1 (gt tm 2) (gt tm 3) (gt tm 6) H) (Dy 2 (Dj (fun tm H => Ak As p P6 239 n (cd O0 [1, 1, 1, 1]) tm H (Cc As p fi141.results k)) (Cc As p fi141.results k)))) =
 p.fadr 23 (t 2) fun t52 =>
 p.load false 1 t52 H fun t53 =>
 p.len t53 fun t54 =>
 p.bin .lss (t 6) t54 fun t55 =>
 p.cond t55
 (p.fadr 23 (t 2) fun t58 =>
 p.load false 1 t58 H fun t59 =>
 p.iadr 1 t59 (t 6) fun t61 =>
 p.load false 1 t61 H fun t62 =>
 p.fadr 23 (t 3) fun t63 =>
 p.load false 1 t63 H fun t64 =>
 p.iadr 1 t64 (t 6) fun t66 =>
 p.load false 1 t66 H fun t67 =>
 p.bin .neq t62 t67 fun t68 =>
 p.cond t68
 (k (.sc (.bool false)) H)
 (p.bin .add (t 6) (.sc (.int .i64 1)) fun t57 =>
 G5 p n  k m1 (t 2) (t 3) t57 H))
 (Wx p n  k n (tf 239 0 (ud [(7, (.sc (.int .i64 0))), (51, (t 6)), (52, t52), (53, t53), (54, t54), (55, t55)] t)) H) := by kernel_rfl
theorem Pc (p : Pr β) (n : Nat)  (k : KO β) (m1 : Nat) : ∀ (t : Nat → AV) (H : Af), Ww p n  k m1 (tf 239 0 t) H = G5 p n  k m1 (t 2) (t 3) (t 6) H := by
 induction m1 with
 | zero => intros; rfl
 | succ m1 ih =>
  intro t H
  refine Eq.trans (Bp (nt := 239) (m := m1) (g := fun t H => G5 p n  k m1 (t 2) (t 3) (t 6) H) ih rfl) ?_
  refine Eq.trans (Sf p n  k m1 t H) ?_
  simp only [Pd]
  kernel_rfl
theorem Se (p : Pr β) (n : Nat)  (k : KO β) (m0 : Nat) (t : Nat → AV) (H : Af) : Ak As p P6 239 n (cd O0 [1, 1, 0, 1, 0, 0]) (tf 239 0 t) H (Dj (fun tm H => G4 p n  k m0 (gt tm 2) (gt tm 3) (gt tm 5) H) (Dy 0 (Dj (fun tm H => Ak As p P6 239 n (cd O0 [1, 1, 1]) tm H (Cc As p fi141.results k)) (Cc As p fi141.results k)))) =
 p.fadr 22 (t 2) fun t34 =>
 p.load false 1 t34 H fun t35 =>
 p.len t35 fun t36 =>
 p.bin .lss (t 5) t36 fun t37 =>
 p.cond t37
 (p.fadr 22 (t 2) fun t40 =>
 p.load false 1 t40 H fun t41 =>
 p.iadr 2 t41 (t 5) fun t43 =>
 p.load true 2 t43 H fun t44 =>
 p.fadr 22 (t 3) fun t45 =>
 p.load false 1 t45 H fun t46 =>
 p.iadr 2 t46 (t 5) fun t48 =>
 p.load true 2 t48 H fun t49 =>
 p.binA .neq [1, 0] t44 t49 fun t50 =>
 p.cond t50
 (k (.sc (.bool false)) H)
 (p.bin .add (t 5) (.sc (.int .i64 1)) fun t39 =>
 G4 p n  k m0 (t 2) (t 3) t39 H))
 (Ww p n  k n (tf 239 0 (ud [(6, (.sc (.int .i64 0))), (33, (t 5)), (34, t34), (35, t35), (36, t36), (37, t37)] t)) H) := by kernel_rfl
theorem Va (p : Pr β) (n : Nat)  (k : KO β) (m0 : Nat) : ∀ (t : Nat → AV) (H : Af), Wv p n  k m0 (tf 239 0 t) H = G4 p n  k m0 (t 2) (t 3) (t 5) H := by
 induction m0 with
 | zero => intros; rfl
 | succ m0 ih =>
  intro t H
  refine Eq.trans (Bp (nt := 239) (m := m0) (g := fun t H => G4 p n  k m0 (t 2) (t 3) (t 5) H) ih rfl) ?_
  refine Eq.trans (Se p n  k m0 t H) ?_
  simp only [Pc]
  kernel_rfl
theorem AaC (p : Pr β) (n : Nat) (a0 a1 : AV) (H : Af) (k : KO β) : B3 As p n fi141 [a0, a1] H k =
 p.box a0 H fun t2 H =>
 p.box a1 H fun t3 H =>
 p.fadr 22 t2 fun t8 =>
 p.load false 1 t8 H fun t9 =>
 p.len t9 fun t10 =>
 p.fadr 22 t3 fun t11 =>
 p.load false 1 t11 H fun t12 =>
 p.len t12 fun t13 =>
 p.bin .neq t10 t13 fun t14 =>
 p.guard t14 false H (fun k' => p.fadr 23 t2 fun t' => k' t' H) fun t16 H =>
 p.guard t14 false H (fun k' => p.load false 1 t16 H fun t' => k' t' H) fun t17 H =>
 p.guard t14 false H (fun k' => p.len t17 fun t' => k' t' H) fun t18 H =>
 p.guard t14 false H (fun k' => p.fadr 23 t3 fun t' => k' t' H) fun t19 H =>
 p.guard t14 false H (fun k' => p.load false 1 t19 H fun t' => k' t' H) fun t20 H =>
 p.guard t14 false H (fun k' => p.len t20 fun t' => k' t' H) fun t21 H =>
 p.guard t14 false H (fun k' => p.bin .neq t18 t21 fun t' => k' t' H) fun t22 H =>
 p.pick t14 (.sc (.bool true)) t22 fun t23 =>
 p.guard t23 false H (fun k' => p.fadr 24 t2 fun t' => k' t' H) fun t25 H =>
 p.guard t23 false H (fun k' => p.load false 1 t25 H fun t' => k' t' H) fun t26 H =>
 p.guard t23 false H (fun k' => p.len t26 fun t' => k' t' H) fun t27 H =>
 p.guard t23 false H (fun k' => p.fadr 24 t3 fun t' => k' t' H) fun t28 H =>
 p.guard t23 false H (fun k' => p.load false 1 t28 H fun t' => k' t' H) fun t29 H =>
 p.guard t23 false H (fun k' => p.len t29 fun t' => k' t' H) fun t30 H =>
 p.guard t23 false H (fun k' => p.bin .neq t27 t30 fun t' => k' t' H) fun t31 H =>
 p.pick t23 (.sc (.bool true)) t31 fun t32 =>
 p.cond t32
 (k (.sc (.bool false)) H)
 (Wv p n  k n (tf 239 0 (ud [(0, a0), (1, a1), (2, t2), (3, t3), (4, (.sc (.bool false))), (5, (.sc (.int .i64 0))), (8, t8), (9, t9), (10, t10), (11, t11), (12, t12), (13, t13), (14, t14), (15, t14), (16, t16), (17, t17), (18, t18), (19, t19), (20, t20), (21, t21), (22, t22), (23, t23), (24, t23), (25, t25), (26, t26), (27, t27), (28, t28), (29, t29), (30, t30), (31, t31), (32, t32)] ut)) H) := by kernel_rfl
theorem Yq : Km fi141 @f141 := fun p n a0 a1 H k => by
 rw [AaC]
 simp only [Pd, Pc, Va]
 kernel_rfl
noncomputable def f142 (p : Pr β) (n : Nat) (a0 : AV) (H : Af) (k : KO β) : Option β :=
 p.box a0 H fun t1 H =>
 p.fadr 0 t1 fun t3 =>
 p.load false 1 t3 H fun t4 =>
 p.bin .eql t4 (.sc (.string ⟨#[]⟩)) fun t5 =>
 p.guard t5 true H (fun k' => p.fadr 1 t1 fun t' => k' t' H) fun t7 H =>
 p.guard t5 true H (fun k' => p.load false 1 t7 H fun t' => k' t' H) fun t8 H =>
 p.guard t5 true H (fun k' => p.len t8 fun t' => k' t' H) fun t9 H =>
 p.guard t5 true H (fun k' => p.bin .eql t9 (.sc (.int .i64 0)) fun t' => k' t' H) fun t10 H =>
 p.pick t5 t10 (.sc (.bool false)) fun t11 =>
 p.guard t11 true H (fun k' => p.fadr 2 t1 fun t' => k' t' H) fun t13 H =>
 p.guard t11 true H (fun k' => p.load false 1 t13 H fun t' => k' t' H) fun t14 H =>
 p.guard t11 true H (fun k' => p.bin .eql t14 (.sc (.int .i64 0)) fun t' => k' t' H) fun t15 H =>
 p.pick t11 t15 (.sc (.bool false)) fun t16 =>
 p.guard t16 true H (fun k' => p.fadr 3 t1 fun t' => k' t' H) fun t18 H =>
 p.guard t16 true H (fun k' => p.load false 1 t18 H fun t' => k' t' H) fun t19 H =>
 p.guard t16 true H (fun k' => p.un .not t19 fun t' => k' t' H) fun t20 H =>
 p.pick t16 t20 (.sc (.bool false)) fun t21 =>
 k t21 H
theorem Yr : Iy Ae3 @f142 := fun p n a0 H k => by kernel_rfl
noncomputable def f135 (p : Pr β) (n : Nat) (a0 : AV) (H : Af) (k : KO β) : Option β :=
 p.box a0 H fun t1 H =>
 p.fadr 0 t1 fun t3 =>
 p.load false 1 t3 H fun t4 =>
 p.bin .eql t4 (.sc (.int .i64 0)) fun t5 =>
 p.guard t5 true H (fun k' => p.fadr 1 t1 fun t' => k' t' H) fun t7 H =>
 p.guard t5 true H (fun k' => p.load false 1 t7 H fun t' => k' t' H) fun t8 H =>
 p.guard t5 true H (fun k' => p.bin .eql t8 (.sc (.int .i64 0)) fun t' => k' t' H) fun t9 H =>
 p.pick t5 t9 (.sc (.bool false)) fun t10 =>
 p.guard t10 true H (fun k' => p.fadr 2 t1 fun t' => k' t' H) fun t12 H =>
 p.guard t10 true H (fun k' => p.load false 1 t12 H fun t' => k' t' H) fun t13 H =>
 p.guard t10 true H (fun k' => p.bin .eql t13 (.sc (.string ⟨#[]⟩)) fun t' => k' t' H) fun t14 H =>
 p.pick t10 t14 (.sc (.bool false)) fun t15 =>
 p.guard t15 true H (fun k' => p.fadr 3 t1 fun t' => k' t' H) fun t17 H =>
 p.guard t15 true H (fun k' => p.load true 25 t17 H fun t' => k' t' H) fun t18 H =>
 p.guard t15 true H (fun k' => p.fill [(.sc (.int .i64 0)), (.sc (.bool false)), (.sc (.int .i64 0)), (.sc (.bool false)), (.sc (.int .i64 0)), (.sc (.string ⟨#[]⟩)), .nl, (.sc (.string ⟨#[]⟩)), (.sc (.int .i64 0)), (.sc (.bool false)), (.sc (.int .i64 0)), (.sc (.bool false)), (.sc (.string ⟨#[]⟩)), .nl, (.sc (.int .i64 0)), (.sc (.bool false)), (.sc (.bool false)), (.sc (.string ⟨#[]⟩)), (.sc (.bool false)), .nl, (.sc (.int .i64 0)), (.sc (.bool false)), .nl, .nl, .nl] [] fun ct' => k' (.agg ct') H) fun t19 H =>
 p.guard t15 true H (fun k' => p.call 4 (.fn 141 [] []) [t18, t19] H fun t' H => k' t' H) fun t20 H =>
 p.pick t15 t20 (.sc (.bool false)) fun t21 =>
 p.guard t21 true H (fun k' => p.fadr 28 t1 fun t' => k' t' H) fun t23 H =>
 p.guard t21 true H (fun k' => p.load false 1 t23 H fun t' => k' t' H) fun t24 H =>
 p.guard t21 true H (fun k' => p.len t24 fun t' => k' t' H) fun t25 H =>
 p.guard t21 true H (fun k' => p.bin .eql t25 (.sc (.int .i64 0)) fun t' => k' t' H) fun t26 H =>
 p.pick t21 t26 (.sc (.bool false)) fun t27 =>
 p.guard t27 true H (fun k' => p.fadr 29 t1 fun t' => k' t' H) fun t29 H =>
 p.guard t27 true H (fun k' => p.load true 4 t29 H fun t' => k' t' H) fun t30 H =>
 p.guard t27 true H (fun k' => p.call 4 (.fn 142 [] []) [t30] H fun t' H => k' t' H) fun t31 H =>
 p.pick t27 t31 (.sc (.bool false)) fun t32 =>
 p.guard t32 true H (fun k' => p.fadr 33 t1 fun t' => k' t' H) fun t34 H =>
 p.guard t32 true H (fun k' => p.load false 1 t34 H fun t' => k' t' H) fun t35 H =>
 p.guard t32 true H (fun k' => p.len t35 fun t' => k' t' H) fun t36 H =>
 p.guard t32 true H (fun k' => p.bin .eql t36 (.sc (.int .i64 0)) fun t' => k' t' H) fun t37 H =>
 p.pick t32 t37 (.sc (.bool false)) fun t38 =>
 p.guard t38 true H (fun k' => p.fadr 34 t1 fun t' => k' t' H) fun t40 H =>
 p.guard t38 true H (fun k' => p.load false 1 t40 H fun t' => k' t' H) fun t41 H =>
 p.guard t38 true H (fun k' => p.bin .eql t41 (.sc (.int .i64 0)) fun t' => k' t' H) fun t42 H =>
 p.pick t38 t42 (.sc (.bool false)) fun t43 =>
 k t43 H
theorem Yk : Iy Aex @f135 := fun p n a0 H k => by kernel_rfl
noncomputable def f187 (p : Pr β) (n : Nat) (a0 a1 a2 : AV) (H : Af) (k : KO β) : Option β :=
 p.bin .geq a0 a1 fun t9 =>
 p.guard t9 true H (fun k' => k' a0 H) fun t11 H =>
 p.guard t9 true H (fun k' => k' a2 H) fun t12 H =>
 p.guard t9 true H (fun k' => p.bin .leq t11 t12 fun t' => k' t' H) fun t13 H =>
 p.pick t9 t13 (.sc (.bool false)) fun t14 =>
 k t14 H
theorem Y5 : Bd3 AeE @f187 := fun p n a0 a1 a2 H k => by kernel_rfl
noncomputable def f136 (p : Pr β) (n : Nat) (a0 a1 : AV) (H : Af) (k : KO β) : Option β :=
 p.bin .eql a0 (.sc (.int .i64 1)) fun t7 =>
 Kj (fun (t0 t1 t5 t6 : AV) (H : Af) => p.cond t6
 (p.call 4 (.fn 187 [] []) [t1, (.sc (.int .i64 0)), (.sc (.int .i64 5))] H fun t10 H =>
 k t10 H)
 (p.bin .eql t5 (.sc (.int .i64 3)) fun t12 =>
 p.cond t12
 (p.call 4 (.fn 187 [] []) [t1, (.sc (.int .i64 0)), (.sc (.int .i64 4))] H fun t14 H =>
 k t14 H)
 (p.bin .eql t5 (.sc (.int .i64 4)) fun t16 =>
 p.cond t16
 (p.call 4 (.fn 187 [] []) [t1, (.sc (.int .i64 0)), (.sc (.int .i64 3))] H fun t18 H =>
 k t18 H)
 (p.bin .eql t5 (.sc (.int .i64 5)) fun t20 =>
 p.cond t20
 (p.call 4 (.fn 187 [] []) [t1, (.sc (.int .i64 0)), (.sc (.int .i64 1))] H fun t22 H =>
 k t22 H)
 (p.bin .eql t5 (.sc (.int .i64 6)) fun t24 =>
 p.cond t24
 (p.call 4 (.fn 187 [] []) [t1, (.sc (.int .i64 0)), (.sc (.int .i64 3))] H fun t26 H =>
 p.guard t26 false H (fun k' => k' t1 H) fun t28 H =>
 p.guard t26 false H (fun k' => p.call 4 (.fn 187 [] []) [t28, (.sc (.int .i64 6)), (.sc (.int .i64 10))] H fun t' H => k' t' H) fun t29 H =>
 p.pick t26 (.sc (.bool true)) t29 fun t30 =>
 k t30 H)
 (p.bin .eql t5 (.sc (.int .i64 7)) fun t32 =>
 p.cond t32
 (p.bin .eql t1 (.sc (.int .i64 1)) fun t34 =>
 k t34 H)
 (p.bin .eql t0 (.sc (.int .i64 0)) fun t36 =>
 p.guard t36 true H (fun k' => k' t1 H) fun t38 H =>
 p.guard t36 true H (fun k' => p.bin .eql t38 (.sc (.int .i64 0)) fun t' => k' t' H) fun t39 H =>
 p.pick t36 t39 (.sc (.bool false)) fun t40 =>
 k t40 H))))))) fun j1 =>
 p.cond t7
 (j1 a0 a1 a0 t7 H)
 (p.bin .eql a0 (.sc (.int .i64 2)) fun t8 =>
 j1 a0 a1 a0 t8 H)
theorem Yl : Km Aey @f136 := fun p n a0 a1 H k => by kernel_rfl
noncomputable def Gq (p : Pr β) (n : Nat)  (k : KO β) : Nat → AV → AV → AV → AV → AV → KO β
 | 0, _, _, _, _, _, _, _ => none
 | m + 1, t0, t1, t8, t9, t10, t11, H => p.bin .leq t11 t8 fun t67 =>
   p.cond t67
   (p.bin .add t1 t11 fun t73 =>
   p.iadr 1 t0 t73 fun t74 =>
   p.load false 1 t74 H fun t75 =>
   p.cvI .i64 t75 fun t76 =>
   p.bin .lss t76 (.sc (.int .i64 128)) fun t78 =>
   p.guard t78 false H (fun k' => k' t76 H) fun t80 H =>
   p.guard t78 false H (fun k' => p.bin .gtr t80 (.sc (.int .i64 191)) fun t' => k' t' H) fun t81 H =>
   p.pick t78 (.sc (.bool true)) t81 fun t82 =>
   p.cond t82
   (k (Gc [(.sc (.int .i64 0)), (.sc (.int .i64 0)), (.sc (.bool false))]) H)
   (p.bin .mul t10 (.sc (.int .i64 64)) fun t84 =>
   p.bin .add t84 t76 fun t86 =>
   p.bin .sub t86 (.sc (.int .i64 128)) fun t87 =>
   p.bin .add t11 (.sc (.int .i64 1)) fun t69 =>
   Gq p n  k m t0 t1 t8 t9 t87 t69 H))
   (p.bin .lss t10 t9 fun t90 =>
   p.guard t90 false H (fun k' => k' t10 H) fun t92 H =>
   p.guard t90 false H (fun k' => p.bin .gtr t92 (.sc (.int .i64 1114111)) fun t' => k' t' H) fun t93 H =>
   p.pick t90 (.sc (.bool true)) t93 fun t94 =>
   p.guard t94 false H (fun k' => k' t10 H) fun t96 H =>
   p.guard t94 false H (fun k' => p.call 4 (.fn 187 [] []) [t96, (.sc (.int .i64 55296)), (.sc (.int .i64 57343))] H fun t' H => k' t' H) fun t97 H =>
   p.pick t94 (.sc (.bool true)) t97 fun t98 =>
   p.cond t98
   (k (Gc [(.sc (.int .i64 0)), (.sc (.int .i64 0)), (.sc (.bool false))]) H)
   (p.bin .add t1 (.sc (.int .i64 1)) fun t101 =>
   p.bin .add t101 t8 fun t103 =>
   k (Gc [t10, t103, (.sc (.bool true))]) H))
noncomputable def f277 (p : Pr β) (n : Nat) (a0 a1 : AV) (H : Af) (k : KO β) : Option β :=
 p.bin .lss a1 (.sc (.int .i64 0)) fun t14 =>
 p.guard t14 false H (fun k' => k' a1 H) fun t16 H =>
 p.guard t14 false H (fun k' => k' a0 H) fun t17 H =>
 p.guard t14 false H (fun k' => p.len t17 fun t' => k' t' H) fun t18 H =>
 p.guard t14 false H (fun k' => p.bin .geq t16 t18 fun t' => k' t' H) fun t19 H =>
 p.pick t14 (.sc (.bool true)) t19 fun t20 =>
 p.cond t20
 (k (Gc [(.sc (.int .i64 0)), (.sc (.int .i64 0)), (.sc (.bool false))]) H)
 (p.iadr 1 a0 a1 fun t23 =>
 p.load false 1 t23 H fun t24 =>
 p.cvI .i64 t24 fun t25 =>
 p.bin .lss t25 (.sc (.int .i64 128)) fun t27 =>
 p.cond t27
 (p.bin .add a1 (.sc (.int .i64 1)) fun t30 =>
 k (Gc [t25, t30, (.sc (.bool true))]) H)
 (p.bin .geq t25 (.sc (.int .i64 192)) fun t33 =>
 p.guard t33 true H (fun k' => k' t25 H) fun t35 H =>
 p.guard t33 true H (fun k' => p.bin .lss t35 (.sc (.int .i64 224)) fun t' => k' t' H) fun t36 H =>
 p.pick t33 t36 (.sc (.bool false)) fun t37 =>
 p.cond t37
 (p.bin .and t25 (.sc (.int .i64 31)) fun t39 =>
 p.len a0 fun t60 =>
 p.bin .sub t60 (.sc (.int .i64 1)) fun t61 =>
 p.bin .sub t61 (.sc (.int .i64 1)) fun t63 =>
 p.bin .gtr a1 t63 fun t64 =>
 p.cond t64
 (k (Gc [(.sc (.int .i64 0)), (.sc (.int .i64 0)), (.sc (.bool false))]) H)
 (Gq p n  k n a0 a1 (.sc (.int .i64 1)) (.sc (.int .i64 128)) t39 (.sc (.int .i64 1)) H))
 (p.bin .geq t25 (.sc (.int .i64 224)) fun t42 =>
 p.guard t42 true H (fun k' => k' t25 H) fun t44 H =>
 p.guard t42 true H (fun k' => p.bin .lss t44 (.sc (.int .i64 240)) fun t' => k' t' H) fun t45 H =>
 p.pick t42 t45 (.sc (.bool false)) fun t46 =>
 p.cond t46
 (p.bin .and t25 (.sc (.int .i64 15)) fun t48 =>
 p.len a0 fun t60 =>
 p.bin .sub t60 (.sc (.int .i64 1)) fun t61 =>
 p.bin .sub t61 (.sc (.int .i64 2)) fun t63 =>
 p.bin .gtr a1 t63 fun t64 =>
 p.cond t64
 (k (Gc [(.sc (.int .i64 0)), (.sc (.int .i64 0)), (.sc (.bool false))]) H)
 (Gq p n  k n a0 a1 (.sc (.int .i64 2)) (.sc (.int .i64 2048)) t48 (.sc (.int .i64 1)) H))
 (p.bin .geq t25 (.sc (.int .i64 240)) fun t51 =>
 p.guard t51 true H (fun k' => k' t25 H) fun t53 H =>
 p.guard t51 true H (fun k' => p.bin .lss t53 (.sc (.int .i64 248)) fun t' => k' t' H) fun t54 H =>
 p.pick t51 t54 (.sc (.bool false)) fun t55 =>
 p.cond t55
 (p.bin .and t25 (.sc (.int .i64 7)) fun t57 =>
 p.len a0 fun t60 =>
 p.bin .sub t60 (.sc (.int .i64 1)) fun t61 =>
 p.bin .sub t61 (.sc (.int .i64 3)) fun t63 =>
 p.bin .gtr a1 t63 fun t64 =>
 p.cond t64
 (k (Gc [(.sc (.int .i64 0)), (.sc (.int .i64 0)), (.sc (.bool false))]) H)
 (Gq p n  k n a0 a1 (.sc (.int .i64 3)) (.sc (.int .i64 65536)) t57 (.sc (.int .i64 1)) H))
 (k (Gc [(.sc (.int .i64 0)), (.sc (.int .i64 0)), (.sc (.bool false))]) H)))))
noncomputable def Oo (p : Pr β) (n : Nat)  (k : KO β) (m : Nat) (tm : Tm) (H : Af) : Option β :=
 Cx 104 (fun tm H k => Ak As p [] 104 n (cd Afy [1, 1, 1, 1, 1, 1, 1, 1, 1, 0, 1, 0, 0]) tm H k) (Dy 1 (Dj (fun tm H => Ak As p [] 104 n (cd Afy [1, 1, 1, 1, 1, 1, 1, 1, 1, 1]) tm H (Cc As p fi277.results k)) (Cc As p fi277.results k))) m tm H
theorem Vn (p : Pr β) (n : Nat)  (k : KO β) (m0 : Nat) : ∀ (t : Nat → AV) (H : Af), Oo p n  k m0 (tf 104 0 t) H = Gq p n  k m0 (t 0) (t 1) (t 8) (t 9) (t 10) (t 11) H := by
 induction m0 with
 | zero => intros; rfl
 | succ m0 ih =>
  intro t H
  refine Eq.trans (Bp (nt := 104) (m := m0) (g := fun t H => Gq p n  k m0 (t 0) (t 1) (t 8) (t 9) (t 10) (t 11) H) ih rfl) ?_
  kernel_rfl
theorem AaQ (p : Pr β) (n : Nat) (a0 a1 : AV) (H : Af) (k : KO β) : B3 As p n fi277 [a0, a1] H k =
 p.bin .lss a1 (.sc (.int .i64 0)) fun t14 =>
 p.guard t14 false H (fun k' => k' a1 H) fun t16 H =>
 p.guard t14 false H (fun k' => k' a0 H) fun t17 H =>
 p.guard t14 false H (fun k' => p.len t17 fun t' => k' t' H) fun t18 H =>
 p.guard t14 false H (fun k' => p.bin .geq t16 t18 fun t' => k' t' H) fun t19 H =>
 p.pick t14 (.sc (.bool true)) t19 fun t20 =>
 p.cond t20
 (k (Gc [(.sc (.int .i64 0)), (.sc (.int .i64 0)), (.sc (.bool false))]) H)
 (p.iadr 1 a0 a1 fun t23 =>
 p.load false 1 t23 H fun t24 =>
 p.cvI .i64 t24 fun t25 =>
 p.bin .lss t25 (.sc (.int .i64 128)) fun t27 =>
 p.cond t27
 (p.bin .add a1 (.sc (.int .i64 1)) fun t30 =>
 k (Gc [t25, t30, (.sc (.bool true))]) H)
 (p.bin .geq t25 (.sc (.int .i64 192)) fun t33 =>
 p.guard t33 true H (fun k' => k' t25 H) fun t35 H =>
 p.guard t33 true H (fun k' => p.bin .lss t35 (.sc (.int .i64 224)) fun t' => k' t' H) fun t36 H =>
 p.pick t33 t36 (.sc (.bool false)) fun t37 =>
 p.cond t37
 (p.bin .and t25 (.sc (.int .i64 31)) fun t39 =>
 p.len a0 fun t60 =>
 p.bin .sub t60 (.sc (.int .i64 1)) fun t61 =>
 p.bin .sub t61 (.sc (.int .i64 1)) fun t63 =>
 p.bin .gtr a1 t63 fun t64 =>
 p.cond t64
 (k (Gc [(.sc (.int .i64 0)), (.sc (.int .i64 0)), (.sc (.bool false))]) H)
 (Oo p n  k n (tf 104 0 (ud [(0, a0), (1, a1), (4, (.sc (.int .i64 0))), (5, (.sc (.int .i64 0))), (6, (.sc (.bool false))), (7, t25), (8, (.sc (.int .i64 1))), (9, (.sc (.int .i64 128))), (10, t39), (11, (.sc (.int .i64 1))), (13, a1), (14, t14), (15, t14), (16, t16), (17, t17), (18, t18), (19, t19), (20, t20), (21, a0), (22, a1), (23, t23), (24, t24), (25, t25), (26, t25), (27, t27), (31, t37), (32, t25), (33, t33), (34, t33), (35, t35), (36, t36), (37, t37), (38, t25), (39, t39), (58, a1), (59, a0), (60, t60), (61, t61), (62, (.sc (.int .i64 1))), (63, t63), (64, t64)] ut)) H))
 (p.bin .geq t25 (.sc (.int .i64 224)) fun t42 =>
 p.guard t42 true H (fun k' => k' t25 H) fun t44 H =>
 p.guard t42 true H (fun k' => p.bin .lss t44 (.sc (.int .i64 240)) fun t' => k' t' H) fun t45 H =>
 p.pick t42 t45 (.sc (.bool false)) fun t46 =>
 p.cond t46
 (p.bin .and t25 (.sc (.int .i64 15)) fun t48 =>
 p.len a0 fun t60 =>
 p.bin .sub t60 (.sc (.int .i64 1)) fun t61 =>
 p.bin .sub t61 (.sc (.int .i64 2)) fun t63 =>
 p.bin .gtr a1 t63 fun t64 =>
 p.cond t64
 (k (Gc [(.sc (.int .i64 0)), (.sc (.int .i64 0)), (.sc (.bool false))]) H)
 (Oo p n  k n (tf 104 0 (ud [(0, a0), (1, a1), (4, (.sc (.int .i64 0))), (5, (.sc (.int .i64 0))), (6, (.sc (.bool false))), (7, t25), (8, (.sc (.int .i64 2))), (9, (.sc (.int .i64 2048))), (10, t48), (11, (.sc (.int .i64 1))), (13, a1), (14, t14), (15, t14), (16, t16), (17, t17), (18, t18), (19, t19), (20, t20), (21, a0), (22, a1), (23, t23), (24, t24), (25, t25), (26, t25), (27, t27), (31, t37), (32, t25), (33, t33), (34, t33), (35, t35), (36, t36), (37, t37), (40, t46), (41, t25), (42, t42), (43, t42), (44, t44), (45, t45), (46, t46), (47, t25), (48, t48), (58, a1), (59, a0), (60, t60), (61, t61), (62, (.sc (.int .i64 2))), (63, t63), (64, t64)] ut)) H))
 (p.bin .geq t25 (.sc (.int .i64 240)) fun t51 =>
 p.guard t51 true H (fun k' => k' t25 H) fun t53 H =>
 p.guard t51 true H (fun k' => p.bin .lss t53 (.sc (.int .i64 248)) fun t' => k' t' H) fun t54 H =>
 p.pick t51 t54 (.sc (.bool false)) fun t55 =>
 p.cond t55
 (p.bin .and t25 (.sc (.int .i64 7)) fun t57 =>
 p.len a0 fun t60 =>
 p.bin .sub t60 (.sc (.int .i64 1)) fun t61 =>
 p.bin .sub t61 (.sc (.int .i64 3)) fun t63 =>
 p.bin .gtr a1 t63 fun t64 =>
 p.cond t64
 (k (Gc [(.sc (.int .i64 0)), (.sc (.int .i64 0)), (.sc (.bool false))]) H)
 (Oo p n  k n (tf 104 0 (ud [(0, a0), (1, a1), (4, (.sc (.int .i64 0))), (5, (.sc (.int .i64 0))), (6, (.sc (.bool false))), (7, t25), (8, (.sc (.int .i64 3))), (9, (.sc (.int .i64 65536))), (10, t57), (11, (.sc (.int .i64 1))), (13, a1), (14, t14), (15, t14), (16, t16), (17, t17), (18, t18), (19, t19), (20, t20), (21, a0), (22, a1), (23, t23), (24, t24), (25, t25), (26, t25), (27, t27), (31, t37), (32, t25), (33, t33), (34, t33), (35, t35), (36, t36), (37, t37), (40, t46), (41, t25), (42, t42), (43, t42), (44, t44), (45, t45), (46, t46), (49, t55), (50, t25), (51, t51), (52, t51), (53, t53), (54, t54), (55, t55), (56, t25), (57, t57), (58, a1), (59, a0), (60, t60), (61, t61), (62, (.sc (.int .i64 3))), (63, t63), (64, t64)] ut)) H))
 (k (Gc [(.sc (.int .i64 0)), (.sc (.int .i64 0)), (.sc (.bool false))]) H))))) := by kernel_rfl
theorem Zv : Km fi277 @f277 := fun p n a0 a1 H k => by
 rw [AaQ]
 simp only [Vn]
 kernel_rfl
noncomputable def La (p : Pr β) (n : Nat)  (k : KO β) : Nat → AV → AV → KO β
 | 0, _, _, _, _ => none
 | m + 1, t3, t4, t5, H => p.len t3 fun t16 =>
   p.bin .lss t5 t16 fun t17 =>
   p.cond t17
   (p.call 282 (.fn 277 [] []) [t3, t5] H fun t21 H =>
   p.extr t21 0 fun t22 =>
   p.extr t21 1 fun t23 =>
   p.extr t21 2 fun t24 =>
   p.un .not t24 fun t26 =>
   p.guard t26 false H (fun k' => k' t22 H) fun t28 H =>
   p.guard t26 false H (fun k' => p.bin .eql t28 (.sc (.int .i64 0)) fun t' => k' t' H) fun t29 H =>
   p.pick t26 (.sc (.bool true)) t29 fun t30 =>
   p.cond t30
   (k (.sc (.int .i64 (-1))) H)
   (p.bin .add t4 (.sc (.int .i64 1)) fun t33 =>
   La p n  k m t3 t33 t23 H))
   (k t4 H)
noncomputable def f231 (p : Pr β) (n : Nat) (a0 : AV) (H : Af) (k : KO β) : Option β :=
 p.lenS a0 fun t10 =>
 p.bin .gtr t10 (.sc (.int .i64 60)) fun t11 =>
 p.cond t11
 (k (.sc (.int .i64 (-1))) H)
 (p.cvSB a0 H fun t13 H =>
 La p n  k n t13 (.sc (.int .i64 0)) (.sc (.int .i64 0)) H)
noncomputable def W9 (p : Pr β) (n : Nat)  (k : KO β) (m : Nat) (tm : Tm) (H : Af) : Option β :=
 Cx 35 (fun tm H k => Ak As p [] 35 n (cd Afu [1, 1, 1, 1, 0, 1, 0, 0]) tm H k) (Dy 0 (Dj (fun tm H => Ak As p [] 35 n (cd Afu [1, 1, 1, 1, 1]) tm H (Cc As p fi231.results k)) (Cc As p fi231.results k))) m tm H
theorem Vj (p : Pr β) (n : Nat)  (k : KO β) (m0 : Nat) : ∀ (t : Nat → AV) (H : Af), W9 p n  k m0 (tf 35 0 t) H = La p n  k m0 (t 3) (t 4) (t 5) H := by
 induction m0 with
 | zero => intros; rfl
 | succ m0 ih =>
  intro t H
  refine Eq.trans (Bp (nt := 35) (m := m0) (g := fun t H => La p n  k m0 (t 3) (t 4) (t 5) H) ih rfl) ?_
  kernel_rfl
theorem AaM (p : Pr β) (n : Nat) (a0 : AV) (H : Af) (k : KO β) : B3 As p n fi231 [a0] H k =
 p.lenS a0 fun t10 =>
 p.bin .gtr t10 (.sc (.int .i64 60)) fun t11 =>
 p.cond t11
 (k (.sc (.int .i64 (-1))) H)
 (p.cvSB a0 H fun t13 H =>
 W9 p n  k n (tf 35 0 (ud [(0, a0), (2, (.sc (.int .i64 0))), (3, t13), (4, (.sc (.int .i64 0))), (5, (.sc (.int .i64 0))), (9, a0), (10, t10), (11, t11), (12, a0), (13, t13)] ut)) H) := by kernel_rfl
theorem Zn : Iy fi231 @f231 := fun p n a0 H k => by
 rw [AaM]
 simp only [Vj]
 kernel_rfl
noncomputable def f137 (p : Pr β) (n : Nat) (a0 : AV) (H : Af) (k : KO β) : Option β :=
 p.call 3 (.fn 231 [] []) [a0] H fun t4 H =>
 p.bin .geq t4 (.sc (.int .i64 0)) fun t5 =>
 k t5 H
theorem Ym : Iy Aez @f137 := fun p n a0 H k => by kernel_rfl
noncomputable def f138 (p : Pr β) (n : Nat) (a0 : AV) (H : Af) (k : KO β) : Option β :=
 p.box a0 H fun t1 H =>
 p.fadr 0 t1 fun t3 =>
 p.load false 1 t3 H fun t4 =>
 p.call 4 (.fn 137 [] []) [t4] H fun t5 H =>
 p.guard t5 true H (fun k' => p.fadr 0 t1 fun t' => k' t' H) fun t7 H =>
 p.guard t5 true H (fun k' => p.load false 1 t7 H fun t' => k' t' H) fun t8 H =>
 p.guard t5 true H (fun k' => p.bin .neq t8 (.sc (.string ⟨#[]⟩)) fun t' => k' t' H) fun t9 H =>
 p.pick t5 t9 (.sc (.bool false)) fun t10 =>
 p.guard t10 true H (fun k' => p.fadr 1 t1 fun t' => k' t' H) fun t12 H =>
 p.guard t10 true H (fun k' => p.load false 1 t12 H fun t' => k' t' H) fun t13 H =>
 p.guard t10 true H (fun k' => p.call 4 (.fn 187 [] []) [t13, (.sc (.int .i64 0)), (.sc (.int .i64 2))] H fun t' H => k' t' H) fun t14 H =>
 p.pick t10 t14 (.sc (.bool false)) fun t15 =>
 p.guard t15 true H (fun k' => p.fadr 2 t1 fun t' => k' t' H) fun t17 H =>
 p.guard t15 true H (fun k' => p.load false 1 t17 H fun t' => k' t' H) fun t18 H =>
 p.guard t15 true H (fun k' => p.bin .geq t18 (.sc (.int .i64 0)) fun t' => k' t' H) fun t19 H =>
 p.pick t15 t19 (.sc (.bool false)) fun t20 =>
 k t20 H
theorem Yn : Iy Ae0 @f138 := fun p n a0 H k => by kernel_rfl
noncomputable def Ju (p : Pr β) (n : Nat)  (k : KO β) : Nat → AV → AV → KO β
 | 0, _, _, _, _ => none
 | m + 1, t0, t1, t5, H => p.lenS t0 fun t8 =>
   p.bin .lss t5 t8 fun t9 =>
   p.cond t9
   (p.idx t0 t5 fun t14 =>
   p.bin .eql t14 t1 fun t16 =>
   p.cond t16
   (k (.sc (.bool true)) H)
   (p.bin .add t5 (.sc (.int .i64 1)) fun t11 =>
   Ju p n  k m t0 t1 t11 H))
   (k (.sc (.bool false)) H)
noncomputable def f273 (p : Pr β) (n : Nat) (a0 a1 : AV) (H : Af) (k : KO β) : Option β :=
 Ju p n  k n a0 a1 (.sc (.int .i64 0)) H
noncomputable def Xb (p : Pr β) (n : Nat)  (k : KO β) (m : Nat) (tm : Tm) (H : Af) : Option β :=
 Cx 17 (fun tm H k => Ak As p [] 17 n (cd Afw [1, 0, 1, 0, 0]) tm H k) (Dy 0 (Dj (fun tm H => Ak As p [] 17 n (cd Afw [1, 1]) tm H (Cc As p fi273.results k)) (Cc As p fi273.results k))) m tm H
theorem Vl (p : Pr β) (n : Nat)  (k : KO β) (m0 : Nat) : ∀ (t : Nat → AV) (H : Af), Xb p n  k m0 (tf 17 0 t) H = Ju p n  k m0 (t 0) (t 1) (t 5) H := by
 induction m0 with
 | zero => intros; rfl
 | succ m0 ih =>
  intro t H
  refine Eq.trans (Bp (nt := 17) (m := m0) (g := fun t H => Ju p n  k m0 (t 0) (t 1) (t 5) H) ih rfl) ?_
  kernel_rfl
theorem AaO (p : Pr β) (n : Nat) (a0 a1 : AV) (H : Af) (k : KO β) : B3 As p n fi273 [a0, a1] H k =
 Xb p n  k n (tf 17 0 (ud [(0, a0), (1, a1), (4, (.sc (.bool false))), (5, (.sc (.int .i64 0)))] ut)) H := by kernel_rfl
theorem Zt : Km fi273 @f273 := fun p n a0 a1 H k => by
 rw [AaO]
 simp only [Vl]
 kernel_rfl
noncomputable def Ho (p : Pr β) (n : Nat)  (k : KO β) : Nat → AV → AV → AV → KO β
 | 0, _, _, _, _, _ => none
 | m + 1, t0, t3, t4, t5, H => p.lenS t0 fun t9 =>
   p.bin .leq t5 t9 fun t10 =>
   p.cond t10
   (p.lenS t0 fun t15 =>
   p.bin .eql t5 t15 fun t16 =>
   p.guard t16 false H (fun k' => k' t0 H) fun t18 H =>
   p.guard t16 false H (fun k' => k' t5 H) fun t19 H =>
   p.guard t16 false H (fun k' => p.idx t18 t19 fun t' => k' t' H) fun t20 H =>
   p.guard t16 false H (fun k' => p.bin .eql t20 (.sc (.int .u8 47)) fun t' => k' t' H) fun t21 H =>
   p.pick t16 (.sc (.bool true)) t21 fun t22 =>
   p.cond t22
   (p.sliceS t0 (some t4) (some t5) fun t27 =>
   p.fill [(.sc (.string ⟨#[]⟩))] [(0, 1, t27)] fun ct28 => p.newSl 1 1 ct28 true H fun t28 H =>
   p.app 1 16 t3 t28 H fun t29 H =>
   p.bin .add t5 (.sc (.int .i64 1)) fun t31 =>
   p.bin .add t5 (.sc (.int .i64 1)) fun t12 =>
   Ho p n  k m t0 t29 t31 t12 H)
   (p.bin .add t5 (.sc (.int .i64 1)) fun t12 =>
   Ho p n  k m t0 t3 t4 t12 H))
   (k t3 H)
noncomputable def f274 (p : Pr β) (n : Nat) (a0 : AV) (H : Af) (k : KO β) : Option β :=
 Ho p n  k n a0 .nl (.sc (.int .i64 0)) (.sc (.int .i64 0)) H
noncomputable def Xc (p : Pr β) (n : Nat)  (k : KO β) (m : Nat) (tm : Tm) (H : Af) : Option β :=
 Cx 33 (fun tm H k => Ak As p [] 33 n (cd Afx [1, 1, 1, 0, 1, 0, 0]) tm H k) (Dy 0 (Dj (fun tm H => Ak As p [] 33 n (cd Afx [1, 1, 1, 1]) tm H (Cc As p fi274.results k)) (Cc As p fi274.results k))) m tm H
theorem Vm (p : Pr β) (n : Nat)  (k : KO β) (m0 : Nat) : ∀ (t : Nat → AV) (H : Af), Xc p n  k m0 (tf 33 0 t) H = Ho p n  k m0 (t 0) (t 3) (t 4) (t 5) H := by
 induction m0 with
 | zero => intros; rfl
 | succ m0 ih =>
  intro t H
  refine Eq.trans (Bp (nt := 33) (m := m0) (g := fun t H => Ho p n  k m0 (t 0) (t 3) (t 4) (t 5) H) ih rfl) ?_
  kernel_rfl
theorem AaP (p : Pr β) (n : Nat) (a0 : AV) (H : Af) (k : KO β) : B3 As p n fi274 [a0] H k =
 Xc p n  k n (tf 33 0 (ud [(0, a0), (2, .nl), (3, .nl), (4, (.sc (.int .i64 0))), (5, (.sc (.int .i64 0))), (6, .nl)] ut)) H := by kernel_rfl
theorem Zu : Iy fi274 @f274 := fun p n a0 H k => by
 rw [AaP]
 simp only [Vm]
 kernel_rfl
noncomputable def f223 (p : Pr β) (n : Nat) (a0 : AV) (H : Af) (k : KO β) : Option β :=
 p.call 4 (.fn 137 [] []) [a0] H fun t4 H =>
 p.guard t4 true H (fun k' => k' a0 H) fun t6 H =>
 p.guard t4 true H (fun k' => p.bin .neq t6 (.sc (.string ⟨#[]⟩)) fun t' => k' t' H) fun t7 H =>
 p.pick t4 t7 (.sc (.bool false)) fun t8 =>
 p.guard t8 true H (fun k' => k' a0 H) fun t10 H =>
 p.guard t8 true H (fun k' => p.call 4 (.fn 273 [] []) [t10, (.sc (.int .u8 43))] H fun t' H => k' t' H) fun t11 H =>
 p.guard t8 true H (fun k' => p.un .not t11 fun t' => k' t' H) fun t12 H =>
 p.pick t8 t12 (.sc (.bool false)) fun t13 =>
 p.guard t13 true H (fun k' => k' a0 H) fun t15 H =>
 p.guard t13 true H (fun k' => p.call 4 (.fn 273 [] []) [t15, (.sc (.int .u8 35))] H fun t' H => k' t' H) fun t16 H =>
 p.guard t13 true H (fun k' => p.un .not t16 fun t' => k' t' H) fun t17 H =>
 p.pick t13 t17 (.sc (.bool false)) fun t18 =>
 p.guard t18 true H (fun k' => k' a0 H) fun t20 H =>
 p.guard t18 true H (fun k' => p.call 33 (.fn 274 [] []) [t20] H fun t' H => k' t' H) fun t21 H =>
 p.guard t18 true H (fun k' => p.len t21 fun t' => k' t' H) fun t22 H =>
 p.guard t18 true H (fun k' => p.bin .leq t22 (.sc (.int .i64 6)) fun t' => k' t' H) fun t23 H =>
 p.pick t18 t23 (.sc (.bool false)) fun t24 =>
 k t24 H
theorem Zj : Iy AeO @f223 := fun p n a0 H k => by kernel_rfl
noncomputable def f139 (p : Pr β) (n : Nat) (a0 : AV) (H : Af) (k : KO β) : Option β :=
 p.box a0 H fun t1 H =>
 p.fadr 0 t1 fun t3 =>
 p.load false 1 t3 H fun t4 =>
 p.call 4 (.fn 223 [] []) [t4] H fun t5 H =>
 p.guard t5 true H (fun k' => p.fadr 1 t1 fun t' => k' t' H) fun t7 H =>
 p.guard t5 true H (fun k' => p.load false 1 t7 H fun t' => k' t' H) fun t8 H =>
 p.guard t5 true H (fun k' => p.len t8 fun t' => k' t' H) fun t9 H =>
 p.guard t5 true H (fun k' => p.bin .leq t9 (.sc (.int .i64 40)) fun t' => k' t' H) fun t10 H =>
 p.pick t5 t10 (.sc (.bool false)) fun t11 =>
 p.guard t11 true H (fun k' => p.fadr 2 t1 fun t' => k' t' H) fun t13 H =>
 p.guard t11 true H (fun k' => p.load false 1 t13 H fun t' => k' t' H) fun t14 H =>
 p.guard t11 true H (fun k' => p.call 4 (.fn 187 [] []) [t14, (.sc (.int .i64 0)), (.sc (.int .i64 2))] H fun t' H => k' t' H) fun t15 H =>
 p.pick t11 t15 (.sc (.bool false)) fun t16 =>
 k t16 H
theorem Yo : Iy Ae1 @f139 := fun p n a0 H k => by kernel_rfl
noncomputable def f222 (p : Pr β) (n : Nat) (a0 : AV) (H : Af) (k : KO β) : Option β :=
 p.box a0 H fun t1 H =>
 p.new [(.sc (.int .i64 0)), (.sc (.bool false)), (.sc (.int .i64 0)), (.sc (.bool false)), (.sc (.int .i64 0)), (.sc (.string ⟨#[]⟩)), .nl, (.sc (.string ⟨#[]⟩)), (.sc (.int .i64 0)), (.sc (.bool false)), (.sc (.int .i64 0)), (.sc (.bool false)), (.sc (.string ⟨#[]⟩)), .nl, (.sc (.int .i64 0)), (.sc (.bool false)), (.sc (.bool false)), (.sc (.string ⟨#[]⟩)), (.sc (.bool false)), .nl, (.sc (.int .i64 0)), (.sc (.bool false)), .nl, .nl, .nl] H fun t2 H =>
 p.fadr 0 t1 fun t4 =>
 p.load false 1 t4 H fun t5 =>
 p.fill [(.sc (.int .i64 0)), (.sc (.bool false)), (.sc (.int .i64 0)), (.sc (.bool false)), (.sc (.int .i64 0)), (.sc (.string ⟨#[]⟩)), .nl, (.sc (.string ⟨#[]⟩)), (.sc (.int .i64 0)), (.sc (.bool false)), (.sc (.int .i64 0)), (.sc (.bool false)), (.sc (.string ⟨#[]⟩)), .nl, (.sc (.int .i64 0)), (.sc (.bool false)), (.sc (.bool false)), (.sc (.string ⟨#[]⟩)), (.sc (.bool false)), .nl, (.sc (.int .i64 0)), (.sc (.bool false)), .nl, .nl, .nl] [(0, 1, t5)] fun ct6 =>
 p.new [(.sc (.int .i64 0)), (.sc (.bool false)), (.sc (.int .i64 0)), (.sc (.bool false)), (.sc (.int .i64 0)), (.sc (.string ⟨#[]⟩)), .nl, (.sc (.string ⟨#[]⟩)), (.sc (.int .i64 0)), (.sc (.bool false)), (.sc (.int .i64 0)), (.sc (.bool false)), (.sc (.string ⟨#[]⟩)), .nl, (.sc (.int .i64 0)), (.sc (.bool false)), (.sc (.bool false)), (.sc (.string ⟨#[]⟩)), (.sc (.bool false)), .nl, (.sc (.int .i64 0)), (.sc (.bool false)), .nl, .nl, .nl] H fun t3 H =>
 p.store 25 t3 (.agg ct6) H fun H =>
 p.fadr 0 t1 fun t7 =>
 p.load false 1 t7 H fun t8 =>
 p.bin .eql t8 (.sc (.int .i64 1)) fun t10 =>
 p.cond t10
 (p.fadr 8 t1 fun t11 =>
 p.load false 1 t11 H fun t12 =>
 p.fadr 8 t3 fun t13 =>
 p.store 1 t13 t12 H fun H =>
 p.fadr 7 t1 fun t14 =>
 p.load false 1 t14 H fun t15 =>
 p.fadr 7 t3 fun t16 =>
 p.store 1 t16 t15 H fun H =>
 p.fadr 9 t1 fun t17 =>
 p.load false 1 t17 H fun t18 =>
 p.fadr 9 t3 fun t19 =>
 p.store 1 t19 t18 H fun H =>
 p.fadr 10 t1 fun t20 =>
 p.load false 1 t20 H fun t21 =>
 p.fadr 10 t3 fun t22 =>
 p.store 1 t22 t21 H fun H =>
 p.fadr 11 t1 fun t23 =>
 p.load false 1 t23 H fun t24 =>
 Kj (fun (t1 t2 t3 : AV) (H : Af) => p.fadr 16 t1 fun t38 =>
 p.load false 1 t38 H fun t39 =>
 p.cond t39
 (p.fadr 16 t3 fun t40 =>
 p.store 1 t40 (.sc (.bool true)) H fun H =>
 p.fadr 17 t1 fun t41 =>
 p.load false 1 t41 H fun t42 =>
 p.fadr 17 t3 fun t43 =>
 p.store 1 t43 t42 H fun H =>
 p.fadr 18 t1 fun t44 =>
 p.load false 1 t44 H fun t45 =>
 p.cond t45
 (p.fadr 18 t3 fun t46 =>
 p.store 1 t46 (.sc (.bool true)) H fun H =>
 p.fadr 19 t1 fun t47 =>
 p.load false 1 t47 H fun t48 =>
 p.fadr 19 t3 fun t49 =>
 p.store 1 t49 t48 H fun H =>
 p.load true 25 t3 H fun t119 =>
 p.store 25 t2 t119 H fun H =>
 p.load true 25 t2 H fun r0 =>
 k r0 H)
 (p.load true 25 t3 H fun t119 =>
 p.store 25 t2 t119 H fun H =>
 p.load true 25 t2 H fun r0 =>
 k r0 H))
 (p.load true 25 t3 H fun t119 =>
 p.store 25 t2 t119 H fun H =>
 p.load true 25 t2 H fun r0 =>
 k r0 H)) fun j1 =>
 p.cond t24
 (p.fadr 11 t3 fun t25 =>
 p.store 1 t25 (.sc (.bool true)) H fun H =>
 p.fadr 12 t1 fun t26 =>
 p.load false 1 t26 H fun t27 =>
 p.fadr 12 t3 fun t28 =>
 p.store 1 t28 t27 H fun H =>
 p.fadr 13 t1 fun t29 =>
 p.load false 1 t29 H fun t30 =>
 p.fadr 13 t3 fun t31 =>
 p.store 1 t31 t30 H fun H =>
 p.fadr 14 t1 fun t32 =>
 p.load false 1 t32 H fun t33 =>
 p.fadr 14 t3 fun t34 =>
 p.store 1 t34 t33 H fun H =>
 p.fadr 15 t1 fun t35 =>
 p.load false 1 t35 H fun t36 =>
 p.fadr 15 t3 fun t37 =>
 p.store 1 t37 t36 H fun H =>
 j1 t1 t2 t3 H)
 (j1 t1 t2 t3 H))
 (p.bin .eql t8 (.sc (.int .i64 2)) fun t51 =>
 p.cond t51
 (p.fadr 20 t1 fun t52 =>
 p.load false 1 t52 H fun t53 =>
 p.fadr 20 t3 fun t54 =>
 p.store 1 t54 t53 H fun H =>
 p.fadr 21 t1 fun t55 =>
 p.load false 1 t55 H fun t56 =>
 p.guard t56 true H (fun k' => p.fadr 20 t1 fun t' => k' t' H) fun t58 H =>
 p.guard t56 true H (fun k' => p.load false 1 t58 H fun t' => k' t' H) fun t59 H =>
 p.guard t56 true H (fun k' => p.bin .eql t59 (.sc (.int .i64 0)) fun t' => k' t' H) fun t60 H =>
 p.pick t56 t60 (.sc (.bool false)) fun t61 =>
 p.fadr 21 t3 fun t62 =>
 p.store 1 t62 t61 H fun H =>
 p.load true 25 t3 H fun t119 =>
 p.store 25 t2 t119 H fun H =>
 p.load true 25 t2 H fun r0 =>
 k r0 H)
 (p.bin .eql t8 (.sc (.int .i64 3)) fun t64 =>
 p.cond t64
 (p.fadr 2 t1 fun t65 =>
 p.load false 1 t65 H fun t66 =>
 p.fadr 2 t3 fun t67 =>
 p.store 1 t67 t66 H fun H =>
 p.fadr 3 t1 fun t68 =>
 p.load false 1 t68 H fun t69 =>
 p.fadr 3 t3 fun t70 =>
 p.store 1 t70 t69 H fun H =>
 p.fadr 5 t1 fun t71 =>
 p.load false 1 t71 H fun t72 =>
 p.fadr 5 t3 fun t73 =>
 p.store 1 t73 t72 H fun H =>
 p.fadr 6 t1 fun t74 =>
 p.load false 1 t74 H fun t75 =>
 p.fadr 6 t3 fun t76 =>
 p.store 1 t76 t75 H fun H =>
 p.fadr 2 t1 fun t77 =>
 p.load false 1 t77 H fun t78 =>
 p.bin .gtr t78 (.sc (.int .i64 0)) fun t79 =>
 p.cond t79
 (p.fadr 1 t1 fun t80 =>
 p.load false 1 t80 H fun t81 =>
 p.fadr 1 t3 fun t82 =>
 p.store 1 t82 t81 H fun H =>
 p.fadr 4 t1 fun t83 =>
 p.load false 1 t83 H fun t84 =>
 p.fadr 4 t3 fun t85 =>
 p.store 1 t85 t84 H fun H =>
 p.load true 25 t3 H fun t119 =>
 p.store 25 t2 t119 H fun H =>
 p.load true 25 t2 H fun r0 =>
 k r0 H)
 (p.load true 25 t3 H fun t119 =>
 p.store 25 t2 t119 H fun H =>
 p.load true 25 t2 H fun r0 =>
 k r0 H))
 (p.bin .eql t8 (.sc (.int .i64 4)) fun t87 =>
 Kj (fun (t1 t2 t3 t8 t86 : AV) (H : Af) => p.cond t86
 (p.fadr 4 t1 fun t92 =>
 p.load false 1 t92 H fun t93 =>
 p.fadr 4 t3 fun t94 =>
 p.store 1 t94 t93 H fun H =>
 p.load true 25 t3 H fun t119 =>
 p.store 25 t2 t119 H fun H =>
 p.load true 25 t2 H fun r0 =>
 k r0 H)
 (p.bin .eql t8 (.sc (.int .i64 8)) fun t96 =>
 p.cond t96
 (p.fadr 4 t1 fun t97 =>
 p.load false 1 t97 H fun t98 =>
 p.fadr 4 t3 fun t99 =>
 p.store 1 t99 t98 H fun H =>
 p.fadr 22 t1 fun t100 =>
 p.load false 1 t100 H fun t101 =>
 p.fadr 22 t3 fun t102 =>
 p.store 1 t102 t101 H fun H =>
 p.load true 25 t3 H fun t119 =>
 p.store 25 t2 t119 H fun H =>
 p.load true 25 t2 H fun r0 =>
 k r0 H)
 (p.bin .eql t8 (.sc (.int .i64 9)) fun t104 =>
 p.cond t104
 (p.fadr 4 t1 fun t105 =>
 p.load false 1 t105 H fun t106 =>
 p.fadr 4 t3 fun t107 =>
 p.store 1 t107 t106 H fun H =>
 p.fadr 24 t1 fun t108 =>
 p.load false 1 t108 H fun t109 =>
 p.fadr 24 t3 fun t110 =>
 p.store 1 t110 t109 H fun H =>
 p.load true 25 t3 H fun t119 =>
 p.store 25 t2 t119 H fun H =>
 p.load true 25 t2 H fun r0 =>
 k r0 H)
 (p.bin .eql t8 (.sc (.int .i64 10)) fun t112 =>
 p.cond t112
 (p.fadr 4 t1 fun t113 =>
 p.load false 1 t113 H fun t114 =>
 p.fadr 4 t3 fun t115 =>
 p.store 1 t115 t114 H fun H =>
 p.fadr 23 t1 fun t116 =>
 p.load false 1 t116 H fun t117 =>
 p.fadr 23 t3 fun t118 =>
 p.store 1 t118 t117 H fun H =>
 p.load true 25 t3 H fun t119 =>
 p.store 25 t2 t119 H fun H =>
 p.load true 25 t2 H fun r0 =>
 k r0 H)
 (p.load true 25 t3 H fun t119 =>
 p.store 25 t2 t119 H fun H =>
 p.load true 25 t2 H fun r0 =>
 k r0 H))))) fun j2 =>
 p.cond t87
 (j2 t1 t2 t3 t8 t87 H)
 (p.bin .eql t8 (.sc (.int .i64 5)) fun t88 =>
 p.cond t88
 (j2 t1 t2 t3 t8 t88 H)
 (p.bin .eql t8 (.sc (.int .i64 6)) fun t89 =>
 p.cond t89
 (j2 t1 t2 t3 t8 t89 H)
 (p.bin .eql t8 (.sc (.int .i64 7)) fun t90 =>
 p.cond t90
 (j2 t1 t2 t3 t8 t90 H)
 (p.bin .eql t8 (.sc (.int .i64 11)) fun t91 =>
 j2 t1 t2 t3 t8 t91 H)))))))
theorem Zi : Iy AeN @f222 := fun p n a0 H k => by kernel_rfl
noncomputable def Js (p : Pr β) (n : Nat)  (k : KO β) : Nat → AV → AV → KO β
 | 0, _, _, _, _ => none
 | m + 1, t0, t3, t4, H => p.len t3 fun t9 =>
   p.bin .lss t4 t9 fun t10 =>
   p.cond t10
   (p.iadr 1 t3 t4 fun t15 =>
   p.load false 1 t15 H fun t16 =>
   p.call 4 (.fn 273 [] []) [t16, (.sc (.int .u8 43))] H fun t17 H =>
   p.guard t17 true H (fun k' => k' t3 H) fun t19 H =>
   p.guard t17 true H (fun k' => k' t4 H) fun t20 H =>
   p.guard t17 true H (fun k' => p.iadr 1 t19 t20 fun t' => k' t' H) fun t21 H =>
   p.guard t17 true H (fun k' => p.load false 1 t21 H fun t' => k' t' H) fun t22 H =>
   p.guard t17 true H (fun k' => p.bin .neq t22 (.sc (.string ⟨#[43]⟩)) fun t' => k' t' H) fun t23 H =>
   p.pick t17 t23 (.sc (.bool false)) fun t24 =>
   p.guard t24 false H (fun k' => k' t3 H) fun t26 H =>
   p.guard t24 false H (fun k' => k' t4 H) fun t27 H =>
   p.guard t24 false H (fun k' => p.iadr 1 t26 t27 fun t' => k' t' H) fun t28 H =>
   p.guard t24 false H (fun k' => p.load false 1 t28 H fun t' => k' t' H) fun t29 H =>
   p.guard t24 false H (fun k' => p.call 4 (.fn 273 [] []) [t29, (.sc (.int .u8 35))] H fun t' H => k' t' H) fun t30 H =>
   p.guard t24 false H (fun k' => k' t30 H) fun t31 H =>
   p.guard t31 true H (fun k' => k' t3 H) fun t32 H =>
   p.guard t31 true H (fun k' => k' t4 H) fun t33 H =>
   p.guard t31 true H (fun k' => p.iadr 1 t32 t33 fun t' => k' t' H) fun t34 H =>
   p.guard t31 true H (fun k' => p.load false 1 t34 H fun t' => k' t' H) fun t35 H =>
   p.guard t31 true H (fun k' => p.bin .neq t35 (.sc (.string ⟨#[35]⟩)) fun t' => k' t' H) fun t36 H =>
   p.guard t31 true H (fun k' => k' t36 H) fun t37 H =>
   p.guard t37 false H (fun k' => k' t4 H) fun t38 H =>
   p.guard t37 false H (fun k' => k' t3 H) fun t39 H =>
   p.guard t37 false H (fun k' => p.len t39 fun t' => k' t' H) fun t40 H =>
   p.guard t37 false H (fun k' => p.bin .sub t40 (.sc (.int .i64 1)) fun t' => k' t' H) fun t41 H =>
   p.guard t37 false H (fun k' => p.bin .lss t38 t41 fun t' => k' t' H) fun t42 H =>
   p.guard t31 true H (fun k' => p.pick t37 (.sc (.bool true)) t42 fun t' => k' t' H) fun t43 H =>
   p.guard t24 false H (fun k' => p.pick t31 t43 (.sc (.bool false)) fun t' => k' t' H) fun t44 H =>
   p.pick t24 (.sc (.bool true)) t44 fun t45 =>
   p.cond t45
   (k (.sc (.bool false)) H)
   (p.bin .add t4 (.sc (.int .i64 1)) fun t12 =>
   Js p n  k m t0 t3 t12 H))
   (p.call 4 (.fn 137 [] []) [t0] H fun t47 H =>
   p.guard t47 true H (fun k' => k' t0 H) fun t49 H =>
   p.guard t47 true H (fun k' => p.bin .neq t49 (.sc (.string ⟨#[]⟩)) fun t' => k' t' H) fun t50 H =>
   p.pick t47 t50 (.sc (.bool false)) fun t51 =>
   p.guard t51 true H (fun k' => k' t3 H) fun t53 H =>
   p.guard t51 true H (fun k' => p.len t53 fun t' => k' t' H) fun t54 H =>
   p.guard t51 true H (fun k' => p.bin .leq t54 (.sc (.int .i64 6)) fun t' => k' t' H) fun t55 H =>
   p.pick t51 t55 (.sc (.bool false)) fun t56 =>
   k t56 H)
noncomputable def f224 (p : Pr β) (n : Nat) (a0 : AV) (H : Af) (k : KO β) : Option β :=
 p.call 33 (.fn 274 [] []) [a0] H fun t6 H =>
 Js p n  k n a0 t6 (.sc (.int .i64 0)) H
noncomputable def W8 (p : Pr β) (n : Nat)  (k : KO β) (m : Nat) (tm : Tm) (H : Af) : Option β :=
 Cx 57 (fun tm H k => Ak As p [] 57 n (cd Aft [1, 1, 0, 1, 0, 0]) tm H k) (Dy 0 (Dj (fun tm H => Ak As p [] 57 n (cd Aft [1, 1, 1]) tm H (Cc As p fi224.results k)) (Cc As p fi224.results k))) m tm H
theorem Vi (p : Pr β) (n : Nat)  (k : KO β) (m0 : Nat) : ∀ (t : Nat → AV) (H : Af), W8 p n  k m0 (tf 57 0 t) H = Js p n  k m0 (t 0) (t 3) (t 4) H := by
 induction m0 with
 | zero => intros; rfl
 | succ m0 ih =>
  intro t H
  refine Eq.trans (Bp (nt := 57) (m := m0) (g := fun t H => Js p n  k m0 (t 0) (t 3) (t 4) H) ih rfl) ?_
  kernel_rfl
theorem AaL (p : Pr β) (n : Nat) (a0 : AV) (H : Af) (k : KO β) : B3 As p n fi224 [a0] H k =
 p.call 33 (.fn 274 [] []) [a0] H fun t6 H =>
 W8 p n  k n (tf 57 0 (ud [(0, a0), (2, (.sc (.bool false))), (3, t6), (4, (.sc (.int .i64 0))), (5, a0), (6, t6)] ut)) H := by kernel_rfl
theorem Zk : Iy fi224 @f224 := fun p n a0 H k => by
 rw [AaL]
 simp only [Vi]
 kernel_rfl
noncomputable def Gm (p : Pr β) (n : Nat)  (k : KO β) : Nat → AV → AV → KO β
 | 0, _, _, _, _ => none
 | m + 1, t1, t3, t4, H => p.fadr 22 t1 fun t105 =>
   p.load false 1 t105 H fun t106 =>
   p.len t106 fun t107 =>
   p.bin .lss t4 t107 fun t108 =>
   p.cond t108
   (p.fadr 22 t1 fun t111 =>
   p.load false 1 t111 H fun t112 =>
   p.iadr 2 t112 t4 fun t114 =>
   p.fadr 0 t114 fun t115 =>
   p.load false 1 t115 H fun t116 =>
   p.call 4 (.fn 224 [] []) [t116] H fun t117 H =>
   p.un .not t117 fun t118 =>
   p.guard t118 false H (fun k' => p.fadr 22 t1 fun t' => k' t' H) fun t120 H =>
   p.guard t118 false H (fun k' => p.load false 1 t120 H fun t' => k' t' H) fun t121 H =>
   p.guard t118 false H (fun k' => k' t4 H) fun t122 H =>
   p.guard t118 false H (fun k' => p.iadr 2 t121 t122 fun t' => k' t' H) fun t123 H =>
   p.guard t118 false H (fun k' => p.fadr 1 t123 fun t' => k' t' H) fun t124 H =>
   p.guard t118 false H (fun k' => p.load false 1 t124 H fun t' => k' t' H) fun t125 H =>
   p.guard t118 false H (fun k' => p.call 4 (.fn 187 [] []) [t125, (.sc (.int .i64 0)), (.sc (.int .i64 2))] H fun t' H => k' t' H) fun t126 H =>
   p.guard t118 false H (fun k' => p.un .not t126 fun t' => k' t' H) fun t127 H =>
   p.pick t118 (.sc (.bool true)) t127 fun t128 =>
   p.cond t128
   (k (.sc (.bool false)) H)
   (p.bin .add t4 (.sc (.int .i64 1)) fun t110 =>
   Gm p n  k m t1 t3 t110 H))
   (p.guard t3 true H (fun k' => p.fadr 22 t1 fun t' => k' t' H) fun t131 H =>
   p.guard t3 true H (fun k' => p.load false 1 t131 H fun t' => k' t' H) fun t132 H =>
   p.guard t3 true H (fun k' => p.len t132 fun t' => k' t' H) fun t133 H =>
   p.guard t3 true H (fun k' => p.call 4 (.fn 187 [] []) [t133, (.sc (.int .i64 1)), (.sc (.int .i64 4))] H fun t' H => k' t' H) fun t134 H =>
   p.pick t3 t134 (.sc (.bool false)) fun t135 =>
   k t135 H)
noncomputable def Gn (p : Pr β) (n : Nat)  (k : KO β) : Nat → AV → AV → KO β
 | 0, _, _, _, _ => none
 | m + 1, t1, t3, t5, H => p.fadr 24 t1 fun t139 =>
   p.load false 1 t139 H fun t140 =>
   p.len t140 fun t141 =>
   p.bin .lss t5 t141 fun t142 =>
   p.cond t142
   (p.fadr 24 t1 fun t145 =>
   p.load false 1 t145 H fun t146 =>
   p.iadr 1 t146 t5 fun t148 =>
   p.load false 1 t148 H fun t149 =>
   p.call 4 (.fn 187 [] []) [t149, (.sc (.int .i64 0)), (.sc (.int .i64 2))] H fun t150 H =>
   p.un .not t150 fun t151 =>
   p.guard t151 true H (fun k' => p.fadr 24 t1 fun t' => k' t' H) fun t153 H =>
   p.guard t151 true H (fun k' => p.load false 1 t153 H fun t' => k' t' H) fun t154 H =>
   p.guard t151 true H (fun k' => k' t5 H) fun t155 H =>
   p.guard t151 true H (fun k' => p.iadr 1 t154 t155 fun t' => k' t' H) fun t156 H =>
   p.guard t151 true H (fun k' => p.load false 1 t156 H fun t' => k' t' H) fun t157 H =>
   p.guard t151 true H (fun k' => p.bin .neq t157 (.sc (.int .i64 128)) fun t' => k' t' H) fun t158 H =>
   p.pick t151 t158 (.sc (.bool false)) fun t159 =>
   p.cond t159
   (k (.sc (.bool false)) H)
   (p.bin .add t5 (.sc (.int .i64 1)) fun t144 =>
   Gn p n  k m t1 t3 t144 H))
   (p.guard t3 true H (fun k' => p.fadr 24 t1 fun t' => k' t' H) fun t162 H =>
   p.guard t3 true H (fun k' => p.load false 1 t162 H fun t' => k' t' H) fun t163 H =>
   p.guard t3 true H (fun k' => p.len t163 fun t' => k' t' H) fun t164 H =>
   p.guard t3 true H (fun k' => p.call 4 (.fn 187 [] []) [t164, (.sc (.int .i64 1)), (.sc (.int .i64 4))] H fun t' H => k' t' H) fun t165 H =>
   p.pick t3 t165 (.sc (.bool false)) fun t166 =>
   k t166 H)
noncomputable def Gp (p : Pr β) (n : Nat)  (k : KO β) : Nat → AV → AV → KO β
 | 0, _, _, _, _ => none
 | m + 1, t1, t3, t6, H => p.fadr 23 t1 fun t170 =>
   p.load false 1 t170 H fun t171 =>
   p.len t171 fun t172 =>
   p.bin .lss t6 t172 fun t173 =>
   p.cond t173
   (p.fadr 23 t1 fun t176 =>
   p.load false 1 t176 H fun t177 =>
   p.iadr 1 t177 t6 fun t179 =>
   p.load false 1 t179 H fun t180 =>
   p.call 4 (.fn 224 [] []) [t180] H fun t181 H =>
   p.un .not t181 fun t182 =>
   p.cond t182
   (k (.sc (.bool false)) H)
   (p.bin .add t6 (.sc (.int .i64 1)) fun t175 =>
   Gp p n  k m t1 t3 t175 H))
   (p.guard t3 true H (fun k' => p.fadr 23 t1 fun t' => k' t' H) fun t185 H =>
   p.guard t3 true H (fun k' => p.load false 1 t185 H fun t' => k' t' H) fun t186 H =>
   p.guard t3 true H (fun k' => p.len t186 fun t' => k' t' H) fun t187 H =>
   p.guard t3 true H (fun k' => p.call 4 (.fn 187 [] []) [t187, (.sc (.int .i64 1)), (.sc (.int .i64 4))] H fun t' H => k' t' H) fun t188 H =>
   p.pick t3 t188 (.sc (.bool false)) fun t189 =>
   k t189 H)
noncomputable def f124 (p : Pr β) (n : Nat) (a0 : AV) (H : Af) (k : KO β) : Option β :=
 p.box a0 H fun t1 H =>
 p.fadr 0 t1 fun t7 =>
 p.load false 1 t7 H fun t8 =>
 p.call 4 (.fn 187 [] []) [t8, (.sc (.int .i64 1)), (.sc (.int .i64 14))] H fun t9 H =>
 p.un .not t9 fun t10 =>
 p.guard t10 false H (fun k' => p.load true 25 t1 H fun t' => k' t' H) fun t13 H =>
 p.both
 (p.guard t10 false H (fun k' => p.load true 25 t1 H fun t' => k' t' H) fun t12 H =>
 p.guard t10 false H (fun k' => p.call 36 (.fn 222 [] []) [t13] H fun t' H => k' t' H) fun t14 H =>
 p.guard t10 false H (fun k' => p.call 4 (.fn 141 [] []) [t12, t14] H fun t' H => k' t' H) fun t15 H =>
 p.guard t10 false H (fun k' => p.un .not t15 fun t' => k' t' H) fun t16 H =>
 p.pick t10 (.sc (.bool true)) t16 fun t17 =>
 p.cond t17
 (k (.sc (.bool false)) H)
 (p.fadr 4 t1 fun t18 =>
 p.load false 1 t18 H fun t19 =>
 p.call 4 (.fn 187 [] []) [t19, (.sc (.int .i64 1)), (.sc (.int .i64 65535))] H fun t20 H =>
 p.fadr 0 t1 fun t21 =>
 p.load false 1 t21 H fun t22 =>
 p.bin .eql t22 (.sc (.int .i64 1)) fun t24 =>
 p.cond t24
 (p.fadr 11 t1 fun t25 =>
 p.load false 1 t25 H fun t26 =>
 p.guard t26 true H (fun k' => p.fadr 12 t1 fun t' => k' t' H) fun t28 H =>
 p.guard t26 true H (fun k' => p.load false 1 t28 H fun t' => k' t' H) fun t29 H =>
 p.guard t26 true H (fun k' => p.call 4 (.fn 223 [] []) [t29] H fun t' H => k' t' H) fun t30 H =>
 p.guard t26 true H (fun k' => p.un .not t30 fun t' => k' t' H) fun t31 H =>
 p.guard t26 true H (fun k' => k' t31 H) fun t32 H =>
 p.guard t32 false H (fun k' => p.fadr 13 t1 fun t' => k' t' H) fun t33 H =>
 p.guard t32 false H (fun k' => p.load false 1 t33 H fun t' => k' t' H) fun t34 H =>
 p.guard t32 false H (fun k' => p.len t34 fun t' => k' t' H) fun t35 H =>
 p.guard t32 false H (fun k' => p.bin .gtr t35 (.sc (.int .i64 40)) fun t' => k' t' H) fun t36 H =>
 p.guard t26 true H (fun k' => p.pick t32 (.sc (.bool true)) t36 fun t' => k' t' H) fun t37 H =>
 p.guard t26 true H (fun k' => k' t37 H) fun t38 H =>
 p.guard t38 false H (fun k' => p.fadr 14 t1 fun t' => k' t' H) fun t39 H =>
 p.guard t38 false H (fun k' => p.load false 1 t39 H fun t' => k' t' H) fun t40 H =>
 p.guard t38 false H (fun k' => p.call 4 (.fn 187 [] []) [t40, (.sc (.int .i64 0)), (.sc (.int .i64 2))] H fun t' H => k' t' H) fun t41 H =>
 p.guard t38 false H (fun k' => p.un .not t41 fun t' => k' t' H) fun t42 H =>
 p.guard t26 true H (fun k' => p.pick t38 (.sc (.bool true)) t42 fun t' => k' t' H) fun t43 H =>
 p.pick t26 t43 (.sc (.bool false)) fun t44 =>
 p.cond t44
 (k (.sc (.bool false)) H)
 (p.fadr 8 t1 fun t45 =>
 p.load false 1 t45 H fun t46 =>
 p.call 4 (.fn 187 [] []) [t46, (.sc (.int .i64 0)), (.sc (.int .i64 255))] H fun t47 H =>
 p.guard t47 true H (fun k' => p.fadr 7 t1 fun t' => k' t' H) fun t49 H =>
 p.guard t47 true H (fun k' => p.load false 1 t49 H fun t' => k' t' H) fun t50 H =>
 p.guard t47 true H (fun k' => p.call 4 (.fn 137 [] []) [t50] H fun t' H => k' t' H) fun t51 H =>
 p.pick t47 t51 (.sc (.bool false)) fun t52 =>
 p.guard t52 true H (fun k' => p.fadr 10 t1 fun t' => k' t' H) fun t54 H =>
 p.guard t52 true H (fun k' => p.load false 1 t54 H fun t' => k' t' H) fun t55 H =>
 p.guard t52 true H (fun k' => p.call 4 (.fn 187 [] []) [t55, (.sc (.int .i64 0)), (.sc (.int .i64 65535))] H fun t' H => k' t' H) fun t56 H =>
 p.pick t52 t56 (.sc (.bool false)) fun t57 =>
 p.guard t57 true H (fun k' => p.fadr 17 t1 fun t' => k' t' H) fun t59 H =>
 p.guard t57 true H (fun k' => p.load false 1 t59 H fun t' => k' t' H) fun t60 H =>
 p.guard t57 true H (fun k' => p.call 4 (.fn 137 [] []) [t60] H fun t' H => k' t' H) fun t61 H =>
 p.pick t57 t61 (.sc (.bool false)) fun t62 =>
 p.guard t62 true H (fun k' => p.fadr 19 t1 fun t' => k' t' H) fun t64 H =>
 p.guard t62 true H (fun k' => p.load false 1 t64 H fun t' => k' t' H) fun t65 H =>
 p.guard t62 true H (fun k' => p.len t65 fun t' => k' t' H) fun t66 H =>
 p.guard t62 true H (fun k' => p.bin .leq t66 (.sc (.int .i64 60)) fun t' => k' t' H) fun t67 H =>
 p.pick t62 t67 (.sc (.bool false)) fun t68 =>
 k t68 H))
 (p.bin .eql t22 (.sc (.int .i64 2)) fun t70 =>
 p.cond t70
 (p.fadr 20 t1 fun t71 =>
 p.load false 1 t71 H fun t72 =>
 p.call 4 (.fn 187 [] []) [t72, (.sc (.int .i64 0)), (.sc (.int .i64 5))] H fun t73 H =>
 k t73 H)
 (p.bin .eql t22 (.sc (.int .i64 3)) fun t75 =>
 p.cond t75
 (p.fadr 2 t1 fun t76 =>
 p.load false 1 t76 H fun t77 =>
 p.call 4 (.fn 187 [] []) [t77, (.sc (.int .i64 0)), (.sc (.int .i64 2))] H fun t78 H =>
 p.guard t78 true H (fun k' => p.fadr 2 t1 fun t' => k' t' H) fun t80 H =>
 p.guard t78 true H (fun k' => p.load false 1 t80 H fun t' => k' t' H) fun t81 H =>
 p.guard t78 true H (fun k' => p.bin .eql t81 (.sc (.int .i64 0)) fun t' => k' t' H) fun t82 H =>
 p.guard t78 true H (fun k' => k' t82 H) fun t83 H =>
 p.guard t83 false H (fun k' => k' t20 H) fun t84 H =>
 p.guard t78 true H (fun k' => p.pick t83 (.sc (.bool true)) t84 fun t' => k' t' H) fun t85 H =>
 p.pick t78 t85 (.sc (.bool false)) fun t86 =>
 p.guard t86 true H (fun k' => p.fadr 5 t1 fun t' => k' t' H) fun t88 H =>
 p.guard t86 true H (fun k' => p.load false 1 t88 H fun t' => k' t' H) fun t89 H =>
 p.guard t86 true H (fun k' => p.call 4 (.fn 223 [] []) [t89] H fun t' H => k' t' H) fun t90 H =>
 p.pick t86 t90 (.sc (.bool false)) fun t91 =>
 p.guard t91 true H (fun k' => p.fadr 6 t1 fun t' => k' t' H) fun t93 H =>
 p.guard t91 true H (fun k' => p.load false 1 t93 H fun t' => k' t' H) fun t94 H =>
 p.guard t91 true H (fun k' => p.len t94 fun t' => k' t' H) fun t95 H =>
 p.guard t91 true H (fun k' => p.bin .leq t95 (.sc (.int .i64 40)) fun t' => k' t' H) fun t96 H =>
 p.pick t91 t96 (.sc (.bool false)) fun t97 =>
 k t97 H)
 (p.bin .eql t22 (.sc (.int .i64 12)) fun t99 =>
 Kj (fun (t1 t3 t22 t98 : AV) (H : Af) => p.cond t98
 (k (.sc (.bool true)) H)
 (p.bin .eql t22 (.sc (.int .i64 8)) fun t103 =>
 p.cond t103
 (Gm p n  k n t1 t3 (.sc (.int .i64 0)) H)
 (p.bin .eql t22 (.sc (.int .i64 9)) fun t137 =>
 p.cond t137
 (Gn p n  k n t1 t3 (.sc (.int .i64 0)) H)
 (p.bin .eql t22 (.sc (.int .i64 10)) fun t168 =>
 p.cond t168
 (Gp p n  k n t1 t3 (.sc (.int .i64 0)) H)
 (k t3 H))))) fun j1 =>
 p.cond t99
 (j1 t1 t20 t22 t99 H)
 (p.bin .eql t22 (.sc (.int .i64 13)) fun t100 =>
 p.cond t100
 (j1 t1 t20 t22 t100 H)
 (p.bin .eql t22 (.sc (.int .i64 14)) fun t101 =>
 j1 t1 t20 t22 t101 H)))))))
 (p.guard t10 false H (fun k' => p.call 36 (.fn 222 [] []) [t13] H fun t' H => k' t' H) fun t14 H =>
 p.guard t10 false H (fun k' => p.load true 25 t1 H fun t' => k' t' H) fun t12 H =>
 p.guard t10 false H (fun k' => p.call 4 (.fn 141 [] []) [t12, t14] H fun t' H => k' t' H) fun t15 H =>
 p.guard t10 false H (fun k' => p.un .not t15 fun t' => k' t' H) fun t16 H =>
 p.pick t10 (.sc (.bool true)) t16 fun t17 =>
 p.cond t17
 (k (.sc (.bool false)) H)
 (p.fadr 4 t1 fun t18 =>
 p.load false 1 t18 H fun t19 =>
 p.call 4 (.fn 187 [] []) [t19, (.sc (.int .i64 1)), (.sc (.int .i64 65535))] H fun t20 H =>
 p.fadr 0 t1 fun t21 =>
 p.load false 1 t21 H fun t22 =>
 p.bin .eql t22 (.sc (.int .i64 1)) fun t24 =>
 p.cond t24
 (p.fadr 11 t1 fun t25 =>
 p.load false 1 t25 H fun t26 =>
 p.guard t26 true H (fun k' => p.fadr 12 t1 fun t' => k' t' H) fun t28 H =>
 p.guard t26 true H (fun k' => p.load false 1 t28 H fun t' => k' t' H) fun t29 H =>
 p.guard t26 true H (fun k' => p.call 4 (.fn 223 [] []) [t29] H fun t' H => k' t' H) fun t30 H =>
 p.guard t26 true H (fun k' => p.un .not t30 fun t' => k' t' H) fun t31 H =>
 p.guard t26 true H (fun k' => k' t31 H) fun t32 H =>
 p.guard t32 false H (fun k' => p.fadr 13 t1 fun t' => k' t' H) fun t33 H =>
 p.guard t32 false H (fun k' => p.load false 1 t33 H fun t' => k' t' H) fun t34 H =>
 p.guard t32 false H (fun k' => p.len t34 fun t' => k' t' H) fun t35 H =>
 p.guard t32 false H (fun k' => p.bin .gtr t35 (.sc (.int .i64 40)) fun t' => k' t' H) fun t36 H =>
 p.guard t26 true H (fun k' => p.pick t32 (.sc (.bool true)) t36 fun t' => k' t' H) fun t37 H =>
 p.guard t26 true H (fun k' => k' t37 H) fun t38 H =>
 p.guard t38 false H (fun k' => p.fadr 14 t1 fun t' => k' t' H) fun t39 H =>
 p.guard t38 false H (fun k' => p.load false 1 t39 H fun t' => k' t' H) fun t40 H =>
 p.guard t38 false H (fun k' => p.call 4 (.fn 187 [] []) [t40, (.sc (.int .i64 0)), (.sc (.int .i64 2))] H fun t' H => k' t' H) fun t41 H =>
 p.guard t38 false H (fun k' => p.un .not t41 fun t' => k' t' H) fun t42 H =>
 p.guard t26 true H (fun k' => p.pick t38 (.sc (.bool true)) t42 fun t' => k' t' H) fun t43 H =>
 p.pick t26 t43 (.sc (.bool false)) fun t44 =>
 p.cond t44
 (k (.sc (.bool false)) H)
 (p.fadr 8 t1 fun t45 =>
 p.load false 1 t45 H fun t46 =>
 p.call 4 (.fn 187 [] []) [t46, (.sc (.int .i64 0)), (.sc (.int .i64 255))] H fun t47 H =>
 p.guard t47 true H (fun k' => p.fadr 7 t1 fun t' => k' t' H) fun t49 H =>
 p.guard t47 true H (fun k' => p.load false 1 t49 H fun t' => k' t' H) fun t50 H =>
 p.guard t47 true H (fun k' => p.call 4 (.fn 137 [] []) [t50] H fun t' H => k' t' H) fun t51 H =>
 p.pick t47 t51 (.sc (.bool false)) fun t52 =>
 p.guard t52 true H (fun k' => p.fadr 10 t1 fun t' => k' t' H) fun t54 H =>
 p.guard t52 true H (fun k' => p.load false 1 t54 H fun t' => k' t' H) fun t55 H =>
 p.guard t52 true H (fun k' => p.call 4 (.fn 187 [] []) [t55, (.sc (.int .i64 0)), (.sc (.int .i64 65535))] H fun t' H => k' t' H) fun t56 H =>
 p.pick t52 t56 (.sc (.bool false)) fun t57 =>
 p.guard t57 true H (fun k' => p.fadr 17 t1 fun t' => k' t' H) fun t59 H =>
 p.guard t57 true H (fun k' => p.load false 1 t59 H fun t' => k' t' H) fun t60 H =>
 p.guard t57 true H (fun k' => p.call 4 (.fn 137 [] []) [t60] H fun t' H => k' t' H) fun t61 H =>
 p.pick t57 t61 (.sc (.bool false)) fun t62 =>
 p.guard t62 true H (fun k' => p.fadr 19 t1 fun t' => k' t' H) fun t64 H =>
 p.guard t62 true H (fun k' => p.load false 1 t64 H fun t' => k' t' H) fun t65 H =>
 p.guard t62 true H (fun k' => p.len t65 fun t' => k' t' H) fun t66 H =>
 p.guard t62 true H (fun k' => p.bin .leq t66 (.sc (.int .i64 60)) fun t' => k' t' H) fun t67 H =>
 p.pick t62 t67 (.sc (.bool false)) fun t68 =>
 k t68 H))
 (p.bin .eql t22 (.sc (.int .i64 2)) fun t70 =>
 p.cond t70
 (p.fadr 20 t1 fun t71 =>
 p.load false 1 t71 H fun t72 =>
 p.call 4 (.fn 187 [] []) [t72, (.sc (.int .i64 0)), (.sc (.int .i64 5))] H fun t73 H =>
 k t73 H)
 (p.bin .eql t22 (.sc (.int .i64 3)) fun t75 =>
 p.cond t75
 (p.fadr 2 t1 fun t76 =>
 p.load false 1 t76 H fun t77 =>
 p.call 4 (.fn 187 [] []) [t77, (.sc (.int .i64 0)), (.sc (.int .i64 2))] H fun t78 H =>
 p.guard t78 true H (fun k' => p.fadr 2 t1 fun t' => k' t' H) fun t80 H =>
 p.guard t78 true H (fun k' => p.load false 1 t80 H fun t' => k' t' H) fun t81 H =>
 p.guard t78 true H (fun k' => p.bin .eql t81 (.sc (.int .i64 0)) fun t' => k' t' H) fun t82 H =>
 p.guard t78 true H (fun k' => k' t82 H) fun t83 H =>
 p.guard t83 false H (fun k' => k' t20 H) fun t84 H =>
 p.guard t78 true H (fun k' => p.pick t83 (.sc (.bool true)) t84 fun t' => k' t' H) fun t85 H =>
 p.pick t78 t85 (.sc (.bool false)) fun t86 =>
 p.guard t86 true H (fun k' => p.fadr 5 t1 fun t' => k' t' H) fun t88 H =>
 p.guard t86 true H (fun k' => p.load false 1 t88 H fun t' => k' t' H) fun t89 H =>
 p.guard t86 true H (fun k' => p.call 4 (.fn 223 [] []) [t89] H fun t' H => k' t' H) fun t90 H =>
 p.pick t86 t90 (.sc (.bool false)) fun t91 =>
 p.guard t91 true H (fun k' => p.fadr 6 t1 fun t' => k' t' H) fun t93 H =>
 p.guard t91 true H (fun k' => p.load false 1 t93 H fun t' => k' t' H) fun t94 H =>
 p.guard t91 true H (fun k' => p.len t94 fun t' => k' t' H) fun t95 H =>
 p.guard t91 true H (fun k' => p.bin .leq t95 (.sc (.int .i64 40)) fun t' => k' t' H) fun t96 H =>
 p.pick t91 t96 (.sc (.bool false)) fun t97 =>
 k t97 H)
 (p.bin .eql t22 (.sc (.int .i64 12)) fun t99 =>
 Kj (fun (t1 t3 t22 t98 : AV) (H : Af) => p.cond t98
 (k (.sc (.bool true)) H)
 (p.bin .eql t22 (.sc (.int .i64 8)) fun t103 =>
 p.cond t103
 (Gm p n  k n t1 t3 (.sc (.int .i64 0)) H)
 (p.bin .eql t22 (.sc (.int .i64 9)) fun t137 =>
 p.cond t137
 (Gn p n  k n t1 t3 (.sc (.int .i64 0)) H)
 (p.bin .eql t22 (.sc (.int .i64 10)) fun t168 =>
 p.cond t168
 (Gp p n  k n t1 t3 (.sc (.int .i64 0)) H)
 (k t3 H))))) fun j2 =>
 p.cond t99
 (j2 t1 t20 t22 t99 H)
 (p.bin .eql t22 (.sc (.int .i64 13)) fun t100 =>
 p.cond t100
 (j2 t1 t20 t22 t100 H)
 (p.bin .eql t22 (.sc (.int .i64 14)) fun t101 =>
 j2 t1 t20 t22 t101 H)))))))
noncomputable def Sb (p : Pr β) (n : Nat)  (k : KO β) (m : Nat) (tm : Tm) (H : Af) : Option β :=
 Cx 191 (fun tm H k => Ak As p Nh 191 n (cd Nb [1, 1, 1, 0, 1, 0, 1, 2, 1, 2, 1, 2, 1, 2, 1, 1, 0, 1, 0, 0]) tm H k) (Dy 1 (Dj (fun tm H => Ak As p Nh 191 n (cd Nb [1, 1, 1, 0, 1, 0, 1, 2, 1, 2, 1, 2, 1, 2, 1, 1, 1]) tm H (Dy 0 (Dj (fun tm H => Ak As p Nh 191 n (cd Nb [1, 1, 1, 1]) tm H (Cc As p fi124.results k)) (Cc As p fi124.results k)))) (Dy 0 (Dj (fun tm H => Ak As p Nh 191 n (cd Nb [1, 1, 1, 1]) tm H (Cc As p fi124.results k)) (Cc As p fi124.results k))))) m tm H
noncomputable def Sc (p : Pr β) (n : Nat)  (k : KO β) (m : Nat) (tm : Tm) (H : Af) : Option β :=
 Cx 191 (fun tm H k => Ak As p Nh 191 n (cd Nb [1, 1, 1, 0, 1, 0, 1, 2, 1, 2, 1, 2, 1, 2, 1, 2, 1, 1, 0, 1, 0, 0]) tm H k) (Dy 3 (Dj (fun tm H => Ak As p Nh 191 n (cd Nb [1, 1, 1, 0, 1, 0, 1, 2, 1, 2, 1, 2, 1, 2, 1, 2, 1, 1, 1]) tm H (Dy 0 (Dj (fun tm H => Ak As p Nh 191 n (cd Nb [1, 1, 1, 1]) tm H (Cc As p fi124.results k)) (Cc As p fi124.results k)))) (Dy 0 (Dj (fun tm H => Ak As p Nh 191 n (cd Nb [1, 1, 1, 1]) tm H (Cc As p fi124.results k)) (Cc As p fi124.results k))))) m tm H
noncomputable def Sd (p : Pr β) (n : Nat)  (k : KO β) (m : Nat) (tm : Tm) (H : Af) : Option β :=
 Cx 191 (fun tm H k => Ak As p Nh 191 n (cd Nb [1, 1, 1, 0, 1, 0, 1, 2, 1, 2, 1, 2, 1, 2, 1, 2, 1, 2, 1, 1, 0, 1, 0, 0]) tm H k) (Dy 5 (Dj (fun tm H => Ak As p Nh 191 n (cd Nb [1, 1, 1, 0, 1, 0, 1, 2, 1, 2, 1, 2, 1, 2, 1, 2, 1, 2, 1, 1, 1]) tm H (Dy 0 (Dj (fun tm H => Ak As p Nh 191 n (cd Nb [1, 1, 1, 1]) tm H (Cc As p fi124.results k)) (Cc As p fi124.results k)))) (Dy 0 (Dj (fun tm H => Ak As p Nh 191 n (cd Nb [1, 1, 1, 1]) tm H (Cc As p fi124.results k)) (Cc As p fi124.results k))))) m tm H
theorem U3 (p : Pr β) (n : Nat)  (k : KO β) (m0 : Nat) : ∀ (t : Nat → AV) (H : Af), Sb p n  k m0 (tf 191 0 t) H = Gm p n  k m0 (t 1) (t 3) (t 4) H := by
 induction m0 with
 | zero => intros; rfl
 | succ m0 ih =>
  intro t H
  refine Eq.trans (Bp (nt := 191) (m := m0) (g := fun t H => Gm p n  k m0 (t 1) (t 3) (t 4) H) ih rfl) ?_
  kernel_rfl
theorem U4 (p : Pr β) (n : Nat)  (k : KO β) (m1 : Nat) : ∀ (t : Nat → AV) (H : Af), Sc p n  k m1 (tf 191 0 t) H = Gn p n  k m1 (t 1) (t 3) (t 5) H := by
 induction m1 with
 | zero => intros; rfl
 | succ m1 ih =>
  intro t H
  refine Eq.trans (Bp (nt := 191) (m := m1) (g := fun t H => Gn p n  k m1 (t 1) (t 3) (t 5) H) ih rfl) ?_
  kernel_rfl
theorem U5 (p : Pr β) (n : Nat)  (k : KO β) (m2 : Nat) : ∀ (t : Nat → AV) (H : Af), Sd p n  k m2 (tf 191 0 t) H = Gp p n  k m2 (t 1) (t 3) (t 6) H := by
 induction m2 with
 | zero => intros; rfl
 | succ m2 ih =>
  intro t H
  refine Eq.trans (Bp (nt := 191) (m := m2) (g := fun t H => Gp p n  k m2 (t 1) (t 3) (t 6) H) ih rfl) ?_
  kernel_rfl
theorem Aa7 (p : Pr β) (n : Nat) (a0 : AV) (H : Af) (k : KO β) : B3 As p n fi124 [a0] H k =
 p.box a0 H fun t1 H =>
 p.fadr 0 t1 fun t7 =>
 p.load false 1 t7 H fun t8 =>
 p.call 4 (.fn 187 [] []) [t8, (.sc (.int .i64 1)), (.sc (.int .i64 14))] H fun t9 H =>
 p.un .not t9 fun t10 =>
 p.guard t10 false H (fun k' => p.load true 25 t1 H fun t' => k' t' H) fun t13 H =>
 p.both
 (p.guard t10 false H (fun k' => p.load true 25 t1 H fun t' => k' t' H) fun t12 H =>
 p.guard t10 false H (fun k' => p.call 36 (.fn 222 [] []) [t13] H fun t' H => k' t' H) fun t14 H =>
 p.guard t10 false H (fun k' => p.call 4 (.fn 141 [] []) [t12, t14] H fun t' H => k' t' H) fun t15 H =>
 p.guard t10 false H (fun k' => p.un .not t15 fun t' => k' t' H) fun t16 H =>
 p.pick t10 (.sc (.bool true)) t16 fun t17 =>
 p.cond t17
 (k (.sc (.bool false)) H)
 (p.fadr 4 t1 fun t18 =>
 p.load false 1 t18 H fun t19 =>
 p.call 4 (.fn 187 [] []) [t19, (.sc (.int .i64 1)), (.sc (.int .i64 65535))] H fun t20 H =>
 p.fadr 0 t1 fun t21 =>
 p.load false 1 t21 H fun t22 =>
 p.bin .eql t22 (.sc (.int .i64 1)) fun t24 =>
 p.cond t24
 (p.fadr 11 t1 fun t25 =>
 p.load false 1 t25 H fun t26 =>
 p.guard t26 true H (fun k' => p.fadr 12 t1 fun t' => k' t' H) fun t28 H =>
 p.guard t26 true H (fun k' => p.load false 1 t28 H fun t' => k' t' H) fun t29 H =>
 p.guard t26 true H (fun k' => p.call 4 (.fn 223 [] []) [t29] H fun t' H => k' t' H) fun t30 H =>
 p.guard t26 true H (fun k' => p.un .not t30 fun t' => k' t' H) fun t31 H =>
 p.guard t26 true H (fun k' => k' t31 H) fun t32 H =>
 p.guard t32 false H (fun k' => p.fadr 13 t1 fun t' => k' t' H) fun t33 H =>
 p.guard t32 false H (fun k' => p.load false 1 t33 H fun t' => k' t' H) fun t34 H =>
 p.guard t32 false H (fun k' => p.len t34 fun t' => k' t' H) fun t35 H =>
 p.guard t32 false H (fun k' => p.bin .gtr t35 (.sc (.int .i64 40)) fun t' => k' t' H) fun t36 H =>
 p.guard t26 true H (fun k' => p.pick t32 (.sc (.bool true)) t36 fun t' => k' t' H) fun t37 H =>
 p.guard t26 true H (fun k' => k' t37 H) fun t38 H =>
 p.guard t38 false H (fun k' => p.fadr 14 t1 fun t' => k' t' H) fun t39 H =>
 p.guard t38 false H (fun k' => p.load false 1 t39 H fun t' => k' t' H) fun t40 H =>
 p.guard t38 false H (fun k' => p.call 4 (.fn 187 [] []) [t40, (.sc (.int .i64 0)), (.sc (.int .i64 2))] H fun t' H => k' t' H) fun t41 H =>
 p.guard t38 false H (fun k' => p.un .not t41 fun t' => k' t' H) fun t42 H =>
 p.guard t26 true H (fun k' => p.pick t38 (.sc (.bool true)) t42 fun t' => k' t' H) fun t43 H =>
 p.pick t26 t43 (.sc (.bool false)) fun t44 =>
 p.cond t44
 (k (.sc (.bool false)) H)
 (p.fadr 8 t1 fun t45 =>
 p.load false 1 t45 H fun t46 =>
 p.call 4 (.fn 187 [] []) [t46, (.sc (.int .i64 0)), (.sc (.int .i64 255))] H fun t47 H =>
 p.guard t47 true H (fun k' => p.fadr 7 t1 fun t' => k' t' H) fun t49 H =>
 p.guard t47 true H (fun k' => p.load false 1 t49 H fun t' => k' t' H) fun t50 H =>
 p.guard t47 true H (fun k' => p.call 4 (.fn 137 [] []) [t50] H fun t' H => k' t' H) fun t51 H =>
 p.pick t47 t51 (.sc (.bool false)) fun t52 =>
 p.guard t52 true H (fun k' => p.fadr 10 t1 fun t' => k' t' H) fun t54 H =>
 p.guard t52 true H (fun k' => p.load false 1 t54 H fun t' => k' t' H) fun t55 H =>
 p.guard t52 true H (fun k' => p.call 4 (.fn 187 [] []) [t55, (.sc (.int .i64 0)), (.sc (.int .i64 65535))] H fun t' H => k' t' H) fun t56 H =>
 p.pick t52 t56 (.sc (.bool false)) fun t57 =>
 p.guard t57 true H (fun k' => p.fadr 17 t1 fun t' => k' t' H) fun t59 H =>
 p.guard t57 true H (fun k' => p.load false 1 t59 H fun t' => k' t' H) fun t60 H =>
 p.guard t57 true H (fun k' => p.call 4 (.fn 137 [] []) [t60] H fun t' H => k' t' H) fun t61 H =>
 p.pick t57 t61 (.sc (.bool false)) fun t62 =>
 p.guard t62 true H (fun k' => p.fadr 19 t1 fun t' => k' t' H) fun t64 H =>
 p.guard t62 true H (fun k' => p.load false 1 t64 H fun t' => k' t' H) fun t65 H =>
 p.guard t62 true H (fun k' => p.len t65 fun t' => k' t' H) fun t66 H =>
 p.guard t62 true H (fun k' => p.bin .leq t66 (.sc (.int .i64 60)) fun t' => k' t' H) fun t67 H =>
 p.pick t62 t67 (.sc (.bool false)) fun t68 =>
 k t68 H))
 (p.bin .eql t22 (.sc (.int .i64 2)) fun t70 =>
 p.cond t70
 (p.fadr 20 t1 fun t71 =>
 p.load false 1 t71 H fun t72 =>
 p.call 4 (.fn 187 [] []) [t72, (.sc (.int .i64 0)), (.sc (.int .i64 5))] H fun t73 H =>
 k t73 H)
 (p.bin .eql t22 (.sc (.int .i64 3)) fun t75 =>
 p.cond t75
 (p.fadr 2 t1 fun t76 =>
 p.load false 1 t76 H fun t77 =>
 p.call 4 (.fn 187 [] []) [t77, (.sc (.int .i64 0)), (.sc (.int .i64 2))] H fun t78 H =>
 p.guard t78 true H (fun k' => p.fadr 2 t1 fun t' => k' t' H) fun t80 H =>
 p.guard t78 true H (fun k' => p.load false 1 t80 H fun t' => k' t' H) fun t81 H =>
 p.guard t78 true H (fun k' => p.bin .eql t81 (.sc (.int .i64 0)) fun t' => k' t' H) fun t82 H =>
 p.guard t78 true H (fun k' => k' t82 H) fun t83 H =>
 p.guard t83 false H (fun k' => k' t20 H) fun t84 H =>
 p.guard t78 true H (fun k' => p.pick t83 (.sc (.bool true)) t84 fun t' => k' t' H) fun t85 H =>
 p.pick t78 t85 (.sc (.bool false)) fun t86 =>
 p.guard t86 true H (fun k' => p.fadr 5 t1 fun t' => k' t' H) fun t88 H =>
 p.guard t86 true H (fun k' => p.load false 1 t88 H fun t' => k' t' H) fun t89 H =>
 p.guard t86 true H (fun k' => p.call 4 (.fn 223 [] []) [t89] H fun t' H => k' t' H) fun t90 H =>
 p.pick t86 t90 (.sc (.bool false)) fun t91 =>
 p.guard t91 true H (fun k' => p.fadr 6 t1 fun t' => k' t' H) fun t93 H =>
 p.guard t91 true H (fun k' => p.load false 1 t93 H fun t' => k' t' H) fun t94 H =>
 p.guard t91 true H (fun k' => p.len t94 fun t' => k' t' H) fun t95 H =>
 p.guard t91 true H (fun k' => p.bin .leq t95 (.sc (.int .i64 40)) fun t' => k' t' H) fun t96 H =>
 p.pick t91 t96 (.sc (.bool false)) fun t97 =>
 k t97 H)
 (p.bin .eql t22 (.sc (.int .i64 12)) fun t99 =>
 Kj (fun (t : Nat → AV) (H : Af) => p.cond (t 98)
 (k (.sc (.bool true)) H)
 (p.bin .eql (t 22) (.sc (.int .i64 8)) fun t103 =>
 p.cond t103
 (Sb p n  k n (tf 191 0 (ud [(4, (.sc (.int .i64 0))), (102, t103), (103, t103)] t)) H)
 (p.bin .eql (t 22) (.sc (.int .i64 9)) fun t137 =>
 p.cond t137
 (Sc p n  k n (tf 191 0 (ud [(5, (.sc (.int .i64 0))), (102, t103), (103, t103), (136, t137), (137, t137)] t)) H)
 (p.bin .eql (t 22) (.sc (.int .i64 10)) fun t168 =>
 p.cond t168
 (Sd p n  k n (tf 191 0 (ud [(6, (.sc (.int .i64 0))), (102, t103), (103, t103), (136, t137), (137, t137), (167, t168), (168, t168)] t)) H)
 (k (t 3) H))))) fun j1 =>
 p.cond t99
 (j1 (ud [(0, a0), (1, t1), (2, (.sc (.bool false))), (3, t20), (7, t7), (8, t8), (9, t9), (10, t10), (11, t10), (12, t12), (13, t13), (14, t14), (15, t15), (16, t16), (17, t17), (18, t18), (19, t19), (20, t20), (21, t21), (22, t22), (23, t24), (24, t24), (69, t70), (70, t70), (74, t75), (75, t75), (98, t99), (99, t99)] ut) H)
 (p.bin .eql t22 (.sc (.int .i64 13)) fun t100 =>
 p.cond t100
 (j1 (ud [(0, a0), (1, t1), (2, (.sc (.bool false))), (3, t20), (7, t7), (8, t8), (9, t9), (10, t10), (11, t10), (12, t12), (13, t13), (14, t14), (15, t15), (16, t16), (17, t17), (18, t18), (19, t19), (20, t20), (21, t21), (22, t22), (23, t24), (24, t24), (69, t70), (70, t70), (74, t75), (75, t75), (98, t100), (99, t99), (100, t100)] ut) H)
 (p.bin .eql t22 (.sc (.int .i64 14)) fun t101 =>
 j1 (ud [(0, a0), (1, t1), (2, (.sc (.bool false))), (3, t20), (7, t7), (8, t8), (9, t9), (10, t10), (11, t10), (12, t12), (13, t13), (14, t14), (15, t15), (16, t16), (17, t17), (18, t18), (19, t19), (20, t20), (21, t21), (22, t22), (23, t24), (24, t24), (69, t70), (70, t70), (74, t75), (75, t75), (98, t101), (99, t99), (100, t100), (101, t101)] ut) H)))))))
 (p.guard t10 false H (fun k' => p.call 36 (.fn 222 [] []) [t13] H fun t' H => k' t' H) fun t14 H =>
 p.guard t10 false H (fun k' => p.load true 25 t1 H fun t' => k' t' H) fun t12 H =>
 p.guard t10 false H (fun k' => p.call 4 (.fn 141 [] []) [t12, t14] H fun t' H => k' t' H) fun t15 H =>
 p.guard t10 false H (fun k' => p.un .not t15 fun t' => k' t' H) fun t16 H =>
 p.pick t10 (.sc (.bool true)) t16 fun t17 =>
 p.cond t17
 (k (.sc (.bool false)) H)
 (p.fadr 4 t1 fun t18 =>
 p.load false 1 t18 H fun t19 =>
 p.call 4 (.fn 187 [] []) [t19, (.sc (.int .i64 1)), (.sc (.int .i64 65535))] H fun t20 H =>
 p.fadr 0 t1 fun t21 =>
 p.load false 1 t21 H fun t22 =>
 p.bin .eql t22 (.sc (.int .i64 1)) fun t24 =>
 p.cond t24
 (p.fadr 11 t1 fun t25 =>
 p.load false 1 t25 H fun t26 =>
 p.guard t26 true H (fun k' => p.fadr 12 t1 fun t' => k' t' H) fun t28 H =>
 p.guard t26 true H (fun k' => p.load false 1 t28 H fun t' => k' t' H) fun t29 H =>
 p.guard t26 true H (fun k' => p.call 4 (.fn 223 [] []) [t29] H fun t' H => k' t' H) fun t30 H =>
 p.guard t26 true H (fun k' => p.un .not t30 fun t' => k' t' H) fun t31 H =>
 p.guard t26 true H (fun k' => k' t31 H) fun t32 H =>
 p.guard t32 false H (fun k' => p.fadr 13 t1 fun t' => k' t' H) fun t33 H =>
 p.guard t32 false H (fun k' => p.load false 1 t33 H fun t' => k' t' H) fun t34 H =>
 p.guard t32 false H (fun k' => p.len t34 fun t' => k' t' H) fun t35 H =>
 p.guard t32 false H (fun k' => p.bin .gtr t35 (.sc (.int .i64 40)) fun t' => k' t' H) fun t36 H =>
 p.guard t26 true H (fun k' => p.pick t32 (.sc (.bool true)) t36 fun t' => k' t' H) fun t37 H =>
 p.guard t26 true H (fun k' => k' t37 H) fun t38 H =>
 p.guard t38 false H (fun k' => p.fadr 14 t1 fun t' => k' t' H) fun t39 H =>
 p.guard t38 false H (fun k' => p.load false 1 t39 H fun t' => k' t' H) fun t40 H =>
 p.guard t38 false H (fun k' => p.call 4 (.fn 187 [] []) [t40, (.sc (.int .i64 0)), (.sc (.int .i64 2))] H fun t' H => k' t' H) fun t41 H =>
 p.guard t38 false H (fun k' => p.un .not t41 fun t' => k' t' H) fun t42 H =>
 p.guard t26 true H (fun k' => p.pick t38 (.sc (.bool true)) t42 fun t' => k' t' H) fun t43 H =>
 p.pick t26 t43 (.sc (.bool false)) fun t44 =>
 p.cond t44
 (k (.sc (.bool false)) H)
 (p.fadr 8 t1 fun t45 =>
 p.load false 1 t45 H fun t46 =>
 p.call 4 (.fn 187 [] []) [t46, (.sc (.int .i64 0)), (.sc (.int .i64 255))] H fun t47 H =>
 p.guard t47 true H (fun k' => p.fadr 7 t1 fun t' => k' t' H) fun t49 H =>
 p.guard t47 true H (fun k' => p.load false 1 t49 H fun t' => k' t' H) fun t50 H =>
 p.guard t47 true H (fun k' => p.call 4 (.fn 137 [] []) [t50] H fun t' H => k' t' H) fun t51 H =>
 p.pick t47 t51 (.sc (.bool false)) fun t52 =>
 p.guard t52 true H (fun k' => p.fadr 10 t1 fun t' => k' t' H) fun t54 H =>
 p.guard t52 true H (fun k' => p.load false 1 t54 H fun t' => k' t' H) fun t55 H =>
 p.guard t52 true H (fun k' => p.call 4 (.fn 187 [] []) [t55, (.sc (.int .i64 0)), (.sc (.int .i64 65535))] H fun t' H => k' t' H) fun t56 H =>
 p.pick t52 t56 (.sc (.bool false)) fun t57 =>
 p.guard t57 true H (fun k' => p.fadr 17 t1 fun t' => k' t' H) fun t59 H =>
 p.guard t57 true H (fun k' => p.load false 1 t59 H fun t' => k' t' H) fun t60 H =>
 p.guard t57 true H (fun k' => p.call 4 (.fn 137 [] []) [t60] H fun t' H => k' t' H) fun t61 H =>
 p.pick t57 t61 (.sc (.bool false)) fun t62 =>
 p.guard t62 true H (fun k' => p.fadr 19 t1 fun t' => k' t' H) fun t64 H =>
 p.guard t62 true H (fun k' => p.load false 1 t64 H fun t' => k' t' H) fun t65 H =>
 p.guard t62 true H (fun k' => p.len t65 fun t' => k' t' H) fun t66 H =>
 p.guard t62 true H (fun k' => p.bin .leq t66 (.sc (.int .i64 60)) fun t' => k' t' H) fun t67 H =>
 p.pick t62 t67 (.sc (.bool false)) fun t68 =>
 k t68 H))
 (p.bin .eql t22 (.sc (.int .i64 2)) fun t70 =>
 p.cond t70
 (p.fadr 20 t1 fun t71 =>
 p.load false 1 t71 H fun t72 =>
 p.call 4 (.fn 187 [] []) [t72, (.sc (.int .i64 0)), (.sc (.int .i64 5))] H fun t73 H =>
 k t73 H)
 (p.bin .eql t22 (.sc (.int .i64 3)) fun t75 =>
 p.cond t75
 (p.fadr 2 t1 fun t76 =>
 p.load false 1 t76 H fun t77 =>
 p.call 4 (.fn 187 [] []) [t77, (.sc (.int .i64 0)), (.sc (.int .i64 2))] H fun t78 H =>
 p.guard t78 true H (fun k' => p.fadr 2 t1 fun t' => k' t' H) fun t80 H =>
 p.guard t78 true H (fun k' => p.load false 1 t80 H fun t' => k' t' H) fun t81 H =>
 p.guard t78 true H (fun k' => p.bin .eql t81 (.sc (.int .i64 0)) fun t' => k' t' H) fun t82 H =>
 p.guard t78 true H (fun k' => k' t82 H) fun t83 H =>
 p.guard t83 false H (fun k' => k' t20 H) fun t84 H =>
 p.guard t78 true H (fun k' => p.pick t83 (.sc (.bool true)) t84 fun t' => k' t' H) fun t85 H =>
 p.pick t78 t85 (.sc (.bool false)) fun t86 =>
 p.guard t86 true H (fun k' => p.fadr 5 t1 fun t' => k' t' H) fun t88 H =>
 p.guard t86 true H (fun k' => p.load false 1 t88 H fun t' => k' t' H) fun t89 H =>
 p.guard t86 true H (fun k' => p.call 4 (.fn 223 [] []) [t89] H fun t' H => k' t' H) fun t90 H =>
 p.pick t86 t90 (.sc (.bool false)) fun t91 =>
 p.guard t91 true H (fun k' => p.fadr 6 t1 fun t' => k' t' H) fun t93 H =>
 p.guard t91 true H (fun k' => p.load false 1 t93 H fun t' => k' t' H) fun t94 H =>
 p.guard t91 true H (fun k' => p.len t94 fun t' => k' t' H) fun t95 H =>
 p.guard t91 true H (fun k' => p.bin .leq t95 (.sc (.int .i64 40)) fun t' => k' t' H) fun t96 H =>
 p.pick t91 t96 (.sc (.bool false)) fun t97 =>
 k t97 H)
 (p.bin .eql t22 (.sc (.int .i64 12)) fun t99 =>
 Kj (fun (t : Nat → AV) (H : Af) => p.cond (t 98)
 (k (.sc (.bool true)) H)
 (p.bin .eql (t 22) (.sc (.int .i64 8)) fun t103 =>
 p.cond t103
 (Sb p n  k n (tf 191 0 (ud [(4, (.sc (.int .i64 0))), (102, t103), (103, t103)] t)) H)
 (p.bin .eql (t 22) (.sc (.int .i64 9)) fun t137 =>
 p.cond t137
 (Sc p n  k n (tf 191 0 (ud [(5, (.sc (.int .i64 0))), (102, t103), (103, t103), (136, t137), (137, t137)] t)) H)
 (p.bin .eql (t 22) (.sc (.int .i64 10)) fun t168 =>
 p.cond t168
 (Sd p n  k n (tf 191 0 (ud [(6, (.sc (.int .i64 0))), (102, t103), (103, t103), (136, t137), (137, t137), (167, t168), (168, t168)] t)) H)
 (k (t 3) H))))) fun j2 =>
 p.cond t99
 (j2 (ud [(0, a0), (1, t1), (2, (.sc (.bool false))), (3, t20), (7, t7), (8, t8), (9, t9), (10, t10), (11, t10), (12, t12), (13, t13), (14, t14), (15, t15), (16, t16), (17, t17), (18, t18), (19, t19), (20, t20), (21, t21), (22, t22), (23, t24), (24, t24), (69, t70), (70, t70), (74, t75), (75, t75), (98, t99), (99, t99)] ut) H)
 (p.bin .eql t22 (.sc (.int .i64 13)) fun t100 =>
 p.cond t100
 (j2 (ud [(0, a0), (1, t1), (2, (.sc (.bool false))), (3, t20), (7, t7), (8, t8), (9, t9), (10, t10), (11, t10), (12, t12), (13, t13), (14, t14), (15, t15), (16, t16), (17, t17), (18, t18), (19, t19), (20, t20), (21, t21), (22, t22), (23, t24), (24, t24), (69, t70), (70, t70), (74, t75), (75, t75), (98, t100), (99, t99), (100, t100)] ut) H)
 (p.bin .eql t22 (.sc (.int .i64 14)) fun t101 =>
 j2 (ud [(0, a0), (1, t1), (2, (.sc (.bool false))), (3, t20), (7, t7), (8, t8), (9, t9), (10, t10), (11, t10), (12, t12), (13, t13), (14, t14), (15, t15), (16, t16), (17, t17), (18, t18), (19, t19), (20, t20), (21, t21), (22, t22), (23, t24), (24, t24), (69, t70), (70, t70), (74, t75), (75, t75), (98, t101), (99, t99), (100, t100), (101, t101)] ut) H))))))) := by kernel_rfl
theorem Ye : Iy fi124 @f124 := fun p n a0 H k => by
 rw [Aa7]
 simp only [U3, U4, U5]
 kernel_rfl
noncomputable def f140 (p : Pr β) (n : Nat) (a0 a1 : AV) (H : Af) (k : KO β) : Option β :=
 p.bin .eql a0 (.sc (.int .i64 1)) fun t7 =>
 p.cond t7
 (p.bin .eql a1 (.sc (.int .i64 1)) fun t9 =>
 k t9 H)
 (p.bin .eql a0 (.sc (.int .i64 2)) fun t11 =>
 p.cond t11
 (p.bin .eql a1 (.sc (.int .i64 3)) fun t13 =>
 k t13 H)
 (p.bin .eql a0 (.sc (.int .i64 3)) fun t15 =>
 p.cond t15
 (p.bin .eql a1 (.sc (.int .i64 8)) fun t17 =>
 k t17 H)
 (p.bin .eql a0 (.sc (.int .i64 4)) fun t19 =>
 p.cond t19
 (p.bin .eql a1 (.sc (.int .i64 10)) fun t21 =>
 k t21 H)
 (p.bin .eql a0 (.sc (.int .i64 5)) fun t23 =>
 p.guard t23 true H (fun k' => k' a1 H) fun t25 H =>
 p.guard t23 true H (fun k' => p.call 4 (.fn 187 [] []) [t25, (.sc (.int .i64 4)), (.sc (.int .i64 7))] H fun t' H => k' t' H) fun t26 H =>
 p.pick t23 t26 (.sc (.bool false)) fun t27 =>
 k t27 H))))
theorem Yp : Km Ae2 @f140 := fun p n a0 a1 H k => by kernel_rfl
noncomputable def Lu (p : Pr β) (n : Nat)  (k : KO β) : Nat → AV → KO β
 | 0, _, _, _ => none
 | m + 1, t1, t4, H => p.fadr 33 t1 fun t67 =>
   p.load false 1 t67 H fun t68 =>
   p.len t68 fun t69 =>
   p.bin .lss t4 t69 fun t70 =>
   p.cond t70
   (p.fadr 33 t1 fun t73 =>
   p.load false 1 t73 H fun t74 =>
   p.iadr 4 t74 t4 fun t76 =>
   p.load true 4 t76 H fun t77 =>
   p.call 4 (.fn 139 [] []) [t77] H fun t78 H =>
   p.un .not t78 fun t79 =>
   p.cond t79
   (k (.sc (.bool false)) H)
   (p.bin .add t4 (.sc (.int .i64 1)) fun t72 =>
   Lu p n  k m t1 t72 H))
   (p.fadr 0 t1 fun t80 =>
   p.load false 1 t80 H fun t81 =>
   p.bin .leq t81 (.sc (.int .i64 5)) fun t82 =>
   p.guard t82 true H (fun k' => p.fadr 3 t1 fun t' => k' t' H) fun t84 H =>
   p.guard t82 true H (fun k' => p.load true 25 t84 H fun t' => k' t' H) fun t85 H =>
   p.guard t82 true H (fun k' => p.call 4 (.fn 124 [] []) [t85] H fun t' H => k' t' H) fun t86 H =>
   p.guard t82 true H (fun k' => p.un .not t86 fun t' => k' t' H) fun t87 H =>
   p.guard t82 true H (fun k' => k' t87 H) fun t88 H =>
   p.guard t88 false H (fun k' => p.fadr 0 t1 fun t' => k' t' H) fun t89 H =>
   p.guard t88 false H (fun k' => p.load false 1 t89 H fun t' => k' t' H) fun t90 H =>
   p.guard t88 false H (fun k' => p.fadr 3 t1 fun t' => k' t' H) fun t91 H =>
   p.guard t88 false H (fun k' => p.fadr 0 t91 fun t' => k' t' H) fun t92 H =>
   p.guard t88 false H (fun k' => p.load false 1 t92 H fun t' => k' t' H) fun t93 H =>
   p.guard t88 false H (fun k' => p.call 4 (.fn 140 [] []) [t90, t93] H fun t' H => k' t' H) fun t94 H =>
   p.guard t88 false H (fun k' => p.un .not t94 fun t' => k' t' H) fun t95 H =>
   p.guard t82 true H (fun k' => p.pick t88 (.sc (.bool true)) t95 fun t' => k' t' H) fun t96 H =>
   p.pick t82 t96 (.sc (.bool false)) fun t97 =>
   p.guard t97 false H (fun k' => p.fadr 0 t1 fun t' => k' t' H) fun t99 H =>
   p.guard t97 false H (fun k' => p.load false 1 t99 H fun t' => k' t' H) fun t100 H =>
   p.guard t97 false H (fun k' => p.bin .gtr t100 (.sc (.int .i64 5)) fun t' => k' t' H) fun t101 H =>
   p.guard t97 false H (fun k' => k' t101 H) fun t102 H =>
   p.guard t102 true H (fun k' => p.fadr 3 t1 fun t' => k' t' H) fun t103 H =>
   p.guard t102 true H (fun k' => p.load true 25 t103 H fun t' => k' t' H) fun t104 H =>
   p.guard t102 true H (fun k' => p.fill [(.sc (.int .i64 0)), (.sc (.bool false)), (.sc (.int .i64 0)), (.sc (.bool false)), (.sc (.int .i64 0)), (.sc (.string ⟨#[]⟩)), .nl, (.sc (.string ⟨#[]⟩)), (.sc (.int .i64 0)), (.sc (.bool false)), (.sc (.int .i64 0)), (.sc (.bool false)), (.sc (.string ⟨#[]⟩)), .nl, (.sc (.int .i64 0)), (.sc (.bool false)), (.sc (.bool false)), (.sc (.string ⟨#[]⟩)), (.sc (.bool false)), .nl, (.sc (.int .i64 0)), (.sc (.bool false)), .nl, .nl, .nl] [] fun ct' => k' (.agg ct') H) fun t105 H =>
   p.guard t102 true H (fun k' => p.call 4 (.fn 141 [] []) [t104, t105] H fun t' H => k' t' H) fun t106 H =>
   p.guard t102 true H (fun k' => p.un .not t106 fun t' => k' t' H) fun t107 H =>
   p.guard t97 false H (fun k' => p.pick t102 t107 (.sc (.bool false)) fun t' => k' t' H) fun t108 H =>
   p.pick t97 (.sc (.bool true)) t108 fun t109 =>
   p.cond t109
   (k (.sc (.bool false)) H)
   (p.fadr 0 t1 fun t110 =>
   p.load false 1 t110 H fun t111 =>
   p.bin .eql t111 (.sc (.int .i64 2)) fun t112 =>
   p.guard t112 true H (fun k' => p.fadr 1 t1 fun t' => k' t' H) fun t114 H =>
   p.guard t112 true H (fun k' => p.load false 1 t114 H fun t' => k' t' H) fun t115 H =>
   p.guard t112 true H (fun k' => p.bin .eql t115 (.sc (.int .i64 5)) fun t' => k' t' H) fun t116 H =>
   p.pick t112 t116 (.sc (.bool false)) fun t117 =>
   p.guard t117 false H (fun k' => p.fadr 0 t1 fun t' => k' t' H) fun t119 H =>
   p.guard t117 false H (fun k' => p.load false 1 t119 H fun t' => k' t' H) fun t120 H =>
   p.guard t117 false H (fun k' => p.bin .eql t120 (.sc (.int .i64 6)) fun t' => k' t' H) fun t121 H =>
   p.guard t117 false H (fun k' => k' t121 H) fun t122 H =>
   p.guard t122 true H (fun k' => p.fadr 1 t1 fun t' => k' t' H) fun t123 H =>
   p.guard t122 true H (fun k' => p.load false 1 t123 H fun t' => k' t' H) fun t124 H =>
   p.guard t122 true H (fun k' => p.bin .eql t124 (.sc (.int .i64 10)) fun t' => k' t' H) fun t125 H =>
   p.guard t117 false H (fun k' => p.pick t122 t125 (.sc (.bool false)) fun t' => k' t' H) fun t126 H =>
   p.pick t117 (.sc (.bool true)) t126 fun t127 =>
   p.guard t127 true H (fun k' => p.fadr 28 t1 fun t' => k' t' H) fun t129 H =>
   p.guard t127 true H (fun k' => p.load false 1 t129 H fun t' => k' t' H) fun t130 H =>
   p.guard t127 true H (fun k' => p.len t130 fun t' => k' t' H) fun t131 H =>
   p.guard t127 true H (fun k' => p.bin .eql t131 (.sc (.int .i64 0)) fun t' => k' t' H) fun t132 H =>
   p.pick t127 t132 (.sc (.bool false)) fun t133 =>
   p.cond t133
   (k (.sc (.bool false)) H)
   (p.fadr 29 t1 fun t134 =>
   p.load true 4 t134 H fun t135 =>
   p.call 4 (.fn 142 [] []) [t135] H fun t136 H =>
   p.guard t136 false H (fun k' => p.fadr 29 t1 fun t' => k' t' H) fun t138 H =>
   p.guard t136 false H (fun k' => p.load true 4 t138 H fun t' => k' t' H) fun t139 H =>
   p.guard t136 false H (fun k' => p.call 4 (.fn 139 [] []) [t139] H fun t' H => k' t' H) fun t140 H =>
   p.pick t136 (.sc (.bool true)) t140 fun t141 =>
   k t141 H)))
noncomputable def Jv (p : Pr β) (n : Nat)  (k : KO β) : Nat → AV → KO β
 | 0, _, _, _ => none
 | m + 1, t1, t3, H => p.fadr 28 t1 fun t53 =>
   p.load false 1 t53 H fun t54 =>
   p.len t54 fun t55 =>
   p.bin .lss t3 t55 fun t56 =>
   p.cond t56
   (p.fadr 28 t1 fun t59 =>
   p.load false 1 t59 H fun t60 =>
   p.iadr 3 t60 t3 fun t62 =>
   p.load true 3 t62 H fun t63 =>
   p.call 4 (.fn 138 [] []) [t63] H fun t64 H =>
   p.un .not t64 fun t65 =>
   p.cond t65
   (k (.sc (.bool false)) H)
   (p.bin .add t3 (.sc (.int .i64 1)) fun t58 =>
   Jv p n  k m t1 t58 H))
   (Lu p n  k n t1 (.sc (.int .i64 0)) H)
noncomputable def f42 (p : Pr β) (n : Nat) (a0 : AV) (H : Af) (k : KO β) : Option β :=
 p.box a0 H fun t1 H =>
 p.fadr 0 t1 fun t5 =>
 p.load false 1 t5 H fun t6 =>
 p.bin .eql t6 (.sc (.int .i64 0)) fun t7 =>
 p.cond t7
 (p.load true 35 t1 H fun t8 =>
 p.call 4 (.fn 135 [] []) [t8] H fun t9 H =>
 k t9 H)
 (p.fadr 0 t1 fun t10 =>
 p.load false 1 t10 H fun t11 =>
 p.fadr 1 t1 fun t12 =>
 p.load false 1 t12 H fun t13 =>
 p.call 4 (.fn 136 [] []) [t11, t13] H fun t14 H =>
 p.un .not t14 fun t15 =>
 p.guard t15 false H (fun k' => p.fadr 2 t1 fun t' => k' t' H) fun t17 H =>
 p.guard t15 false H (fun k' => p.load false 1 t17 H fun t' => k' t' H) fun t18 H =>
 p.guard t15 false H (fun k' => p.call 4 (.fn 137 [] []) [t18] H fun t' H => k' t' H) fun t19 H =>
 p.guard t15 false H (fun k' => p.un .not t19 fun t' => k' t' H) fun t20 H =>
 p.pick t15 (.sc (.bool true)) t20 fun t21 =>
 p.guard t21 false H (fun k' => p.fadr 2 t1 fun t' => k' t' H) fun t23 H =>
 p.guard t21 false H (fun k' => p.load false 1 t23 H fun t' => k' t' H) fun t24 H =>
 p.guard t21 false H (fun k' => p.bin .eql t24 (.sc (.string ⟨#[]⟩)) fun t' => k' t' H) fun t25 H =>
 p.guard t21 false H (fun k' => k' t25 H) fun t26 H =>
 p.guard t26 true H (fun k' => p.fadr 0 t1 fun t' => k' t' H) fun t27 H =>
 p.guard t26 true H (fun k' => p.load false 1 t27 H fun t' => k' t' H) fun t28 H =>
 p.guard t26 true H (fun k' => p.bin .neq t28 (.sc (.int .i64 6)) fun t' => k' t' H) fun t29 H =>
 p.guard t26 true H (fun k' => k' t29 H) fun t30 H =>
 p.guard t30 false H (fun k' => p.fadr 1 t1 fun t' => k' t' H) fun t31 H =>
 p.guard t30 false H (fun k' => p.load false 1 t31 H fun t' => k' t' H) fun t32 H =>
 p.guard t30 false H (fun k' => p.bin .neq t32 (.sc (.int .i64 0)) fun t' => k' t' H) fun t33 H =>
 p.guard t26 true H (fun k' => p.pick t30 (.sc (.bool true)) t33 fun t' => k' t' H) fun t34 H =>
 p.guard t21 false H (fun k' => p.pick t26 t34 (.sc (.bool false)) fun t' => k' t' H) fun t35 H =>
 p.pick t21 (.sc (.bool true)) t35 fun t36 =>
 p.guard t36 false H (fun k' => p.fadr 34 t1 fun t' => k' t' H) fun t38 H =>
 p.guard t36 false H (fun k' => p.load false 1 t38 H fun t' => k' t' H) fun t39 H =>
 p.guard t36 false H (fun k' => p.bin .lss t39 (.sc (.int .i64 0)) fun t' => k' t' H) fun t40 H =>
 p.pick t36 (.sc (.bool true)) t40 fun t41 =>
 p.guard t41 false H (fun k' => p.fadr 0 t1 fun t' => k' t' H) fun t43 H =>
 p.guard t41 false H (fun k' => p.load false 1 t43 H fun t' => k' t' H) fun t44 H =>
 p.guard t41 false H (fun k' => p.bin .eql t44 (.sc (.int .i64 7)) fun t' => k' t' H) fun t45 H =>
 p.guard t41 false H (fun k' => k' t45 H) fun t46 H =>
 p.guard t46 true H (fun k' => p.fadr 34 t1 fun t' => k' t' H) fun t47 H =>
 p.guard t46 true H (fun k' => p.load false 1 t47 H fun t' => k' t' H) fun t48 H =>
 p.guard t46 true H (fun k' => p.bin .neq t48 (.sc (.int .i64 0)) fun t' => k' t' H) fun t49 H =>
 p.guard t41 false H (fun k' => p.pick t46 t49 (.sc (.bool false)) fun t' => k' t' H) fun t50 H =>
 p.pick t41 (.sc (.bool true)) t50 fun t51 =>
 p.cond t51
 (k (.sc (.bool false)) H)
 (Jv p n  k n t1 (.sc (.int .i64 0)) H))
noncomputable def AaZ (p : Pr β) (n : Nat)  (k : KO β) (m : Nat) (tm : Tm) (H : Af) : Option β :=
 Cx 142 (fun tm H k => Ak As p [] 142 n (cd c42 [1, 1, 1, 1, 0, 1, 0, 0]) tm H k) (Dy 2 (Dj (fun tm H => Ak As p [] 142 n (cd c42 [1, 1, 1, 1, 1]) tm H (Cc As p fi42.results k)) (Cc As p fi42.results k))) m tm H
noncomputable def AaY (p : Pr β) (n : Nat)  (k : KO β) (m : Nat) (tm : Tm) (H : Af) : Option β :=
 Cx 142 (fun tm H k => Ak As p [] 142 n (cd c42 [1, 1, 1, 0, 1, 0, 0]) tm H k) (Dy 0 (Dj (fun tm H => Ak As p [] 142 n (cd c42 [1, 1, 1, 1]) tm H (Cc As p fi42.results k)) (Cc As p fi42.results k))) m tm H
theorem Re (p : Pr β) (n : Nat)  (k : KO β) (m1 : Nat) : ∀ (t : Nat → AV) (H : Af), AaZ p n  k m1 (tf 142 0 t) H = Lu p n  k m1 (t 1) (t 4) H := by
 induction m1 with
 | zero => intros; rfl
 | succ m1 ih =>
  intro t H
  refine Eq.trans (Bp (nt := 142) (m := m1) (g := fun t H => Lu p n  k m1 (t 1) (t 4) H) ih rfl) ?_
  kernel_rfl
theorem To (p : Pr β) (n : Nat)  (k : KO β) (m0 : Nat) (t : Nat → AV) (H : Af) : Ak As p [] 142 n (cd c42 [1, 1, 1, 0, 1, 0, 0]) (tf 142 0 t) H (Dj (fun tm H => Jv p n  k m0 (gt tm 1) (gt tm 3) H) (Dy 0 (Dj (fun tm H => Ak As p [] 142 n (cd c42 [1, 1, 1, 1]) tm H (Cc As p fi42.results k)) (Cc As p fi42.results k)))) =
 p.fadr 28 (t 1) fun t53 =>
 p.load false 1 t53 H fun t54 =>
 p.len t54 fun t55 =>
 p.bin .lss (t 3) t55 fun t56 =>
 p.cond t56
 (p.fadr 28 (t 1) fun t59 =>
 p.load false 1 t59 H fun t60 =>
 p.iadr 3 t60 (t 3) fun t62 =>
 p.load true 3 t62 H fun t63 =>
 p.call 4 (.fn 138 [] []) [t63] H fun t64 H =>
 p.un .not t64 fun t65 =>
 p.cond t65
 (k (.sc (.bool false)) H)
 (p.bin .add (t 3) (.sc (.int .i64 1)) fun t58 =>
 Jv p n  k m0 (t 1) t58 H))
 (AaZ p n  k n (tf 142 0 (ud [(4, (.sc (.int .i64 0))), (52, (t 3)), (53, t53), (54, t54), (55, t55), (56, t56)] t)) H) := by kernel_rfl
theorem Zz (p : Pr β) (n : Nat)  (k : KO β) (m0 : Nat) : ∀ (t : Nat → AV) (H : Af), AaY p n  k m0 (tf 142 0 t) H = Jv p n  k m0 (t 1) (t 3) H := by
 induction m0 with
 | zero => intros; rfl
 | succ m0 ih =>
  intro t H
  refine Eq.trans (Bp (nt := 142) (m := m0) (g := fun t H => Jv p n  k m0 (t 1) (t 3) H) ih rfl) ?_
  refine Eq.trans (To p n  k m0 t H) ?_
  simp only [Re]
  kernel_rfl
theorem Ad6 (p : Pr β) (n : Nat) (a0 : AV) (H : Af) (k : KO β) : B3 As p n fi42 [a0] H k =
 p.box a0 H fun t1 H =>
 p.fadr 0 t1 fun t5 =>
 p.load false 1 t5 H fun t6 =>
 p.bin .eql t6 (.sc (.int .i64 0)) fun t7 =>
 p.cond t7
 (p.load true 35 t1 H fun t8 =>
 p.call 4 (.fn 135 [] []) [t8] H fun t9 H =>
 k t9 H)
 (p.fadr 0 t1 fun t10 =>
 p.load false 1 t10 H fun t11 =>
 p.fadr 1 t1 fun t12 =>
 p.load false 1 t12 H fun t13 =>
 p.call 4 (.fn 136 [] []) [t11, t13] H fun t14 H =>
 p.un .not t14 fun t15 =>
 p.guard t15 false H (fun k' => p.fadr 2 t1 fun t' => k' t' H) fun t17 H =>
 p.guard t15 false H (fun k' => p.load false 1 t17 H fun t' => k' t' H) fun t18 H =>
 p.guard t15 false H (fun k' => p.call 4 (.fn 137 [] []) [t18] H fun t' H => k' t' H) fun t19 H =>
 p.guard t15 false H (fun k' => p.un .not t19 fun t' => k' t' H) fun t20 H =>
 p.pick t15 (.sc (.bool true)) t20 fun t21 =>
 p.guard t21 false H (fun k' => p.fadr 2 t1 fun t' => k' t' H) fun t23 H =>
 p.guard t21 false H (fun k' => p.load false 1 t23 H fun t' => k' t' H) fun t24 H =>
 p.guard t21 false H (fun k' => p.bin .eql t24 (.sc (.string ⟨#[]⟩)) fun t' => k' t' H) fun t25 H =>
 p.guard t21 false H (fun k' => k' t25 H) fun t26 H =>
 p.guard t26 true H (fun k' => p.fadr 0 t1 fun t' => k' t' H) fun t27 H =>
 p.guard t26 true H (fun k' => p.load false 1 t27 H fun t' => k' t' H) fun t28 H =>
 p.guard t26 true H (fun k' => p.bin .neq t28 (.sc (.int .i64 6)) fun t' => k' t' H) fun t29 H =>
 p.guard t26 true H (fun k' => k' t29 H) fun t30 H =>
 p.guard t30 false H (fun k' => p.fadr 1 t1 fun t' => k' t' H) fun t31 H =>
 p.guard t30 false H (fun k' => p.load false 1 t31 H fun t' => k' t' H) fun t32 H =>
 p.guard t30 false H (fun k' => p.bin .neq t32 (.sc (.int .i64 0)) fun t' => k' t' H) fun t33 H =>
 p.guard t26 true H (fun k' => p.pick t30 (.sc (.bool true)) t33 fun t' => k' t' H) fun t34 H =>
 p.guard t21 false H (fun k' => p.pick t26 t34 (.sc (.bool false)) fun t' => k' t' H) fun t35 H =>
 p.pick t21 (.sc (.bool true)) t35 fun t36 =>
 p.guard t36 false H (fun k' => p.fadr 34 t1 fun t' => k' t' H) fun t38 H =>
 p.guard t36 false H (fun k' => p.load false 1 t38 H fun t' => k' t' H) fun t39 H =>
 p.guard t36 false H (fun k' => p.bin .lss t39 (.sc (.int .i64 0)) fun t' => k' t' H) fun t40 H =>
 p.pick t36 (.sc (.bool true)) t40 fun t41 =>
 p.guard t41 false H (fun k' => p.fadr 0 t1 fun t' => k' t' H) fun t43 H =>
 p.guard t41 false H (fun k' => p.load false 1 t43 H fun t' => k' t' H) fun t44 H =>
 p.guard t41 false H (fun k' => p.bin .eql t44 (.sc (.int .i64 7)) fun t' => k' t' H) fun t45 H =>
 p.guard t41 false H (fun k' => k' t45 H) fun t46 H =>
 p.guard t46 true H (fun k' => p.fadr 34 t1 fun t' => k' t' H) fun t47 H =>
 p.guard t46 true H (fun k' => p.load false 1 t47 H fun t' => k' t' H) fun t48 H =>
 p.guard t46 true H (fun k' => p.bin .neq t48 (.sc (.int .i64 0)) fun t' => k' t' H) fun t49 H =>
 p.guard t41 false H (fun k' => p.pick t46 t49 (.sc (.bool false)) fun t' => k' t' H) fun t50 H =>
 p.pick t41 (.sc (.bool true)) t50 fun t51 =>
 p.cond t51
 (k (.sc (.bool false)) H)
 (AaY p n  k n (tf 142 0 (ud [(0, a0), (1, t1), (2, (.sc (.bool false))), (3, (.sc (.int .i64 0))), (5, t5), (6, t6), (7, t7), (10, t10), (11, t11), (12, t12), (13, t13), (14, t14), (15, t15), (16, t15), (17, t17), (18, t18), (19, t19), (20, t20), (21, t21), (22, t21), (23, t23), (24, t24), (25, t25), (26, t26), (27, t27), (28, t28), (29, t29), (30, t30), (31, t31), (32, t32), (33, t33), (34, t34), (35, t35), (36, t36), (37, t36), (38, t38), (39, t39), (40, t40), (41, t41), (42, t41), (43, t43), (44, t44), (45, t45), (46, t46), (47, t47), (48, t48), (49, t49), (50, t50), (51, t51)] ut)) H)) := by kernel_rfl
theorem Aba : Iy fi42 @f42 := fun p n a0 H k => by
 rw [Ad6]
 simp only [Re, Zz]
 kernel_rfl
noncomputable def f183 (p : Pr β) (n : Nat) (a0 a1 : AV) (H : Af) (k : KO β) : Option β :=
 p.cvBS a0 H fun t6 =>
 p.cvBS a1 H fun t8 =>
 p.bin .eql t6 t8 fun t9 =>
 k t9 H
theorem Y4 : Km AeD @f183 := fun p n a0 a1 H k => by kernel_rfl
noncomputable def Mh (p : Pr β) (n : Nat)  (k : KO β) : Nat → AV → AV → AV → KO β
 | 0, _, _, _, _, _ => none
 | m + 1, t0, t1, t12, t13, H => p.bin .lss t13 t12 fun t14 =>
   p.cond t14
   (p.iadr 2 t0 t13 fun t18 =>
   p.load true 2 t18 H fun t19 =>
   p.iadr 2 t1 t13 fun t22 =>
   p.load true 2 t22 H fun t23 =>
   p.binA .neq [1, 0] t19 t23 fun t24 =>
   p.cond t24
   (k (.sc (.bool false)) H)
   (p.bin .add t13 (.sc (.int .i64 1)) fun t25 =>
   Mh p n  k m t0 t1 t12 t25 H))
   (k (.sc (.bool true)) H)
noncomputable def f203 (p : Pr β) (n : Nat) (a0 a1 : AV) (H : Af) (k : KO β) : Option β :=
 p.len a0 fun t7 =>
 p.len a1 fun t9 =>
 p.bin .neq t7 t9 fun t10 =>
 p.cond t10
 (k (.sc (.bool false)) H)
 (p.len a0 fun t12 =>
 Mh p n  k n a0 a1 t12 (.sc (.int .i64 0)) H)
noncomputable def W5 (p : Pr β) (n : Nat)  (k : KO β) (m : Nat) (tm : Tm) (H : Af) : Option β :=
 Cx 26 (fun tm H k => Ak As p AfV 26 n (cd Afq [1, 1, 0, 1, 0, 0]) tm H k) (Dy 0 (Dj (fun tm H => Ak As p AfV 26 n (cd Afq [1, 1, 1]) tm H (Cc As p fi203.results k)) (Cc As p fi203.results k))) m tm H
theorem Vf (p : Pr β) (n : Nat)  (k : KO β) (m0 : Nat) : ∀ (t : Nat → AV) (H : Af), W5 p n  k m0 (tf 26 0 t) H = Mh p n  k m0 (t 0) (t 1) (t 12) (t 13) H := by
 induction m0 with
 | zero => intros; rfl
 | succ m0 ih =>
  intro t H
  refine Eq.trans (Bp (nt := 26) (m := m0) (g := fun t H => Mh p n  k m0 (t 0) (t 1) (t 12) (t 13) H) ih rfl) ?_
  kernel_rfl
theorem AaI (p : Pr β) (n : Nat) (a0 a1 : AV) (H : Af) (k : KO β) : B3 As p n fi203 [a0, a1] H k =
 p.len a0 fun t7 =>
 p.len a1 fun t9 =>
 p.bin .neq t7 t9 fun t10 =>
 p.cond t10
 (k (.sc (.bool false)) H)
 (p.len a0 fun t12 =>
 W5 p n  k n (tf 26 0 (ud [(0, a0), (1, a1), (4, (.sc (.bool false))), (6, a0), (7, t7), (8, a1), (9, t9), (10, t10), (11, a0), (12, t12), (13, (.sc (.int .i64 0)))] ut)) H) := by kernel_rfl
theorem Zd : Km fi203 @f203 := fun p n a0 a1 H k => by
 rw [AaI]
 simp only [Vf]
 kernel_rfl
noncomputable def Mi (p : Pr β) (n : Nat)  (k : KO β) : Nat → AV → AV → AV → KO β
 | 0, _, _, _, _, _ => none
 | m + 1, t0, t1, t12, t13, H => p.bin .lss t13 t12 fun t14 =>
   p.cond t14
   (p.iadr 1 t0 t13 fun t18 =>
   p.load false 1 t18 H fun t19 =>
   p.iadr 1 t1 t13 fun t22 =>
   p.load false 1 t22 H fun t23 =>
   p.bin .neq t19 t23 fun t24 =>
   p.cond t24
   (k (.sc (.bool false)) H)
   (p.bin .add t13 (.sc (.int .i64 1)) fun t25 =>
   Mi p n  k m t0 t1 t12 t25 H))
   (k (.sc (.bool true)) H)
noncomputable def f204 (p : Pr β) (n : Nat) (a0 a1 : AV) (H : Af) (k : KO β) : Option β :=
 p.len a0 fun t7 =>
 p.len a1 fun t9 =>
 p.bin .neq t7 t9 fun t10 =>
 p.cond t10
 (k (.sc (.bool false)) H)
 (p.len a0 fun t12 =>
 Mi p n  k n a0 a1 t12 (.sc (.int .i64 0)) H)
noncomputable def W6 (p : Pr β) (n : Nat)  (k : KO β) (m : Nat) (tm : Tm) (H : Af) : Option β :=
 Cx 26 (fun tm H k => Ak As p AfW 26 n (cd Afr [1, 1, 0, 1, 0, 0]) tm H k) (Dy 0 (Dj (fun tm H => Ak As p AfW 26 n (cd Afr [1, 1, 1]) tm H (Cc As p fi204.results k)) (Cc As p fi204.results k))) m tm H
theorem Vg (p : Pr β) (n : Nat)  (k : KO β) (m0 : Nat) : ∀ (t : Nat → AV) (H : Af), W6 p n  k m0 (tf 26 0 t) H = Mi p n  k m0 (t 0) (t 1) (t 12) (t 13) H := by
 induction m0 with
 | zero => intros; rfl
 | succ m0 ih =>
  intro t H
  refine Eq.trans (Bp (nt := 26) (m := m0) (g := fun t H => Mi p n  k m0 (t 0) (t 1) (t 12) (t 13) H) ih rfl) ?_
  kernel_rfl
theorem AaJ (p : Pr β) (n : Nat) (a0 a1 : AV) (H : Af) (k : KO β) : B3 As p n fi204 [a0, a1] H k =
 p.len a0 fun t7 =>
 p.len a1 fun t9 =>
 p.bin .neq t7 t9 fun t10 =>
 p.cond t10
 (k (.sc (.bool false)) H)
 (p.len a0 fun t12 =>
 W6 p n  k n (tf 26 0 (ud [(0, a0), (1, a1), (4, (.sc (.bool false))), (6, a0), (7, t7), (8, a1), (9, t9), (10, t10), (11, a0), (12, t12), (13, (.sc (.int .i64 0)))] ut)) H) := by kernel_rfl
theorem Ze : Km fi204 @f204 := fun p n a0 a1 H k => by
 rw [AaJ]
 simp only [Vg]
 kernel_rfl
noncomputable def Mj (p : Pr β) (n : Nat)  (k : KO β) : Nat → AV → AV → AV → KO β
 | 0, _, _, _, _, _ => none
 | m + 1, t0, t1, t12, t13, H => p.bin .lss t13 t12 fun t14 =>
   p.cond t14
   (p.iadr 1 t0 t13 fun t18 =>
   p.load false 1 t18 H fun t19 =>
   p.iadr 1 t1 t13 fun t22 =>
   p.load false 1 t22 H fun t23 =>
   p.bin .neq t19 t23 fun t24 =>
   p.cond t24
   (k (.sc (.bool false)) H)
   (p.bin .add t13 (.sc (.int .i64 1)) fun t25 =>
   Mj p n  k m t0 t1 t12 t25 H))
   (k (.sc (.bool true)) H)
noncomputable def f205 (p : Pr β) (n : Nat) (a0 a1 : AV) (H : Af) (k : KO β) : Option β :=
 p.len a0 fun t7 =>
 p.len a1 fun t9 =>
 p.bin .neq t7 t9 fun t10 =>
 p.cond t10
 (k (.sc (.bool false)) H)
 (p.len a0 fun t12 =>
 Mj p n  k n a0 a1 t12 (.sc (.int .i64 0)) H)
noncomputable def W7 (p : Pr β) (n : Nat)  (k : KO β) (m : Nat) (tm : Tm) (H : Af) : Option β :=
 Cx 26 (fun tm H k => Ak As p AfX 26 n (cd Afs [1, 1, 0, 1, 0, 0]) tm H k) (Dy 0 (Dj (fun tm H => Ak As p AfX 26 n (cd Afs [1, 1, 1]) tm H (Cc As p fi205.results k)) (Cc As p fi205.results k))) m tm H
theorem Vh (p : Pr β) (n : Nat)  (k : KO β) (m0 : Nat) : ∀ (t : Nat → AV) (H : Af), W7 p n  k m0 (tf 26 0 t) H = Mj p n  k m0 (t 0) (t 1) (t 12) (t 13) H := by
 induction m0 with
 | zero => intros; rfl
 | succ m0 ih =>
  intro t H
  refine Eq.trans (Bp (nt := 26) (m := m0) (g := fun t H => Mj p n  k m0 (t 0) (t 1) (t 12) (t 13) H) ih rfl) ?_
  kernel_rfl
theorem AaK (p : Pr β) (n : Nat) (a0 a1 : AV) (H : Af) (k : KO β) : B3 As p n fi205 [a0, a1] H k =
 p.len a0 fun t7 =>
 p.len a1 fun t9 =>
 p.bin .neq t7 t9 fun t10 =>
 p.cond t10
 (k (.sc (.bool false)) H)
 (p.len a0 fun t12 =>
 W7 p n  k n (tf 26 0 (ud [(0, a0), (1, a1), (4, (.sc (.bool false))), (6, a0), (7, t7), (8, a1), (9, t9), (10, t10), (11, a0), (12, t12), (13, (.sc (.int .i64 0)))] ut)) H) := by kernel_rfl
theorem Zf : Km fi205 @f205 := fun p n a0 a1 H k => by
 rw [AaK]
 simp only [Vh]
 kernel_rfl
noncomputable def f82 (p : Pr β) (n : Nat) (a0 a1 : AV) (H : Af) (k : KO β) : Option β :=
 p.box a0 H fun t2 H =>
 p.box a1 H fun t3 H =>
 p.fadr 0 t2 fun t9 =>
 p.load false 1 t9 H fun t10 =>
 p.fadr 0 t3 fun t11 =>
 p.load false 1 t11 H fun t12 =>
 p.bin .eql t10 t12 fun t13 =>
 p.guard t13 true H (fun k' => p.fadr 1 t2 fun t' => k' t' H) fun t15 H =>
 p.guard t13 true H (fun k' => p.load false 1 t15 H fun t' => k' t' H) fun t16 H =>
 p.guard t13 true H (fun k' => p.fadr 1 t3 fun t' => k' t' H) fun t17 H =>
 p.guard t13 true H (fun k' => p.load false 1 t17 H fun t' => k' t' H) fun t18 H =>
 p.guard t13 true H (fun k' => p.binB .eql t16 t18 fun t' => k' t' H) fun t19 H =>
 p.pick t13 t19 (.sc (.bool false)) fun t20 =>
 p.guard t20 true H (fun k' => p.fadr 2 t2 fun t' => k' t' H) fun t22 H =>
 p.guard t20 true H (fun k' => p.load false 1 t22 H fun t' => k' t' H) fun t23 H =>
 p.guard t20 true H (fun k' => p.fadr 2 t3 fun t' => k' t' H) fun t24 H =>
 p.guard t20 true H (fun k' => p.load false 1 t24 H fun t' => k' t' H) fun t25 H =>
 p.guard t20 true H (fun k' => p.bin .eql t23 t25 fun t' => k' t' H) fun t26 H =>
 p.pick t20 t26 (.sc (.bool false)) fun t27 =>
 p.guard t27 true H (fun k' => p.fadr 3 t2 fun t' => k' t' H) fun t29 H =>
 p.guard t27 true H (fun k' => p.load false 1 t29 H fun t' => k' t' H) fun t30 H =>
 p.guard t27 true H (fun k' => p.fadr 3 t3 fun t' => k' t' H) fun t31 H =>
 p.guard t27 true H (fun k' => p.load false 1 t31 H fun t' => k' t' H) fun t32 H =>
 p.guard t27 true H (fun k' => p.binB .eql t30 t32 fun t' => k' t' H) fun t33 H =>
 p.pick t27 t33 (.sc (.bool false)) fun t34 =>
 p.guard t34 true H (fun k' => p.fadr 4 t2 fun t' => k' t' H) fun t36 H =>
 p.guard t34 true H (fun k' => p.load false 1 t36 H fun t' => k' t' H) fun t37 H =>
 p.guard t34 true H (fun k' => p.fadr 4 t3 fun t' => k' t' H) fun t38 H =>
 p.guard t34 true H (fun k' => p.load false 1 t38 H fun t' => k' t' H) fun t39 H =>
 p.guard t34 true H (fun k' => p.bin .eql t37 t39 fun t' => k' t' H) fun t40 H =>
 p.pick t34 t40 (.sc (.bool false)) fun t41 =>
 p.guard t41 true H (fun k' => p.fadr 5 t2 fun t' => k' t' H) fun t43 H =>
 p.guard t41 true H (fun k' => p.load false 1 t43 H fun t' => k' t' H) fun t44 H =>
 p.guard t41 true H (fun k' => p.fadr 5 t3 fun t' => k' t' H) fun t45 H =>
 p.guard t41 true H (fun k' => p.load false 1 t45 H fun t' => k' t' H) fun t46 H =>
 p.guard t41 true H (fun k' => p.bin .eql t44 t46 fun t' => k' t' H) fun t47 H =>
 p.pick t41 t47 (.sc (.bool false)) fun t48 =>
 p.guard t48 true H (fun k' => p.fadr 6 t2 fun t' => k' t' H) fun t50 H =>
 p.guard t48 true H (fun k' => p.load false 1 t50 H fun t' => k' t' H) fun t51 H =>
 p.guard t48 true H (fun k' => p.fadr 6 t3 fun t' => k' t' H) fun t52 H =>
 p.guard t48 true H (fun k' => p.load false 1 t52 H fun t' => k' t' H) fun t53 H =>
 p.guard t48 true H (fun k' => p.call 4 (.fn 183 [] []) [t51, t53] H fun t' H => k' t' H) fun t54 H =>
 p.pick t48 t54 (.sc (.bool false)) fun t55 =>
 p.fadr 7 t2 fun t56 =>
 p.load false 1 t56 H fun t57 =>
 p.fadr 7 t3 fun t58 =>
 p.load false 1 t58 H fun t59 =>
 p.bin .eql t57 t59 fun t60 =>
 p.guard t60 true H (fun k' => p.fadr 8 t2 fun t' => k' t' H) fun t62 H =>
 p.guard t60 true H (fun k' => p.load false 1 t62 H fun t' => k' t' H) fun t63 H =>
 p.guard t60 true H (fun k' => p.fadr 8 t3 fun t' => k' t' H) fun t64 H =>
 p.guard t60 true H (fun k' => p.load false 1 t64 H fun t' => k' t' H) fun t65 H =>
 p.guard t60 true H (fun k' => p.bin .eql t63 t65 fun t' => k' t' H) fun t66 H =>
 p.pick t60 t66 (.sc (.bool false)) fun t67 =>
 p.guard t67 true H (fun k' => p.fadr 9 t2 fun t' => k' t' H) fun t69 H =>
 p.guard t67 true H (fun k' => p.load false 1 t69 H fun t' => k' t' H) fun t70 H =>
 p.guard t67 true H (fun k' => p.fadr 9 t3 fun t' => k' t' H) fun t71 H =>
 p.guard t67 true H (fun k' => p.load false 1 t71 H fun t' => k' t' H) fun t72 H =>
 p.guard t67 true H (fun k' => p.binB .eql t70 t72 fun t' => k' t' H) fun t73 H =>
 p.pick t67 t73 (.sc (.bool false)) fun t74 =>
 p.guard t74 true H (fun k' => p.fadr 10 t2 fun t' => k' t' H) fun t76 H =>
 p.guard t74 true H (fun k' => p.load false 1 t76 H fun t' => k' t' H) fun t77 H =>
 p.guard t74 true H (fun k' => p.fadr 10 t3 fun t' => k' t' H) fun t78 H =>
 p.guard t74 true H (fun k' => p.load false 1 t78 H fun t' => k' t' H) fun t79 H =>
 p.guard t74 true H (fun k' => p.bin .eql t77 t79 fun t' => k' t' H) fun t80 H =>
 p.pick t74 t80 (.sc (.bool false)) fun t81 =>
 p.guard t81 true H (fun k' => p.fadr 16 t2 fun t' => k' t' H) fun t83 H =>
 p.guard t81 true H (fun k' => p.load false 1 t83 H fun t' => k' t' H) fun t84 H =>
 p.guard t81 true H (fun k' => p.fadr 16 t3 fun t' => k' t' H) fun t85 H =>
 p.guard t81 true H (fun k' => p.load false 1 t85 H fun t' => k' t' H) fun t86 H =>
 p.guard t81 true H (fun k' => p.binB .eql t84 t86 fun t' => k' t' H) fun t87 H =>
 p.pick t81 t87 (.sc (.bool false)) fun t88 =>
 p.guard t88 true H (fun k' => p.fadr 17 t2 fun t' => k' t' H) fun t90 H =>
 p.guard t88 true H (fun k' => p.load false 1 t90 H fun t' => k' t' H) fun t91 H =>
 p.guard t88 true H (fun k' => p.fadr 17 t3 fun t' => k' t' H) fun t92 H =>
 p.guard t88 true H (fun k' => p.load false 1 t92 H fun t' => k' t' H) fun t93 H =>
 p.guard t88 true H (fun k' => p.bin .eql t91 t93 fun t' => k' t' H) fun t94 H =>
 p.pick t88 t94 (.sc (.bool false)) fun t95 =>
 p.guard t95 true H (fun k' => p.fadr 18 t2 fun t' => k' t' H) fun t97 H =>
 p.guard t95 true H (fun k' => p.load false 1 t97 H fun t' => k' t' H) fun t98 H =>
 p.guard t95 true H (fun k' => p.fadr 18 t3 fun t' => k' t' H) fun t99 H =>
 p.guard t95 true H (fun k' => p.load false 1 t99 H fun t' => k' t' H) fun t100 H =>
 p.guard t95 true H (fun k' => p.binB .eql t98 t100 fun t' => k' t' H) fun t101 H =>
 p.pick t95 t101 (.sc (.bool false)) fun t102 =>
 p.guard t102 true H (fun k' => p.fadr 19 t2 fun t' => k' t' H) fun t104 H =>
 p.guard t102 true H (fun k' => p.load false 1 t104 H fun t' => k' t' H) fun t105 H =>
 p.guard t102 true H (fun k' => p.fadr 19 t3 fun t' => k' t' H) fun t106 H =>
 p.guard t102 true H (fun k' => p.load false 1 t106 H fun t' => k' t' H) fun t107 H =>
 p.guard t102 true H (fun k' => p.call 4 (.fn 183 [] []) [t105, t107] H fun t' H => k' t' H) fun t108 H =>
 p.pick t102 t108 (.sc (.bool false)) fun t109 =>
 p.fadr 11 t2 fun t110 =>
 p.load false 1 t110 H fun t111 =>
 p.fadr 11 t3 fun t112 =>
 p.load false 1 t112 H fun t113 =>
 p.binB .eql t111 t113 fun t114 =>
 p.guard t114 true H (fun k' => p.fadr 12 t2 fun t' => k' t' H) fun t116 H =>
 p.guard t114 true H (fun k' => p.load false 1 t116 H fun t' => k' t' H) fun t117 H =>
 p.guard t114 true H (fun k' => p.fadr 12 t3 fun t' => k' t' H) fun t118 H =>
 p.guard t114 true H (fun k' => p.load false 1 t118 H fun t' => k' t' H) fun t119 H =>
 p.guard t114 true H (fun k' => p.bin .eql t117 t119 fun t' => k' t' H) fun t120 H =>
 p.pick t114 t120 (.sc (.bool false)) fun t121 =>
 p.guard t121 true H (fun k' => p.fadr 13 t2 fun t' => k' t' H) fun t123 H =>
 p.guard t121 true H (fun k' => p.load false 1 t123 H fun t' => k' t' H) fun t124 H =>
 p.guard t121 true H (fun k' => p.fadr 13 t3 fun t' => k' t' H) fun t125 H =>
 p.guard t121 true H (fun k' => p.load false 1 t125 H fun t' => k' t' H) fun t126 H =>
 p.guard t121 true H (fun k' => p.call 4 (.fn 183 [] []) [t124, t126] H fun t' H => k' t' H) fun t127 H =>
 p.pick t121 t127 (.sc (.bool false)) fun t128 =>
 p.guard t128 true H (fun k' => p.fadr 14 t2 fun t' => k' t' H) fun t130 H =>
 p.guard t128 true H (fun k' => p.load false 1 t130 H fun t' => k' t' H) fun t131 H =>
 p.guard t128 true H (fun k' => p.fadr 14 t3 fun t' => k' t' H) fun t132 H =>
 p.guard t128 true H (fun k' => p.load false 1 t132 H fun t' => k' t' H) fun t133 H =>
 p.guard t128 true H (fun k' => p.bin .eql t131 t133 fun t' => k' t' H) fun t134 H =>
 p.pick t128 t134 (.sc (.bool false)) fun t135 =>
 p.guard t135 true H (fun k' => p.fadr 15 t2 fun t' => k' t' H) fun t137 H =>
 p.guard t135 true H (fun k' => p.load false 1 t137 H fun t' => k' t' H) fun t138 H =>
 p.guard t135 true H (fun k' => p.fadr 15 t3 fun t' => k' t' H) fun t139 H =>
 p.guard t135 true H (fun k' => p.load false 1 t139 H fun t' => k' t' H) fun t140 H =>
 p.guard t135 true H (fun k' => p.binB .eql t138 t140 fun t' => k' t' H) fun t141 H =>
 p.pick t135 t141 (.sc (.bool false)) fun t142 =>
 p.fadr 22 t2 fun t143 =>
 p.load false 1 t143 H fun t144 =>
 p.fadr 22 t3 fun t145 =>
 p.load false 1 t145 H fun t146 =>
 p.call 4 (.fn 203 [] []) [t144, t146] H fun t147 H =>
 p.guard t147 true H (fun k' => p.fadr 23 t2 fun t' => k' t' H) fun t149 H =>
 p.guard t147 true H (fun k' => p.load false 1 t149 H fun t' => k' t' H) fun t150 H =>
 p.guard t147 true H (fun k' => p.fadr 23 t3 fun t' => k' t' H) fun t151 H =>
 p.guard t147 true H (fun k' => p.load false 1 t151 H fun t' => k' t' H) fun t152 H =>
 p.guard t147 true H (fun k' => p.call 4 (.fn 204 [] []) [t150, t152] H fun t' H => k' t' H) fun t153 H =>
 p.pick t147 t153 (.sc (.bool false)) fun t154 =>
 p.guard t154 true H (fun k' => p.fadr 24 t2 fun t' => k' t' H) fun t156 H =>
 p.guard t154 true H (fun k' => p.load false 1 t156 H fun t' => k' t' H) fun t157 H =>
 p.guard t154 true H (fun k' => p.fadr 24 t3 fun t' => k' t' H) fun t158 H =>
 p.guard t154 true H (fun k' => p.load false 1 t158 H fun t' => k' t' H) fun t159 H =>
 p.guard t154 true H (fun k' => p.call 4 (.fn 205 [] []) [t157, t159] H fun t' H => k' t' H) fun t160 H =>
 p.pick t154 t160 (.sc (.bool false)) fun t161 =>
 p.guard t55 true H (fun k' => k' t109 H) fun t164 H =>
 p.pick t55 t164 (.sc (.bool false)) fun t165 =>
 p.guard t165 true H (fun k' => k' t142 H) fun t167 H =>
 p.pick t165 t167 (.sc (.bool false)) fun t168 =>
 p.guard t168 true H (fun k' => k' t161 H) fun t170 H =>
 p.pick t168 t170 (.sc (.bool false)) fun t171 =>
 p.guard t171 true H (fun k' => p.fadr 20 t2 fun t' => k' t' H) fun t173 H =>
 p.guard t171 true H (fun k' => p.load false 1 t173 H fun t' => k' t' H) fun t174 H =>
 p.guard t171 true H (fun k' => p.fadr 20 t3 fun t' => k' t' H) fun t175 H =>
 p.guard t171 true H (fun k' => p.load false 1 t175 H fun t' => k' t' H) fun t176 H =>
 p.guard t171 true H (fun k' => p.bin .eql t174 t176 fun t' => k' t' H) fun t177 H =>
 p.pick t171 t177 (.sc (.bool false)) fun t178 =>
 p.guard t178 true H (fun k' => p.fadr 21 t2 fun t' => k' t' H) fun t180 H =>
 p.guard t178 true H (fun k' => p.load false 1 t180 H fun t' => k' t' H) fun t181 H =>
 p.guard t178 true H (fun k' => p.fadr 21 t3 fun t' => k' t' H) fun t182 H =>
 p.guard t178 true H (fun k' => p.load false 1 t182 H fun t' => k' t' H) fun t183 H =>
 p.guard t178 true H (fun k' => p.binB .eql t181 t183 fun t' => k' t' H) fun t184 H =>
 p.pick t178 t184 (.sc (.bool false)) fun t185 =>
 k t185 H
theorem Abh : Km Agz @f82 := fun p n a0 a1 H k => by kernel_rfl
noncomputable def f62 (p : Pr β) (n : Nat) (a0 a1 : AV) (H : Af) (k : KO β) : Option β :=
 p.box a0 H fun t2 H =>
 p.box a1 H fun t3 H =>
 p.fadr 0 t2 fun t5 =>
 p.load false 1 t5 H fun t6 =>
 p.fadr 0 t3 fun t7 =>
 p.load false 1 t7 H fun t8 =>
 p.bin .eql t6 t8 fun t9 =>
 p.guard t9 true H (fun k' => p.fadr 1 t2 fun t' => k' t' H) fun t11 H =>
 p.guard t9 true H (fun k' => p.load false 1 t11 H fun t' => k' t' H) fun t12 H =>
 p.guard t9 true H (fun k' => p.fadr 1 t3 fun t' => k' t' H) fun t13 H =>
 p.guard t9 true H (fun k' => p.load false 1 t13 H fun t' => k' t' H) fun t14 H =>
 p.guard t9 true H (fun k' => p.call 4 (.fn 183 [] []) [t12, t14] H fun t' H => k' t' H) fun t15 H =>
 p.pick t9 t15 (.sc (.bool false)) fun t16 =>
 p.guard t16 true H (fun k' => p.fadr 2 t2 fun t' => k' t' H) fun t18 H =>
 p.guard t16 true H (fun k' => p.load false 1 t18 H fun t' => k' t' H) fun t19 H =>
 p.guard t16 true H (fun k' => p.fadr 2 t3 fun t' => k' t' H) fun t20 H =>
 p.guard t16 true H (fun k' => p.load false 1 t20 H fun t' => k' t' H) fun t21 H =>
 p.guard t16 true H (fun k' => p.bin .eql t19 t21 fun t' => k' t' H) fun t22 H =>
 p.pick t16 t22 (.sc (.bool false)) fun t23 =>
 p.guard t23 true H (fun k' => p.fadr 3 t2 fun t' => k' t' H) fun t25 H =>
 p.guard t23 true H (fun k' => p.load false 1 t25 H fun t' => k' t' H) fun t26 H =>
 p.guard t23 true H (fun k' => p.fadr 3 t3 fun t' => k' t' H) fun t27 H =>
 p.guard t23 true H (fun k' => p.load false 1 t27 H fun t' => k' t' H) fun t28 H =>
 p.guard t23 true H (fun k' => p.binB .eql t26 t28 fun t' => k' t' H) fun t29 H =>
 p.pick t23 t29 (.sc (.bool false)) fun t30 =>
 k t30 H
theorem Abf : Km Agx @f62 := fun p n a0 a1 H k => by kernel_rfl
noncomputable def f145 (p : Pr β) (n : Nat) (a0 : AV) (H : Af) (k : KO β) : Option β :=
 p.box a0 H fun t1 H =>
 p.fadr 0 t1 fun t3 =>
 p.load false 1 t3 H fun t4 =>
 p.bin .eql t4 (.sc (.int .i64 0)) fun t5 =>
 p.guard t5 true H (fun k' => p.fadr 1 t1 fun t' => k' t' H) fun t7 H =>
 p.guard t5 true H (fun k' => p.load false 1 t7 H fun t' => k' t' H) fun t8 H =>
 p.guard t5 true H (fun k' => p.bin .eql t8 (.sc (.int .i64 0)) fun t' => k' t' H) fun t9 H =>
 p.pick t5 t9 (.sc (.bool false)) fun t10 =>
 p.guard t10 true H (fun k' => p.fadr 2 t1 fun t' => k' t' H) fun t12 H =>
 p.guard t10 true H (fun k' => p.load false 1 t12 H fun t' => k' t' H) fun t13 H =>
 p.guard t10 true H (fun k' => p.bin .eql t13 (.sc (.string ⟨#[]⟩)) fun t' => k' t' H) fun t14 H =>
 p.pick t10 t14 (.sc (.bool false)) fun t15 =>
 p.guard t15 true H (fun k' => p.fadr 3 t1 fun t' => k' t' H) fun t17 H =>
 p.guard t15 true H (fun k' => p.load true 25 t17 H fun t' => k' t' H) fun t18 H =>
 p.guard t15 true H (fun k' => p.fill [(.sc (.int .i64 0)), (.sc (.bool false)), (.sc (.int .i64 0)), (.sc (.bool false)), (.sc (.int .i64 0)), (.sc (.string ⟨#[]⟩)), .nl, (.sc (.string ⟨#[]⟩)), (.sc (.int .i64 0)), (.sc (.bool false)), (.sc (.int .i64 0)), (.sc (.bool false)), (.sc (.string ⟨#[]⟩)), .nl, (.sc (.int .i64 0)), (.sc (.bool false)), (.sc (.bool false)), (.sc (.string ⟨#[]⟩)), (.sc (.bool false)), .nl, (.sc (.int .i64 0)), (.sc (.bool false)), .nl, .nl, .nl] [] fun ct' => k' (.agg ct') H) fun t19 H =>
 p.guard t15 true H (fun k' => p.call 4 (.fn 82 [] []) [t18, t19] H fun t' H => k' t' H) fun t20 H =>
 p.pick t15 t20 (.sc (.bool false)) fun t21 =>
 p.guard t21 true H (fun k' => p.fadr 28 t1 fun t' => k' t' H) fun t23 H =>
 p.guard t21 true H (fun k' => p.load false 1 t23 H fun t' => k' t' H) fun t24 H =>
 p.guard t21 true H (fun k' => p.len t24 fun t' => k' t' H) fun t25 H =>
 p.guard t21 true H (fun k' => p.bin .eql t25 (.sc (.int .i64 0)) fun t' => k' t' H) fun t26 H =>
 p.pick t21 t26 (.sc (.bool false)) fun t27 =>
 p.guard t27 true H (fun k' => p.fadr 29 t1 fun t' => k' t' H) fun t29 H =>
 p.guard t27 true H (fun k' => p.load true 4 t29 H fun t' => k' t' H) fun t30 H =>
 p.guard t27 true H (fun k' => p.fill [(.sc (.string ⟨#[]⟩)), .nl, (.sc (.int .i64 0)), (.sc (.bool false))] [] fun ct' => k' (.agg ct') H) fun t31 H =>
 p.guard t27 true H (fun k' => p.call 4 (.fn 62 [] []) [t30, t31] H fun t' H => k' t' H) fun t32 H =>
 p.pick t27 t32 (.sc (.bool false)) fun t33 =>
 p.guard t33 true H (fun k' => p.fadr 33 t1 fun t' => k' t' H) fun t35 H =>
 p.guard t33 true H (fun k' => p.load false 1 t35 H fun t' => k' t' H) fun t36 H =>
 p.guard t33 true H (fun k' => p.len t36 fun t' => k' t' H) fun t37 H =>
 p.guard t33 true H (fun k' => p.bin .eql t37 (.sc (.int .i64 0)) fun t' => k' t' H) fun t38 H =>
 p.pick t33 t38 (.sc (.bool false)) fun t39 =>
 p.guard t39 true H (fun k' => p.fadr 34 t1 fun t' => k' t' H) fun t41 H =>
 p.guard t39 true H (fun k' => p.load false 1 t41 H fun t' => k' t' H) fun t42 H =>
 p.guard t39 true H (fun k' => p.bin .eql t42 (.sc (.int .i64 0)) fun t' => k' t' H) fun t43 H =>
 p.pick t39 t43 (.sc (.bool false)) fun t44 =>
 k t44 H
theorem Yu : Iy Ae5 @f145 := fun p n a0 H k => by kernel_rfl
noncomputable def f149 (p : Pr β) (n : Nat) (a0 a1 a2 : AV) (H : Af) (k : KO β) : Option β :=
 p.bin .geq a0 a1 fun t9 =>
 p.guard t9 true H (fun k' => k' a0 H) fun t11 H =>
 p.guard t9 true H (fun k' => k' a2 H) fun t12 H =>
 p.guard t9 true H (fun k' => p.bin .leq t11 t12 fun t' => k' t' H) fun t13 H =>
 p.pick t9 t13 (.sc (.bool false)) fun t14 =>
 k t14 H
theorem Yx : Bd3 Ae8 @f149 := fun p n a0 a1 a2 H k => by kernel_rfl
noncomputable def f146 (p : Pr β) (n : Nat) (a0 a1 : AV) (H : Af) (k : KO β) : Option β :=
 p.bin .eql a0 (.sc (.int .i64 1)) fun t7 =>
 Kj (fun (t0 t1 t5 t6 : AV) (H : Af) => p.cond t6
 (p.call 4 (.fn 149 [] []) [t1, (.sc (.int .i64 0)), (.sc (.int .i64 5))] H fun t10 H =>
 k t10 H)
 (p.bin .eql t5 (.sc (.int .i64 3)) fun t12 =>
 p.cond t12
 (p.call 4 (.fn 149 [] []) [t1, (.sc (.int .i64 0)), (.sc (.int .i64 4))] H fun t14 H =>
 k t14 H)
 (p.bin .eql t5 (.sc (.int .i64 4)) fun t16 =>
 p.cond t16
 (p.call 4 (.fn 149 [] []) [t1, (.sc (.int .i64 0)), (.sc (.int .i64 3))] H fun t18 H =>
 k t18 H)
 (p.bin .eql t5 (.sc (.int .i64 5)) fun t20 =>
 p.cond t20
 (p.call 4 (.fn 149 [] []) [t1, (.sc (.int .i64 0)), (.sc (.int .i64 1))] H fun t22 H =>
 k t22 H)
 (p.bin .eql t5 (.sc (.int .i64 6)) fun t24 =>
 p.cond t24
 (p.call 4 (.fn 149 [] []) [t1, (.sc (.int .i64 0)), (.sc (.int .i64 3))] H fun t26 H =>
 p.guard t26 false H (fun k' => k' t1 H) fun t28 H =>
 p.guard t26 false H (fun k' => p.call 4 (.fn 149 [] []) [t28, (.sc (.int .i64 6)), (.sc (.int .i64 10))] H fun t' H => k' t' H) fun t29 H =>
 p.pick t26 (.sc (.bool true)) t29 fun t30 =>
 k t30 H)
 (p.bin .eql t5 (.sc (.int .i64 7)) fun t32 =>
 p.cond t32
 (p.bin .eql t1 (.sc (.int .i64 1)) fun t34 =>
 k t34 H)
 (p.bin .eql t0 (.sc (.int .i64 0)) fun t36 =>
 p.guard t36 true H (fun k' => k' t1 H) fun t38 H =>
 p.guard t36 true H (fun k' => p.bin .eql t38 (.sc (.int .i64 0)) fun t' => k' t' H) fun t39 H =>
 p.pick t36 t39 (.sc (.bool false)) fun t40 =>
 k t40 H))))))) fun j1 =>
 p.cond t7
 (j1 a0 a1 a0 t7 H)
 (p.bin .eql a0 (.sc (.int .i64 2)) fun t8 =>
 j1 a0 a1 a0 t8 H)
theorem Yv : Km Ae6 @f146 := fun p n a0 a1 H k => by kernel_rfl
noncomputable def f172 (p : Pr β) (n : Nat) (a0 : AV) (H : Af) (k : KO β) : Option β :=
 p.call 4 (.fn 147 [] []) [a0] H fun t4 H =>
 p.guard t4 true H (fun k' => k' a0 H) fun t6 H =>
 p.guard t4 true H (fun k' => p.bin .neq t6 (.sc (.string ⟨#[]⟩)) fun t' => k' t' H) fun t7 H =>
 p.pick t4 t7 (.sc (.bool false)) fun t8 =>
 k t8 H
theorem Y3 : Iy AeC @f172 := fun p n a0 H k => by kernel_rfl
noncomputable def f197 (p : Pr β) (n : Nat) (a0 : AV) (H : Af) (k : KO β) : Option β :=
 p.call 4 (.fn 149 [] []) [a0, (.sc (.int .i64 0)), (.sc (.int .i64 2))] H fun t4 H =>
 k t4 H
theorem Za : Iy AeJ @f197 := fun p n a0 H k => by kernel_rfl
noncomputable def f148 (p : Pr β) (n : Nat) (a0 : AV) (H : Af) (k : KO β) : Option β :=
 p.box a0 H fun t1 H =>
 p.fadr 0 t1 fun t3 =>
 p.load false 1 t3 H fun t4 =>
 p.call 4 (.fn 172 [] []) [t4] H fun t5 H =>
 p.guard t5 true H (fun k' => p.fadr 1 t1 fun t' => k' t' H) fun t7 H =>
 p.guard t5 true H (fun k' => p.load false 1 t7 H fun t' => k' t' H) fun t8 H =>
 p.guard t5 true H (fun k' => p.call 4 (.fn 197 [] []) [t8] H fun t' H => k' t' H) fun t9 H =>
 p.pick t5 t9 (.sc (.bool false)) fun t10 =>
 p.guard t10 true H (fun k' => p.fadr 2 t1 fun t' => k' t' H) fun t12 H =>
 p.guard t10 true H (fun k' => p.load false 1 t12 H fun t' => k' t' H) fun t13 H =>
 p.guard t10 true H (fun k' => p.bin .geq t13 (.sc (.int .i64 0)) fun t' => k' t' H) fun t14 H =>
 p.pick t10 t14 (.sc (.bool false)) fun t15 =>
 k t15 H
theorem Yw : Iy Ae7 @f148 := fun p n a0 H k => by kernel_rfl
noncomputable def f195 (p : Pr β) (n : Nat) (a0 : AV) (H : Af) (k : KO β) : Option β :=
 p.box a0 H fun t1 H =>
 p.new [(.sc (.int .i64 0)), (.sc (.bool false)), (.sc (.int .i64 0)), (.sc (.bool false)), (.sc (.int .i64 0)), (.sc (.string ⟨#[]⟩)), .nl, (.sc (.string ⟨#[]⟩)), (.sc (.int .i64 0)), (.sc (.bool false)), (.sc (.int .i64 0)), (.sc (.bool false)), (.sc (.string ⟨#[]⟩)), .nl, (.sc (.int .i64 0)), (.sc (.bool false)), (.sc (.bool false)), (.sc (.string ⟨#[]⟩)), (.sc (.bool false)), .nl, (.sc (.int .i64 0)), (.sc (.bool false)), .nl, .nl, .nl] H fun t2 H =>
 p.fadr 0 t1 fun t4 =>
 p.load false 1 t4 H fun t5 =>
 p.fill [(.sc (.int .i64 0)), (.sc (.bool false)), (.sc (.int .i64 0)), (.sc (.bool false)), (.sc (.int .i64 0)), (.sc (.string ⟨#[]⟩)), .nl, (.sc (.string ⟨#[]⟩)), (.sc (.int .i64 0)), (.sc (.bool false)), (.sc (.int .i64 0)), (.sc (.bool false)), (.sc (.string ⟨#[]⟩)), .nl, (.sc (.int .i64 0)), (.sc (.bool false)), (.sc (.bool false)), (.sc (.string ⟨#[]⟩)), (.sc (.bool false)), .nl, (.sc (.int .i64 0)), (.sc (.bool false)), .nl, .nl, .nl] [(0, 1, t5)] fun ct6 =>
 p.new [(.sc (.int .i64 0)), (.sc (.bool false)), (.sc (.int .i64 0)), (.sc (.bool false)), (.sc (.int .i64 0)), (.sc (.string ⟨#[]⟩)), .nl, (.sc (.string ⟨#[]⟩)), (.sc (.int .i64 0)), (.sc (.bool false)), (.sc (.int .i64 0)), (.sc (.bool false)), (.sc (.string ⟨#[]⟩)), .nl, (.sc (.int .i64 0)), (.sc (.bool false)), (.sc (.bool false)), (.sc (.string ⟨#[]⟩)), (.sc (.bool false)), .nl, (.sc (.int .i64 0)), (.sc (.bool false)), .nl, .nl, .nl] H fun t3 H =>
 p.store 25 t3 (.agg ct6) H fun H =>
 p.fadr 0 t1 fun t7 =>
 p.load false 1 t7 H fun t8 =>
 p.bin .eql t8 (.sc (.int .i64 1)) fun t10 =>
 p.cond t10
 (p.fadr 7 t1 fun t11 =>
 p.load false 1 t11 H fun t12 =>
 p.fadr 8 t1 fun t13 =>
 p.fadr 9 t1 fun t15 =>
 p.fadr 10 t1 fun t17 =>
 p.fadr 11 t1 fun t19 =>
 p.fadr 16 t1 fun t21 =>
 p.fadr 7 t3 fun t23 =>
 p.apart t13 [t3] H
 (p.load false 1 t13 H fun t14 =>
 p.apart t15 [t3] H
 (p.load false 1 t15 H fun t16 =>
 p.apart t17 [t3] H
 (p.load false 1 t17 H fun t18 =>
 p.apart t19 [t3] H
 (p.load false 1 t19 H fun t20 =>
 p.apart t21 [t3] H
 (p.load false 1 t21 H fun t22 =>
 p.same t23 t3
 (p.store 1 t23 t12 H fun H =>
 p.fadr 8 t3 fun t24 =>
 p.same t24 t3
 (p.store 1 t24 t14 H fun H =>
 p.fadr 9 t3 fun t25 =>
 p.same t25 t3
 (p.store 1 t25 t16 H fun H =>
 p.fadr 10 t3 fun t26 =>
 p.same t26 t3
 (p.store 1 t26 t18 H fun H =>
 p.fadr 11 t3 fun t27 =>
 p.same t27 t3
 (p.store 1 t27 t20 H fun H =>
 p.fadr 16 t3 fun t28 =>
 p.store 1 t28 t22 H fun H =>
 p.fadr 11 t1 fun t29 =>
 p.load false 1 t29 H fun t30 =>
 Kj (fun (t1 t2 t3 : AV) (H : Af) => p.fadr 16 t1 fun t43 =>
 p.load false 1 t43 H fun t44 =>
 Kj (fun (t1 t2 t3 : AV) (H : Af) => p.fadr 18 t3 fun t51 =>
 p.load false 1 t51 H fun t52 =>
 p.cond t52
 (p.fadr 19 t1 fun t53 =>
 p.load false 1 t53 H fun t54 =>
 p.fadr 19 t3 fun t55 =>
 p.store 1 t55 t54 H fun H =>
 p.load true 25 t3 H fun t120 =>
 p.store 25 t2 t120 H fun H =>
 p.load true 25 t2 H fun r0 =>
 k r0 H)
 (p.load true 25 t3 H fun t120 =>
 p.store 25 t2 t120 H fun H =>
 p.load true 25 t2 H fun r0 =>
 k r0 H)) fun j2 =>
 p.cond t44
 (p.fadr 17 t1 fun t45 =>
 p.load false 1 t45 H fun t46 =>
 p.fadr 18 t1 fun t47 =>
 p.fadr 17 t3 fun t49 =>
 p.apart t47 [t3] H
 (p.load false 1 t47 H fun t48 =>
 p.same t49 t3
 (p.store 1 t49 t46 H fun H =>
 p.fadr 18 t3 fun t50 =>
 p.store 1 t50 t48 H fun H =>
 j2 t1 t2 t3 H)))
 (j2 t1 t2 t3 H)) fun j1 =>
 p.cond t30
 (p.fadr 12 t1 fun t31 =>
 p.load false 1 t31 H fun t32 =>
 p.fadr 13 t1 fun t33 =>
 p.fadr 14 t1 fun t35 =>
 p.fadr 15 t1 fun t37 =>
 p.fadr 12 t3 fun t39 =>
 p.apart t33 [t3] H
 (p.load false 1 t33 H fun t34 =>
 p.apart t35 [t3] H
 (p.load false 1 t35 H fun t36 =>
 p.apart t37 [t3] H
 (p.load false 1 t37 H fun t38 =>
 p.same t39 t3
 (p.store 1 t39 t32 H fun H =>
 p.fadr 13 t3 fun t40 =>
 p.same t40 t3
 (p.store 1 t40 t34 H fun H =>
 p.fadr 14 t3 fun t41 =>
 p.same t41 t3
 (p.store 1 t41 t36 H fun H =>
 p.fadr 15 t3 fun t42 =>
 p.store 1 t42 t38 H fun H =>
 j1 t1 t2 t3 H)))))))
 (j1 t1 t2 t3 H))))))))))))
 (p.bin .eql t8 (.sc (.int .i64 2)) fun t57 =>
 p.cond t57
 (p.fadr 20 t1 fun t58 =>
 p.load false 1 t58 H fun t59 =>
 p.fadr 21 t1 fun t60 =>
 p.fadr 20 t3 fun t62 =>
 p.apart t60 [t3] H
 (p.load false 1 t60 H fun t61 =>
 p.same t62 t3
 (p.store 1 t62 t59 H fun H =>
 p.fadr 21 t3 fun t63 =>
 p.store 1 t63 t61 H fun H =>
 p.load true 25 t3 H fun t120 =>
 p.store 25 t2 t120 H fun H =>
 p.load true 25 t2 H fun r0 =>
 k r0 H)))
 (p.bin .eql t8 (.sc (.int .i64 3)) fun t65 =>
 p.cond t65
 (p.fadr 2 t1 fun t66 =>
 p.load false 1 t66 H fun t67 =>
 p.fadr 3 t1 fun t68 =>
 p.fadr 5 t1 fun t70 =>
 p.fadr 6 t1 fun t72 =>
 p.fadr 2 t3 fun t74 =>
 p.apart t68 [t3] H
 (p.load false 1 t68 H fun t69 =>
 p.apart t70 [t3] H
 (p.load false 1 t70 H fun t71 =>
 p.apart t72 [t3] H
 (p.load false 1 t72 H fun t73 =>
 p.same t74 t3
 (p.store 1 t74 t67 H fun H =>
 p.fadr 3 t3 fun t75 =>
 p.same t75 t3
 (p.store 1 t75 t69 H fun H =>
 p.fadr 5 t3 fun t76 =>
 p.same t76 t3
 (p.store 1 t76 t71 H fun H =>
 p.fadr 6 t3 fun t77 =>
 p.store 1 t77 t73 H fun H =>
 p.fadr 2 t1 fun t78 =>
 p.load false 1 t78 H fun t79 =>
 p.bin .gtr t79 (.sc (.int .i64 0)) fun t80 =>
 p.cond t80
 (p.fadr 1 t1 fun t81 =>
 p.load false 1 t81 H fun t82 =>
 p.fadr 4 t1 fun t83 =>
 p.fadr 1 t3 fun t85 =>
 p.apart t83 [t3] H
 (p.load false 1 t83 H fun t84 =>
 p.same t85 t3
 (p.store 1 t85 t82 H fun H =>
 p.fadr 4 t3 fun t86 =>
 p.store 1 t86 t84 H fun H =>
 p.load true 25 t3 H fun t120 =>
 p.store 25 t2 t120 H fun H =>
 p.load true 25 t2 H fun r0 =>
 k r0 H)))
 (p.load true 25 t3 H fun t120 =>
 p.store 25 t2 t120 H fun H =>
 p.load true 25 t2 H fun r0 =>
 k r0 H))))))))
 (p.bin .eql t8 (.sc (.int .i64 4)) fun t88 =>
 Kj (fun (t1 t2 t3 t8 t87 : AV) (H : Af) => p.cond t87
 (p.fadr 4 t1 fun t93 =>
 p.load false 1 t93 H fun t94 =>
 p.fadr 4 t3 fun t95 =>
 p.store 1 t95 t94 H fun H =>
 p.load true 25 t3 H fun t120 =>
 p.store 25 t2 t120 H fun H =>
 p.load true 25 t2 H fun r0 =>
 k r0 H)
 (p.bin .eql t8 (.sc (.int .i64 8)) fun t97 =>
 p.cond t97
 (p.fadr 4 t1 fun t98 =>
 p.load false 1 t98 H fun t99 =>
 p.fadr 22 t1 fun t100 =>
 p.fadr 4 t3 fun t102 =>
 p.apart t100 [t3] H
 (p.load false 1 t100 H fun t101 =>
 p.same t102 t3
 (p.store 1 t102 t99 H fun H =>
 p.fadr 22 t3 fun t103 =>
 p.store 1 t103 t101 H fun H =>
 p.load true 25 t3 H fun t120 =>
 p.store 25 t2 t120 H fun H =>
 p.load true 25 t2 H fun r0 =>
 k r0 H)))
 (p.bin .eql t8 (.sc (.int .i64 9)) fun t105 =>
 p.cond t105
 (p.fadr 4 t1 fun t106 =>
 p.load false 1 t106 H fun t107 =>
 p.fadr 24 t1 fun t108 =>
 p.fadr 4 t3 fun t110 =>
 p.apart t108 [t3] H
 (p.load false 1 t108 H fun t109 =>
 p.same t110 t3
 (p.store 1 t110 t107 H fun H =>
 p.fadr 24 t3 fun t111 =>
 p.store 1 t111 t109 H fun H =>
 p.load true 25 t3 H fun t120 =>
 p.store 25 t2 t120 H fun H =>
 p.load true 25 t2 H fun r0 =>
 k r0 H)))
 (p.bin .eql t8 (.sc (.int .i64 10)) fun t113 =>
 p.cond t113
 (p.fadr 4 t1 fun t114 =>
 p.load false 1 t114 H fun t115 =>
 p.fadr 23 t1 fun t116 =>
 p.fadr 4 t3 fun t118 =>
 p.apart t116 [t3] H
 (p.load false 1 t116 H fun t117 =>
 p.same t118 t3
 (p.store 1 t118 t115 H fun H =>
 p.fadr 23 t3 fun t119 =>
 p.store 1 t119 t117 H fun H =>
 p.load true 25 t3 H fun t120 =>
 p.store 25 t2 t120 H fun H =>
 p.load true 25 t2 H fun r0 =>
 k r0 H)))
 (p.load true 25 t3 H fun t120 =>
 p.store 25 t2 t120 H fun H =>
 p.load true 25 t2 H fun r0 =>
 k r0 H))))) fun j3 =>
 p.cond t88
 (j3 t1 t2 t3 t8 t88 H)
 (p.bin .eql t8 (.sc (.int .i64 5)) fun t89 =>
 p.cond t89
 (j3 t1 t2 t3 t8 t89 H)
 (p.bin .eql t8 (.sc (.int .i64 6)) fun t90 =>
 p.cond t90
 (j3 t1 t2 t3 t8 t90 H)
 (p.bin .eql t8 (.sc (.int .i64 7)) fun t91 =>
 p.cond t91
 (j3 t1 t2 t3 t8 t91 H)
 (p.bin .eql t8 (.sc (.int .i64 11)) fun t92 =>
 j3 t1 t2 t3 t8 t92 H)))))))
theorem Y8 : Iy AeH @f195 := fun p n a0 H k => by kernel_rfl
noncomputable def f268 (p : Pr β) (n : Nat) (a0 : AV) (H : Af) (k : KO β) : Option β :=
 p.call 33 (.fn 300 [] []) [a0, (.sc (.string ⟨#[47]⟩))] H fun t4 H =>
 k t4 H
theorem Zr : Iy AeU @f268 := fun p n a0 H k => by kernel_rfl
noncomputable def f198 (p : Pr β) (n : Nat) (a0 : AV) (H : Af) (k : KO β) : Option β :=
 p.call 4 (.fn 147 [] []) [a0] H fun t4 H =>
 p.guard t4 true H (fun k' => k' a0 H) fun t6 H =>
 p.guard t4 true H (fun k' => p.bin .neq t6 (.sc (.string ⟨#[]⟩)) fun t' => k' t' H) fun t7 H =>
 p.pick t4 t7 (.sc (.bool false)) fun t8 =>
 p.guard t8 true H (fun k' => k' a0 H) fun t10 H =>
 p.guard t8 true H (fun k' => p.call 4 (.fn 267 [] []) [t10, (.sc (.string ⟨#[43, 35]⟩))] H fun t' H => k' t' H) fun t11 H =>
 p.guard t8 true H (fun k' => p.un .not t11 fun t' => k' t' H) fun t12 H =>
 p.pick t8 t12 (.sc (.bool false)) fun t13 =>
 p.guard t13 true H (fun k' => k' a0 H) fun t15 H =>
 p.guard t13 true H (fun k' => p.call 33 (.fn 268 [] []) [t15] H fun t' H => k' t' H) fun t16 H =>
 p.guard t13 true H (fun k' => p.len t16 fun t' => k' t' H) fun t17 H =>
 p.guard t13 true H (fun k' => p.bin .leq t17 (.sc (.int .i64 6)) fun t' => k' t' H) fun t18 H =>
 p.pick t13 t18 (.sc (.bool false)) fun t19 =>
 k t19 H
theorem Zb : Iy AeK @f198 := fun p n a0 H k => by kernel_rfl
noncomputable def f191 (p : Pr β) (n : Nat) (a0 : AV) (H : Af) (k : KO β) : Option β :=
 p.call 4 (.fn 149 [] []) [a0, (.sc (.int .i64 0)), (.sc (.int .i64 65535))] H fun t4 H =>
 k t4 H
theorem Y7 : Iy AeG @f191 := fun p n a0 H k => by kernel_rfl
noncomputable def f196 (p : Pr β) (n : Nat) (a0 : AV) (H : Af) (k : KO β) : Option β :=
 p.box a0 H fun t1 H =>
 p.fadr 11 t1 fun t4 =>
 p.load false 1 t4 H fun t5 =>
 p.un .not t5 fun t6 =>
 p.guard t6 false H (fun k' => p.fadr 12 t1 fun t' => k' t' H) fun t8 H =>
 p.guard t6 false H (fun k' => p.load false 1 t8 H fun t' => k' t' H) fun t9 H =>
 p.guard t6 false H (fun k' => p.call 4 (.fn 198 [] []) [t9] H fun t' H => k' t' H) fun t10 H =>
 p.guard t6 false H (fun k' => k' t10 H) fun t11 H =>
 p.guard t11 true H (fun k' => p.fadr 13 t1 fun t' => k' t' H) fun t12 H =>
 p.guard t11 true H (fun k' => p.load false 1 t12 H fun t' => k' t' H) fun t13 H =>
 p.guard t11 true H (fun k' => p.len t13 fun t' => k' t' H) fun t14 H =>
 p.guard t11 true H (fun k' => p.bin .leq t14 (.sc (.int .i64 40)) fun t' => k' t' H) fun t15 H =>
 p.guard t6 false H (fun k' => p.pick t11 t15 (.sc (.bool false)) fun t' => k' t' H) fun t16 H =>
 p.guard t6 false H (fun k' => k' t16 H) fun t17 H =>
 p.guard t17 true H (fun k' => p.fadr 14 t1 fun t' => k' t' H) fun t18 H =>
 p.guard t17 true H (fun k' => p.load false 1 t18 H fun t' => k' t' H) fun t19 H =>
 p.guard t17 true H (fun k' => p.call 4 (.fn 197 [] []) [t19] H fun t' H => k' t' H) fun t20 H =>
 p.guard t6 false H (fun k' => p.pick t17 t20 (.sc (.bool false)) fun t' => k' t' H) fun t21 H =>
 p.pick t6 (.sc (.bool true)) t21 fun t22 =>
 p.fadr 8 t1 fun t23 =>
 p.load false 1 t23 H fun t24 =>
 p.call 4 (.fn 149 [] []) [t24, (.sc (.int .i64 0)), (.sc (.int .i64 255))] H fun t25 H =>
 p.guard t25 true H (fun k' => p.fadr 7 t1 fun t' => k' t' H) fun t27 H =>
 p.guard t25 true H (fun k' => p.load false 1 t27 H fun t' => k' t' H) fun t28 H =>
 p.guard t25 true H (fun k' => p.call 4 (.fn 147 [] []) [t28] H fun t' H => k' t' H) fun t29 H =>
 p.pick t25 t29 (.sc (.bool false)) fun t30 =>
 p.guard t30 true H (fun k' => p.fadr 10 t1 fun t' => k' t' H) fun t32 H =>
 p.guard t30 true H (fun k' => p.load false 1 t32 H fun t' => k' t' H) fun t33 H =>
 p.guard t30 true H (fun k' => p.call 4 (.fn 191 [] []) [t33] H fun t' H => k' t' H) fun t34 H =>
 p.pick t30 t34 (.sc (.bool false)) fun t35 =>
 p.guard t35 true H (fun k' => k' t22 H) fun t37 H =>
 p.pick t35 t37 (.sc (.bool false)) fun t38 =>
 p.guard t38 true H (fun k' => p.fadr 17 t1 fun t' => k' t' H) fun t40 H =>
 p.guard t38 true H (fun k' => p.load false 1 t40 H fun t' => k' t' H) fun t41 H =>
 p.guard t38 true H (fun k' => p.call 4 (.fn 147 [] []) [t41] H fun t' H => k' t' H) fun t42 H =>
 p.pick t38 t42 (.sc (.bool false)) fun t43 =>
 p.guard t43 true H (fun k' => p.fadr 19 t1 fun t' => k' t' H) fun t45 H =>
 p.guard t43 true H (fun k' => p.load false 1 t45 H fun t' => k' t' H) fun t46 H =>
 p.guard t43 true H (fun k' => p.len t46 fun t' => k' t' H) fun t47 H =>
 p.guard t43 true H (fun k' => p.bin .leq t47 (.sc (.int .i64 60)) fun t' => k' t' H) fun t48 H =>
 p.pick t43 t48 (.sc (.bool false)) fun t49 =>
 k t49 H
theorem Y9 : Iy AeI @f196 := fun p n a0 H k => by kernel_rfl
noncomputable def f190 (p : Pr β) (n : Nat) (a0 : AV) (H : Af) (k : KO β) : Option β :=
 p.call 4 (.fn 149 [] []) [a0, (.sc (.int .i64 1)), (.sc (.int .i64 65535))] H fun t4 H =>
 k t4 H
theorem Y6 : Iy AeF @f190 := fun p n a0 H k => by kernel_rfl
noncomputable def f301 (p : Pr β) (n : Nat) (a0 a1 : AV) (H : Af) (k : KO β) : Option β :=
 p.call 4 (.fn 267 [] []) [a0, (.sc (.string ⟨#[43, 35]⟩))] H fun t6 H =>
 p.un .not t6 fun t7 =>
 p.guard t7 false H (fun k' => k' a0 H) fun t9 H =>
 p.guard t7 false H (fun k' => p.bin .eql t9 (.sc (.string ⟨#[43]⟩)) fun t' => k' t' H) fun t10 H =>
 p.pick t7 (.sc (.bool true)) t10 fun t11 =>
 p.guard t11 false H (fun k' => k' a0 H) fun t13 H =>
 p.guard t11 false H (fun k' => p.bin .eql t13 (.sc (.string ⟨#[35]⟩)) fun t' => k' t' H) fun t14 H =>
 p.guard t11 false H (fun k' => k' t14 H) fun t15 H =>
 p.guard t15 true H (fun k' => k' a1 H) fun t16 H =>
 p.guard t11 false H (fun k' => p.pick t15 t16 (.sc (.bool false)) fun t' => k' t' H) fun t17 H =>
 p.pick t11 (.sc (.bool true)) t17 fun t18 =>
 k t18 H
theorem Zw : Km AeV @f301 := fun p n a0 a1 H k => by kernel_rfl
end
section
open Go
variable {β : Type}
noncomputable def Jt (p : Pr β) (n : Nat)  (k : KO β) : Nat → AV → AV → AV → AV → KO β
 | 0, _, _, _, _, _, _ => none
 | m + 1, t0, t3, t8, t9, t10, H => p.bin .lss t10 t9 fun t11 =>
   p.cond t11
   (p.iadr 1 t8 t10 fun t13 =>
   p.load false 1 t13 H fun t14 =>
   p.len t3 fun t18 =>
   p.bin .sub t18 (.sc (.int .i64 1)) fun t19 =>
   p.bin .eql t10 t19 fun t20 =>
   p.call 4 (.fn 301 [] []) [t14, t20] H fun t21 H =>
   p.un .not t21 fun t22 =>
   p.cond t22
   (k (.sc (.bool false)) H)
   (p.bin .add t10 (.sc (.int .i64 1)) fun t23 =>
   Jt p n  k m t0 t3 t8 t9 t23 H))
   (p.call 4 (.fn 147 [] []) [t0] H fun t25 H =>
   p.guard t25 true H (fun k' => k' t0 H) fun t27 H =>
   p.guard t25 true H (fun k' => p.bin .neq t27 (.sc (.string ⟨#[]⟩)) fun t' => k' t' H) fun t28 H =>
   p.pick t25 t28 (.sc (.bool false)) fun t29 =>
   p.guard t29 true H (fun k' => k' t3 H) fun t31 H =>
   p.guard t29 true H (fun k' => p.len t31 fun t' => k' t' H) fun t32 H =>
   p.guard t29 true H (fun k' => p.bin .leq t32 (.sc (.int .i64 6)) fun t' => k' t' H) fun t33 H =>
   p.pick t29 t33 (.sc (.bool false)) fun t34 =>
   k t34 H)
noncomputable def f269 (p : Pr β) (n : Nat) (a0 : AV) (H : Af) (k : KO β) : Option β :=
 p.call 33 (.fn 268 [] []) [a0] H fun t7 H =>
 p.len t7 fun t9 =>
 Jt p n  k n a0 t7 t7 t9 (.sc (.int .i64 0)) H
noncomputable def Xa (p : Pr β) (n : Nat)  (k : KO β) (m : Nat) (tm : Tm) (H : Af) : Option β :=
 Cx 35 (fun tm H k => Ak As p [] 35 n (cd Afv [1, 1, 0, 1, 0, 0]) tm H k) (Dy 0 (Dj (fun tm H => Ak As p [] 35 n (cd Afv [1, 1, 1]) tm H (Cc As p fi269.results k)) (Cc As p fi269.results k))) m tm H
theorem Vk (p : Pr β) (n : Nat)  (k : KO β) (m0 : Nat) : ∀ (t : Nat → AV) (H : Af), Xa p n  k m0 (tf 35 0 t) H = Jt p n  k m0 (t 0) (t 3) (t 8) (t 9) (t 10) H := by
 induction m0 with
 | zero => intros; rfl
 | succ m0 ih =>
  intro t H
  refine Eq.trans (Bp (nt := 35) (m := m0) (g := fun t H => Jt p n  k m0 (t 0) (t 3) (t 8) (t 9) (t 10) H) ih rfl) ?_
  kernel_rfl
theorem AaN (p : Pr β) (n : Nat) (a0 : AV) (H : Af) (k : KO β) : B3 As p n fi269 [a0] H k =
 p.call 33 (.fn 268 [] []) [a0] H fun t7 H =>
 p.len t7 fun t9 =>
 Xa p n  k n (tf 35 0 (ud [(0, a0), (2, (.sc (.bool false))), (3, t7), (6, a0), (7, t7), (8, t7), (9, t9), (10, (.sc (.int .i64 0)))] ut)) H := by kernel_rfl
theorem Zs : Iy fi269 @f269 := fun p n a0 H k => by
 rw [AaN]
 simp only [Vk]
 kernel_rfl
noncomputable def Jr (p : Pr β) (n : Nat)  (k : KO β) : Nat → AV → AV → AV → KO β
 | 0, _, _, _, _, _ => none
 | m + 1, t1, t39, t40, t41, H => p.bin .lss t41 t40 fun t42 =>
   p.cond t42
   (p.iadr 1 t39 t41 fun t43 =>
   p.load false 1 t43 H fun t44 =>
   p.call 4 (.fn 197 [] []) [t44] H fun t46 H =>
   p.un .not t46 fun t47 =>
   p.guard t47 true H (fun k' => k' t44 H) fun t49 H =>
   p.guard t47 true H (fun k' => p.bin .neq t49 (.sc (.int .i64 128)) fun t' => k' t' H) fun t50 H =>
   p.pick t47 t50 (.sc (.bool false)) fun t51 =>
   p.cond t51
   (k (.sc (.bool false)) H)
   (p.bin .add t41 (.sc (.int .i64 1)) fun t52 =>
   Jr p n  k m t1 t39 t40 t52 H))
   (p.fadr 22 t1 fun t53 =>
   p.load false 1 t53 H fun t54 =>
   p.len t54 fun t55 =>
   p.fadr 23 t1 fun t56 =>
   p.load false 1 t56 H fun t57 =>
   p.len t57 fun t58 =>
   p.bin .add t55 t58 fun t59 =>
   p.fadr 24 t1 fun t60 =>
   p.load false 1 t60 H fun t61 =>
   p.len t61 fun t62 =>
   p.bin .add t59 t62 fun t63 =>
   p.call 4 (.fn 149 [] []) [t63, (.sc (.int .i64 1)), (.sc (.int .i64 4))] H fun t64 H =>
   k t64 H)
noncomputable def Hn (p : Pr β) (n : Nat)  (k : KO β) : Nat → AV → AV → AV → KO β
 | 0, _, _, _, _, _ => none
 | m + 1, t1, t28, t29, t30, H => p.bin .lss t30 t29 fun t31 =>
   p.cond t31
   (p.iadr 1 t28 t30 fun t32 =>
   p.load false 1 t32 H fun t33 =>
   p.call 4 (.fn 269 [] []) [t33] H fun t35 H =>
   p.un .not t35 fun t36 =>
   p.cond t36
   (k (.sc (.bool false)) H)
   (p.bin .add t30 (.sc (.int .i64 1)) fun t37 =>
   Hn p n  k m t1 t28 t29 t37 H))
   (p.fadr 24 t1 fun t38 =>
   p.load false 1 t38 H fun t39 =>
   p.len t39 fun t40 =>
   Jr p n  k n t1 t39 t40 (.sc (.int .i64 0)) H)
noncomputable def Hm (p : Pr β) (n : Nat)  (k : KO β) : Nat → AV → AV → AV → KO β
 | 0, _, _, _, _, _ => none
 | m + 1, t1, t10, t11, t12, H => p.bin .lss t12 t11 fun t13 =>
   p.cond t13
   (p.iadr 2 t10 t12 fun t14 =>
   p.load true 2 t14 H fun t15 =>
   p.new [(.sc (.string ⟨#[]⟩)), (.sc (.int .i64 0))] H fun t4 H =>
   p.store 2 t4 t15 H fun H =>
   p.fadr 0 t4 fun t16 =>
   p.load false 1 t16 H fun t17 =>
   p.call 4 (.fn 269 [] []) [t17] H fun t18 H =>
   p.un .not t18 fun t19 =>
   p.guard t19 false H (fun k' => p.fadr 1 t4 fun t' => k' t' H) fun t21 H =>
   p.guard t19 false H (fun k' => p.load false 1 t21 H fun t' => k' t' H) fun t22 H =>
   p.guard t19 false H (fun k' => p.call 4 (.fn 197 [] []) [t22] H fun t' H => k' t' H) fun t23 H =>
   p.guard t19 false H (fun k' => p.un .not t23 fun t' => k' t' H) fun t24 H =>
   p.pick t19 (.sc (.bool true)) t24 fun t25 =>
   p.cond t25
   (k (.sc (.bool false)) H)
   (p.bin .add t12 (.sc (.int .i64 1)) fun t26 =>
   Hm p n  k m t1 t10 t11 t26 H))
   (p.fadr 23 t1 fun t27 =>
   p.load false 1 t27 H fun t28 =>
   p.len t28 fun t29 =>
   Hn p n  k n t1 t28 t29 (.sc (.int .i64 0)) H)
noncomputable def f199 (p : Pr β) (n : Nat) (a0 : AV) (H : Af) (k : KO β) : Option β :=
 p.box a0 H fun t1 H =>
 p.fadr 22 t1 fun t9 =>
 p.load false 1 t9 H fun t10 =>
 p.len t10 fun t11 =>
 Hm p n  k n t1 t10 t11 (.sc (.int .i64 0)) H
noncomputable def W4 (p : Pr β) (n : Nat)  (k : KO β) (m : Nat) (tm : Tm) (H : Af) : Option β :=
 Cx 65 (fun tm H k => Ak As p [] 65 n (cd O1 [1, 1, 1, 0, 1, 0, 0]) tm H k) (Dy 4 (Dj (fun tm H => Ak As p [] 65 n (cd O1 [1, 1, 1, 1]) tm H (Cc As p fi199.results k)) (Cc As p fi199.results k))) m tm H
noncomputable def W3 (p : Pr β) (n : Nat)  (k : KO β) (m : Nat) (tm : Tm) (H : Af) : Option β :=
 Cx 65 (fun tm H k => Ak As p [] 65 n (cd O1 [1, 1, 0, 1, 0, 0]) tm H k) (Dy 2 (Dj (fun tm H => Ak As p [] 65 n (cd O1 [1, 1, 1]) tm H (Cc As p fi199.results k)) (Cc As p fi199.results k))) m tm H
noncomputable def W2 (p : Pr β) (n : Nat)  (k : KO β) (m : Nat) (tm : Tm) (H : Af) : Option β :=
 Cx 65 (fun tm H k => Ak As p [] 65 n (cd O1 [1, 0, 1, 0, 0]) tm H k) (Dy 0 (Dj (fun tm H => Ak As p [] 65 n (cd O1 [1, 1]) tm H (Cc As p fi199.results k)) (Cc As p fi199.results k))) m tm H
theorem Pf (p : Pr β) (n : Nat)  (k : KO β) (m2 : Nat) : ∀ (t : Nat → AV) (H : Af), W4 p n  k m2 (tf 65 0 t) H = Jr p n  k m2 (t 1) (t 39) (t 40) (t 41) H := by
 induction m2 with
 | zero => intros; rfl
 | succ m2 ih =>
  intro t H
  refine Eq.trans (Bp (nt := 65) (m := m2) (g := fun t H => Jr p n  k m2 (t 1) (t 39) (t 40) (t 41) H) ih rfl) ?_
  kernel_rfl
theorem Sh (p : Pr β) (n : Nat)  (k : KO β) (m1 : Nat) (t : Nat → AV) (H : Af) : Ak As p [] 65 n (cd O1 [1, 1, 0, 1, 0, 0]) (tf 65 0 t) H (Dj (fun tm H => Hn p n  k m1 (gt tm 1) (gt tm 28) (gt tm 29) (gt tm 30) H) (Dy 2 (Dj (fun tm H => Ak As p [] 65 n (cd O1 [1, 1, 1]) tm H (Cc As p fi199.results k)) (Cc As p fi199.results k)))) =
 p.bin .lss (t 30) (t 29) fun t31 =>
 p.cond t31
 (p.iadr 1 (t 28) (t 30) fun t32 =>
 p.load false 1 t32 H fun t33 =>
 p.call 4 (.fn 269 [] []) [t33] H fun t35 H =>
 p.un .not t35 fun t36 =>
 p.cond t36
 (k (.sc (.bool false)) H)
 (p.bin .add (t 30) (.sc (.int .i64 1)) fun t37 =>
 Hn p n  k m1 (t 1) (t 28) (t 29) t37 H))
 (p.fadr 24 (t 1) fun t38 =>
 p.load false 1 t38 H fun t39 =>
 p.len t39 fun t40 =>
 W4 p n  k n (tf 65 0 (ud [(31, t31), (38, t38), (39, t39), (40, t40), (41, (.sc (.int .i64 0)))] t)) H) := by kernel_rfl
theorem Pe (p : Pr β) (n : Nat)  (k : KO β) (m1 : Nat) : ∀ (t : Nat → AV) (H : Af), W3 p n  k m1 (tf 65 0 t) H = Hn p n  k m1 (t 1) (t 28) (t 29) (t 30) H := by
 induction m1 with
 | zero => intros; rfl
 | succ m1 ih =>
  intro t H
  refine Eq.trans (Bp (nt := 65) (m := m1) (g := fun t H => Hn p n  k m1 (t 1) (t 28) (t 29) (t 30) H) ih rfl) ?_
  refine Eq.trans (Sh p n  k m1 t H) ?_
  simp only [Pf]
  kernel_rfl
theorem Sg (p : Pr β) (n : Nat)  (k : KO β) (m0 : Nat) (t : Nat → AV) (H : Af) : Ak As p [] 65 n (cd O1 [1, 0, 1, 0, 0]) (tf 65 0 t) H (Dj (fun tm H => Hm p n  k m0 (gt tm 1) (gt tm 10) (gt tm 11) (gt tm 12) H) (Dy 0 (Dj (fun tm H => Ak As p [] 65 n (cd O1 [1, 1]) tm H (Cc As p fi199.results k)) (Cc As p fi199.results k)))) =
 p.bin .lss (t 12) (t 11) fun t13 =>
 p.cond t13
 (p.iadr 2 (t 10) (t 12) fun t14 =>
 p.load true 2 t14 H fun t15 =>
 p.new [(.sc (.string ⟨#[]⟩)), (.sc (.int .i64 0))] H fun t4 H =>
 p.store 2 t4 t15 H fun H =>
 p.fadr 0 t4 fun t16 =>
 p.load false 1 t16 H fun t17 =>
 p.call 4 (.fn 269 [] []) [t17] H fun t18 H =>
 p.un .not t18 fun t19 =>
 p.guard t19 false H (fun k' => p.fadr 1 t4 fun t' => k' t' H) fun t21 H =>
 p.guard t19 false H (fun k' => p.load false 1 t21 H fun t' => k' t' H) fun t22 H =>
 p.guard t19 false H (fun k' => p.call 4 (.fn 197 [] []) [t22] H fun t' H => k' t' H) fun t23 H =>
 p.guard t19 false H (fun k' => p.un .not t23 fun t' => k' t' H) fun t24 H =>
 p.pick t19 (.sc (.bool true)) t24 fun t25 =>
 p.cond t25
 (k (.sc (.bool false)) H)
 (p.bin .add (t 12) (.sc (.int .i64 1)) fun t26 =>
 Hm p n  k m0 (t 1) (t 10) (t 11) t26 H))
 (p.fadr 23 (t 1) fun t27 =>
 p.load false 1 t27 H fun t28 =>
 p.len t28 fun t29 =>
 W3 p n  k n (tf 65 0 (ud [(13, t13), (27, t27), (28, t28), (29, t29), (30, (.sc (.int .i64 0)))] t)) H) := by kernel_rfl
theorem Ve (p : Pr β) (n : Nat)  (k : KO β) (m0 : Nat) : ∀ (t : Nat → AV) (H : Af), W2 p n  k m0 (tf 65 0 t) H = Hm p n  k m0 (t 1) (t 10) (t 11) (t 12) H := by
 induction m0 with
 | zero => intros; rfl
 | succ m0 ih =>
  intro t H
  refine Eq.trans (Bp (nt := 65) (m := m0) (g := fun t H => Hm p n  k m0 (t 1) (t 10) (t 11) (t 12) H) ih rfl) ?_
  refine Eq.trans (Sg p n  k m0 t H) ?_
  simp only [Pe]
  kernel_rfl
theorem AaH (p : Pr β) (n : Nat) (a0 : AV) (H : Af) (k : KO β) : B3 As p n fi199 [a0] H k =
 p.box a0 H fun t1 H =>
 p.fadr 22 t1 fun t9 =>
 p.load false 1 t9 H fun t10 =>
 p.len t10 fun t11 =>
 W2 p n  k n (tf 65 0 (ud [(0, a0), (1, t1), (2, (.sc (.bool false))), (9, t9), (10, t10), (11, t11), (12, (.sc (.int .i64 0)))] ut)) H := by kernel_rfl
theorem Zc : Iy fi199 @f199 := fun p n a0 H k => by
 rw [AaH]
 simp only [Pf, Pe, Ve]
 kernel_rfl
noncomputable def f76 (p : Pr β) (n : Nat) (a0 : AV) (H : Af) (k : KO β) : Option β :=
 p.box a0 H fun t1 H =>
 p.fadr 0 t1 fun t3 =>
 p.load false 1 t3 H fun t4 =>
 p.call 4 (.fn 149 [] []) [t4, (.sc (.int .i64 1)), (.sc (.int .i64 14))] H fun t5 H =>
 p.un .not t5 fun t6 =>
 p.guard t6 false H (fun k' => p.load true 25 t1 H fun t' => k' t' H) fun t9 H =>
 p.both
 (p.guard t6 false H (fun k' => p.load true 25 t1 H fun t' => k' t' H) fun t8 H =>
 p.guard t6 false H (fun k' => p.call 36 (.fn 195 [] []) [t9] H fun t' H => k' t' H) fun t10 H =>
 p.guard t6 false H (fun k' => p.call 4 (.fn 82 [] []) [t8, t10] H fun t' H => k' t' H) fun t11 H =>
 p.guard t6 false H (fun k' => p.un .not t11 fun t' => k' t' H) fun t12 H =>
 p.pick t6 (.sc (.bool true)) t12 fun t13 =>
 p.cond t13
 (k (.sc (.bool false)) H)
 (p.fadr 0 t1 fun t14 =>
 p.load false 1 t14 H fun t15 =>
 p.bin .eql t15 (.sc (.int .i64 1)) fun t17 =>
 p.cond t17
 (p.load true 25 t1 H fun t18 =>
 p.call 4 (.fn 196 [] []) [t18] H fun t19 H =>
 k t19 H)
 (p.bin .eql t15 (.sc (.int .i64 2)) fun t21 =>
 p.cond t21
 (p.fadr 20 t1 fun t22 =>
 p.load false 1 t22 H fun t23 =>
 p.call 4 (.fn 149 [] []) [t23, (.sc (.int .i64 0)), (.sc (.int .i64 5))] H fun t24 H =>
 p.guard t24 true H (fun k' => p.fadr 21 t1 fun t' => k' t' H) fun t26 H =>
 p.guard t24 true H (fun k' => p.load false 1 t26 H fun t' => k' t' H) fun t27 H =>
 p.guard t24 true H (fun k' => p.un .not t27 fun t' => k' t' H) fun t28 H =>
 p.guard t24 true H (fun k' => k' t28 H) fun t29 H =>
 p.guard t29 false H (fun k' => p.fadr 20 t1 fun t' => k' t' H) fun t30 H =>
 p.guard t29 false H (fun k' => p.load false 1 t30 H fun t' => k' t' H) fun t31 H =>
 p.guard t29 false H (fun k' => p.bin .eql t31 (.sc (.int .i64 0)) fun t' => k' t' H) fun t32 H =>
 p.guard t24 true H (fun k' => p.pick t29 (.sc (.bool true)) t32 fun t' => k' t' H) fun t33 H =>
 p.pick t24 t33 (.sc (.bool false)) fun t34 =>
 k t34 H)
 (p.bin .eql t15 (.sc (.int .i64 3)) fun t36 =>
 p.cond t36
 (p.fadr 2 t1 fun t37 =>
 p.load false 1 t37 H fun t38 =>
 p.call 4 (.fn 197 [] []) [t38] H fun t39 H =>
 p.guard t39 true H (fun k' => p.fadr 5 t1 fun t' => k' t' H) fun t41 H =>
 p.guard t39 true H (fun k' => p.load false 1 t41 H fun t' => k' t' H) fun t42 H =>
 p.guard t39 true H (fun k' => p.call 4 (.fn 198 [] []) [t42] H fun t' H => k' t' H) fun t43 H =>
 p.pick t39 t43 (.sc (.bool false)) fun t44 =>
 p.guard t44 true H (fun k' => p.fadr 6 t1 fun t' => k' t' H) fun t46 H =>
 p.guard t44 true H (fun k' => p.load false 1 t46 H fun t' => k' t' H) fun t47 H =>
 p.guard t44 true H (fun k' => p.len t47 fun t' => k' t' H) fun t48 H =>
 p.guard t44 true H (fun k' => p.bin .leq t48 (.sc (.int .i64 40)) fun t' => k' t' H) fun t49 H =>
 p.pick t44 t49 (.sc (.bool false)) fun t50 =>
 p.guard t50 true H (fun k' => p.fadr 2 t1 fun t' => k' t' H) fun t52 H =>
 p.guard t50 true H (fun k' => p.load false 1 t52 H fun t' => k' t' H) fun t53 H =>
 p.guard t50 true H (fun k' => p.bin .eql t53 (.sc (.int .i64 0)) fun t' => k' t' H) fun t54 H =>
 p.guard t50 true H (fun k' => k' t54 H) fun t55 H =>
 p.guard t55 false H (fun k' => p.fadr 4 t1 fun t' => k' t' H) fun t56 H =>
 p.guard t55 false H (fun k' => p.load false 1 t56 H fun t' => k' t' H) fun t57 H =>
 p.guard t55 false H (fun k' => p.call 4 (.fn 190 [] []) [t57] H fun t' H => k' t' H) fun t58 H =>
 p.guard t50 true H (fun k' => p.pick t55 (.sc (.bool true)) t58 fun t' => k' t' H) fun t59 H =>
 p.pick t50 t59 (.sc (.bool false)) fun t60 =>
 k t60 H)
 (p.bin .eql t15 (.sc (.int .i64 4)) fun t62 =>
 Kj (fun (t1 t15 t61 : AV) (H : Af) => p.cond t61
 (p.fadr 4 t1 fun t67 =>
 p.load false 1 t67 H fun t68 =>
 p.call 4 (.fn 190 [] []) [t68] H fun t69 H =>
 k t69 H)
 (p.bin .eql t15 (.sc (.int .i64 8)) fun t71 =>
 Kj (fun (t1 t70 : AV) (H : Af) => p.cond t70
 (p.fadr 4 t1 fun t74 =>
 p.load false 1 t74 H fun t75 =>
 p.call 4 (.fn 190 [] []) [t75] H fun t76 H =>
 p.guard t76 true H (fun k' => p.load true 25 t1 H fun t' => k' t' H) fun t78 H =>
 p.guard t76 true H (fun k' => p.call 4 (.fn 199 [] []) [t78] H fun t' H => k' t' H) fun t79 H =>
 p.pick t76 t79 (.sc (.bool false)) fun t80 =>
 k t80 H)
 (k (.sc (.bool true)) H)) fun j2 =>
 p.cond t71
 (j2 t1 t71 H)
 (p.bin .eql t15 (.sc (.int .i64 9)) fun t72 =>
 p.cond t72
 (j2 t1 t72 H)
 (p.bin .eql t15 (.sc (.int .i64 10)) fun t73 =>
 j2 t1 t73 H)))) fun j1 =>
 p.cond t62
 (j1 t1 t15 t62 H)
 (p.bin .eql t15 (.sc (.int .i64 5)) fun t63 =>
 p.cond t63
 (j1 t1 t15 t63 H)
 (p.bin .eql t15 (.sc (.int .i64 6)) fun t64 =>
 p.cond t64
 (j1 t1 t15 t64 H)
 (p.bin .eql t15 (.sc (.int .i64 7)) fun t65 =>
 p.cond t65
 (j1 t1 t15 t65 H)
 (p.bin .eql t15 (.sc (.int .i64 11)) fun t66 =>
 j1 t1 t15 t66 H)))))))))
 (p.guard t6 false H (fun k' => p.call 36 (.fn 195 [] []) [t9] H fun t' H => k' t' H) fun t10 H =>
 p.guard t6 false H (fun k' => p.load true 25 t1 H fun t' => k' t' H) fun t8 H =>
 p.guard t6 false H (fun k' => p.call 4 (.fn 82 [] []) [t8, t10] H fun t' H => k' t' H) fun t11 H =>
 p.guard t6 false H (fun k' => p.un .not t11 fun t' => k' t' H) fun t12 H =>
 p.pick t6 (.sc (.bool true)) t12 fun t13 =>
 p.cond t13
 (k (.sc (.bool false)) H)
 (p.fadr 0 t1 fun t14 =>
 p.load false 1 t14 H fun t15 =>
 p.bin .eql t15 (.sc (.int .i64 1)) fun t17 =>
 p.cond t17
 (p.load true 25 t1 H fun t18 =>
 p.call 4 (.fn 196 [] []) [t18] H fun t19 H =>
 k t19 H)
 (p.bin .eql t15 (.sc (.int .i64 2)) fun t21 =>
 p.cond t21
 (p.fadr 20 t1 fun t22 =>
 p.load false 1 t22 H fun t23 =>
 p.call 4 (.fn 149 [] []) [t23, (.sc (.int .i64 0)), (.sc (.int .i64 5))] H fun t24 H =>
 p.guard t24 true H (fun k' => p.fadr 21 t1 fun t' => k' t' H) fun t26 H =>
 p.guard t24 true H (fun k' => p.load false 1 t26 H fun t' => k' t' H) fun t27 H =>
 p.guard t24 true H (fun k' => p.un .not t27 fun t' => k' t' H) fun t28 H =>
 p.guard t24 true H (fun k' => k' t28 H) fun t29 H =>
 p.guard t29 false H (fun k' => p.fadr 20 t1 fun t' => k' t' H) fun t30 H =>
 p.guard t29 false H (fun k' => p.load false 1 t30 H fun t' => k' t' H) fun t31 H =>
 p.guard t29 false H (fun k' => p.bin .eql t31 (.sc (.int .i64 0)) fun t' => k' t' H) fun t32 H =>
 p.guard t24 true H (fun k' => p.pick t29 (.sc (.bool true)) t32 fun t' => k' t' H) fun t33 H =>
 p.pick t24 t33 (.sc (.bool false)) fun t34 =>
 k t34 H)
 (p.bin .eql t15 (.sc (.int .i64 3)) fun t36 =>
 p.cond t36
 (p.fadr 2 t1 fun t37 =>
 p.load false 1 t37 H fun t38 =>
 p.call 4 (.fn 197 [] []) [t38] H fun t39 H =>
 p.guard t39 true H (fun k' => p.fadr 5 t1 fun t' => k' t' H) fun t41 H =>
 p.guard t39 true H (fun k' => p.load false 1 t41 H fun t' => k' t' H) fun t42 H =>
 p.guard t39 true H (fun k' => p.call 4 (.fn 198 [] []) [t42] H fun t' H => k' t' H) fun t43 H =>
 p.pick t39 t43 (.sc (.bool false)) fun t44 =>
 p.guard t44 true H (fun k' => p.fadr 6 t1 fun t' => k' t' H) fun t46 H =>
 p.guard t44 true H (fun k' => p.load false 1 t46 H fun t' => k' t' H) fun t47 H =>
 p.guard t44 true H (fun k' => p.len t47 fun t' => k' t' H) fun t48 H =>
 p.guard t44 true H (fun k' => p.bin .leq t48 (.sc (.int .i64 40)) fun t' => k' t' H) fun t49 H =>
 p.pick t44 t49 (.sc (.bool false)) fun t50 =>
 p.guard t50 true H (fun k' => p.fadr 2 t1 fun t' => k' t' H) fun t52 H =>
 p.guard t50 true H (fun k' => p.load false 1 t52 H fun t' => k' t' H) fun t53 H =>
 p.guard t50 true H (fun k' => p.bin .eql t53 (.sc (.int .i64 0)) fun t' => k' t' H) fun t54 H =>
 p.guard t50 true H (fun k' => k' t54 H) fun t55 H =>
 p.guard t55 false H (fun k' => p.fadr 4 t1 fun t' => k' t' H) fun t56 H =>
 p.guard t55 false H (fun k' => p.load false 1 t56 H fun t' => k' t' H) fun t57 H =>
 p.guard t55 false H (fun k' => p.call 4 (.fn 190 [] []) [t57] H fun t' H => k' t' H) fun t58 H =>
 p.guard t50 true H (fun k' => p.pick t55 (.sc (.bool true)) t58 fun t' => k' t' H) fun t59 H =>
 p.pick t50 t59 (.sc (.bool false)) fun t60 =>
 k t60 H)
 (p.bin .eql t15 (.sc (.int .i64 4)) fun t62 =>
 Kj (fun (t1 t15 t61 : AV) (H : Af) => p.cond t61
 (p.fadr 4 t1 fun t67 =>
 p.load false 1 t67 H fun t68 =>
 p.call 4 (.fn 190 [] []) [t68] H fun t69 H =>
 k t69 H)
 (p.bin .eql t15 (.sc (.int .i64 8)) fun t71 =>
 Kj (fun (t1 t70 : AV) (H : Af) => p.cond t70
 (p.fadr 4 t1 fun t74 =>
 p.load false 1 t74 H fun t75 =>
 p.call 4 (.fn 190 [] []) [t75] H fun t76 H =>
 p.guard t76 true H (fun k' => p.load true 25 t1 H fun t' => k' t' H) fun t78 H =>
 p.guard t76 true H (fun k' => p.call 4 (.fn 199 [] []) [t78] H fun t' H => k' t' H) fun t79 H =>
 p.pick t76 t79 (.sc (.bool false)) fun t80 =>
 k t80 H)
 (k (.sc (.bool true)) H)) fun j4 =>
 p.cond t71
 (j4 t1 t71 H)
 (p.bin .eql t15 (.sc (.int .i64 9)) fun t72 =>
 p.cond t72
 (j4 t1 t72 H)
 (p.bin .eql t15 (.sc (.int .i64 10)) fun t73 =>
 j4 t1 t73 H)))) fun j3 =>
 p.cond t62
 (j3 t1 t15 t62 H)
 (p.bin .eql t15 (.sc (.int .i64 5)) fun t63 =>
 p.cond t63
 (j3 t1 t15 t63 H)
 (p.bin .eql t15 (.sc (.int .i64 6)) fun t64 =>
 p.cond t64
 (j3 t1 t15 t64 H)
 (p.bin .eql t15 (.sc (.int .i64 7)) fun t65 =>
 p.cond t65
 (j3 t1 t15 t65 H)
 (p.bin .eql t15 (.sc (.int .i64 11)) fun t66 =>
 j3 t1 t15 t66 H)))))))))
theorem Abg : Iy Agy @f76 := fun p n a0 H k => by kernel_rfl
noncomputable def f150 (p : Pr β) (n : Nat) (a0 : AV) (H : Af) (k : KO β) : Option β :=
 p.bin .eql a0 (.sc (.int .i64 1)) fun t5 =>
 p.cond t5
 (k (.sc (.int .i64 1)) H)
 (p.bin .eql a0 (.sc (.int .i64 3)) fun t7 =>
 p.cond t7
 (k (.sc (.int .i64 2)) H)
 (p.bin .eql a0 (.sc (.int .i64 8)) fun t9 =>
 p.cond t9
 (k (.sc (.int .i64 3)) H)
 (p.bin .eql a0 (.sc (.int .i64 10)) fun t11 =>
 p.cond t11
 (k (.sc (.int .i64 4)) H)
 (p.bin .eql a0 (.sc (.int .i64 4)) fun t13 =>
 Kj (fun (t12 : AV) (H : Af) => p.cond t12
 (k (.sc (.int .i64 5)) H)
 (k (.sc (.int .i64 0)) H)) fun j1 =>
 p.cond t13
 (j1 t13 H)
 (p.bin .eql a0 (.sc (.int .i64 5)) fun t14 =>
 p.cond t14
 (j1 t14 H)
 (p.bin .eql a0 (.sc (.int .i64 6)) fun t15 =>
 p.cond t15
 (j1 t15 H)
 (p.bin .eql a0 (.sc (.int .i64 7)) fun t16 =>
 j1 t16 H)))))))
theorem Yy : Iy Ae9 @f150 := fun p n a0 H k => by kernel_rfl
noncomputable def f151 (p : Pr β) (n : Nat) (a0 : AV) (H : Af) (k : KO β) : Option β :=
 p.box a0 H fun t1 H =>
 p.fadr 0 t1 fun t3 =>
 p.load false 1 t3 H fun t4 =>
 p.call 4 (.fn 198 [] []) [t4] H fun t5 H =>
 p.guard t5 true H (fun k' => p.fadr 1 t1 fun t' => k' t' H) fun t7 H =>
 p.guard t5 true H (fun k' => p.load false 1 t7 H fun t' => k' t' H) fun t8 H =>
 p.guard t5 true H (fun k' => p.len t8 fun t' => k' t' H) fun t9 H =>
 p.guard t5 true H (fun k' => p.bin .leq t9 (.sc (.int .i64 40)) fun t' => k' t' H) fun t10 H =>
 p.pick t5 t10 (.sc (.bool false)) fun t11 =>
 p.guard t11 true H (fun k' => p.fadr 2 t1 fun t' => k' t' H) fun t13 H =>
 p.guard t11 true H (fun k' => p.load false 1 t13 H fun t' => k' t' H) fun t14 H =>
 p.guard t11 true H (fun k' => p.call 4 (.fn 197 [] []) [t14] H fun t' H => k' t' H) fun t15 H =>
 p.pick t11 t15 (.sc (.bool false)) fun t16 =>
 k t16 H
theorem Yz : Iy AeA @f151 := fun p n a0 H k => by kernel_rfl
noncomputable def Mf (p : Pr β) (n : Nat)  (k : KO β) : Nat → AV → AV → KO β
 | 0, _, _, _, _ => none
 | m + 1, t5, t6, t7, H => p.bin .lss t7 t6 fun t8 =>
   p.cond t8
   (p.iadr 4 t5 t7 fun t9 =>
   p.load true 4 t9 H fun t10 =>
   p.new [(.sc (.string ⟨#[]⟩)), .nl, (.sc (.int .i64 0)), (.sc (.bool false))] H fun t4 H =>
   p.store 4 t4 t10 H fun H =>
   p.load true 4 t4 H fun t11 =>
   p.call 4 (.fn 151 [] []) [t11] H fun t12 H =>
   p.un .not t12 fun t13 =>
   p.cond t13
   (k (.sc (.bool false)) H)
   (p.bin .add t7 (.sc (.int .i64 1)) fun t14 =>
   Mf p n  k m t5 t6 t14 H))
   (k (.sc (.bool true)) H)
noncomputable def f152 (p : Pr β) (n : Nat) (a0 : AV) (H : Af) (k : KO β) : Option β :=
 p.len a0 fun t6 =>
 Mf p n  k n a0 t6 (.sc (.int .i64 0)) H
noncomputable def Wz (p : Pr β) (n : Nat)  (k : KO β) (m : Nat) (tm : Tm) (H : Af) : Option β :=
 Cx 15 (fun tm H k => Ak As p [] 15 n (cd Afo [1, 0, 1, 0, 0]) tm H k) (Dy 0 (Dj (fun tm H => Ak As p [] 15 n (cd Afo [1, 1]) tm H (Cc As p fi152.results k)) (Cc As p fi152.results k))) m tm H
theorem Vc (p : Pr β) (n : Nat)  (k : KO β) (m0 : Nat) : ∀ (t : Nat → AV) (H : Af), Wz p n  k m0 (tf 15 0 t) H = Mf p n  k m0 (t 5) (t 6) (t 7) H := by
 induction m0 with
 | zero => intros; rfl
 | succ m0 ih =>
  intro t H
  refine Eq.trans (Bp (nt := 15) (m := m0) (g := fun t H => Mf p n  k m0 (t 5) (t 6) (t 7) H) ih rfl) ?_
  kernel_rfl
theorem AaE (p : Pr β) (n : Nat) (a0 : AV) (H : Af) (k : KO β) : B3 As p n fi152 [a0] H k =
 p.len a0 fun t6 =>
 Wz p n  k n (tf 15 0 (ud [(0, a0), (2, (.sc (.bool false))), (5, a0), (6, t6), (7, (.sc (.int .i64 0)))] ut)) H := by kernel_rfl
theorem Y0 : Iy fi152 @f152 := fun p n a0 H k => by
 rw [AaE]
 simp only [Vc]
 kernel_rfl
noncomputable def Lv (p : Pr β) (n : Nat)  (k : KO β) : Nat → AV → AV → AV → KO β
 | 0, _, _, _, _, _ => none
 | m + 1, t1, t48, t49, t50, H => p.bin .lss t50 t49 fun t51 =>
   p.cond t51
   (p.iadr 3 t48 t50 fun t52 =>
   p.load true 3 t52 H fun t53 =>
   p.new [(.sc (.string ⟨#[]⟩)), (.sc (.int .i64 0)), (.sc (.int .i64 0))] H fun t5 H =>
   p.store 3 t5 t53 H fun H =>
   p.load true 3 t5 H fun t54 =>
   p.call 4 (.fn 148 [] []) [t54] H fun t55 H =>
   p.un .not t55 fun t56 =>
   p.cond t56
   (k (.sc (.bool false)) H)
   (p.bin .add t50 (.sc (.int .i64 1)) fun t57 =>
   Lv p n  k m t1 t48 t49 t57 H))
   (p.fadr 3 t1 fun t58 =>
   p.load true 25 t58 H fun t59 =>
   p.fill [(.sc (.int .i64 0)), (.sc (.bool false)), (.sc (.int .i64 0)), (.sc (.bool false)), (.sc (.int .i64 0)), (.sc (.string ⟨#[]⟩)), .nl, (.sc (.string ⟨#[]⟩)), (.sc (.int .i64 0)), (.sc (.bool false)), (.sc (.int .i64 0)), (.sc (.bool false)), (.sc (.string ⟨#[]⟩)), .nl, (.sc (.int .i64 0)), (.sc (.bool false)), (.sc (.bool false)), (.sc (.string ⟨#[]⟩)), (.sc (.bool false)), .nl, (.sc (.int .i64 0)), (.sc (.bool false)), .nl, .nl, .nl] [] fun ct60 =>
   p.call 4 (.fn 82 [] []) [t59, (.agg ct60)] H fun t61 H =>
   p.fadr 0 t1 fun t62 =>
   p.load false 1 t62 H fun t63 =>
   p.call 4 (.fn 149 [] []) [t63, (.sc (.int .i64 1)), (.sc (.int .i64 5))] H fun t64 H =>
   Kj (fun (t1 t6 : AV) (H : Af) => p.fadr 0 t1 fun t77 =>
   p.load false 1 t77 H fun t78 =>
   p.bin .eql t78 (.sc (.int .i64 2)) fun t79 =>
   p.guard t79 true H (fun k' => p.fadr 1 t1 fun t' => k' t' H) fun t81 H =>
   p.guard t79 true H (fun k' => p.load false 1 t81 H fun t' => k' t' H) fun t82 H =>
   p.guard t79 true H (fun k' => p.bin .eql t82 (.sc (.int .i64 5)) fun t' => k' t' H) fun t83 H =>
   p.pick t79 t83 (.sc (.bool false)) fun t84 =>
   p.guard t84 false H (fun k' => p.fadr 0 t1 fun t' => k' t' H) fun t86 H =>
   p.guard t84 false H (fun k' => p.load false 1 t86 H fun t' => k' t' H) fun t87 H =>
   p.guard t84 false H (fun k' => p.bin .eql t87 (.sc (.int .i64 6)) fun t' => k' t' H) fun t88 H =>
   p.guard t84 false H (fun k' => k' t88 H) fun t89 H =>
   p.guard t89 true H (fun k' => p.fadr 1 t1 fun t' => k' t' H) fun t90 H =>
   p.guard t89 true H (fun k' => p.load false 1 t90 H fun t' => k' t' H) fun t91 H =>
   p.guard t89 true H (fun k' => p.bin .eql t91 (.sc (.int .i64 10)) fun t' => k' t' H) fun t92 H =>
   p.guard t84 false H (fun k' => p.pick t89 t92 (.sc (.bool false)) fun t' => k' t' H) fun t93 H =>
   p.pick t84 (.sc (.bool true)) t93 fun t94 =>
   p.fadr 0 t1 fun t95 =>
   p.load false 1 t95 H fun t96 =>
   p.bin .eql t96 (.sc (.int .i64 7)) fun t97 =>
   p.guard t97 true H (fun k' => p.fadr 34 t1 fun t' => k' t' H) fun t99 H =>
   p.guard t97 true H (fun k' => p.load false 1 t99 H fun t' => k' t' H) fun t100 H =>
   p.guard t97 true H (fun k' => p.bin .neq t100 (.sc (.int .i64 0)) fun t' => k' t' H) fun t101 H =>
   p.pick t97 t101 (.sc (.bool false)) fun t102 =>
   p.cond t102
   (k (.sc (.bool false)) H)
   (p.guard t6 true H (fun k' => p.fadr 29 t1 fun t' => k' t' H) fun t105 H =>
   p.guard t6 true H (fun k' => p.load true 4 t105 H fun t' => k' t' H) fun t106 H =>
   p.guard t6 true H (fun k' => p.call 4 (.fn 151 [] []) [t106] H fun t' H => k' t' H) fun t107 H =>
   p.guard t6 true H (fun k' => k' t107 H) fun t108 H =>
   p.guard t108 false H (fun k' => p.fadr 29 t1 fun t' => k' t' H) fun t109 H =>
   p.guard t108 false H (fun k' => p.load true 4 t109 H fun t' => k' t' H) fun t110 H =>
   p.guard t108 false H (fun k' => p.fill [(.sc (.string ⟨#[]⟩)), .nl, (.sc (.int .i64 0)), (.sc (.bool false))] [] fun ct' => k' (.agg ct') H) fun t111 H =>
   p.guard t108 false H (fun k' => p.call 4 (.fn 62 [] []) [t110, t111] H fun t' H => k' t' H) fun t112 H =>
   p.guard t6 true H (fun k' => p.pick t108 (.sc (.bool true)) t112 fun t' => k' t' H) fun t113 H =>
   p.pick t6 t113 (.sc (.bool false)) fun t114 =>
   p.guard t114 true H (fun k' => p.fadr 33 t1 fun t' => k' t' H) fun t116 H =>
   p.guard t114 true H (fun k' => p.load false 1 t116 H fun t' => k' t' H) fun t117 H =>
   p.guard t114 true H (fun k' => p.call 4 (.fn 152 [] []) [t117] H fun t' H => k' t' H) fun t118 H =>
   p.pick t114 t118 (.sc (.bool false)) fun t119 =>
   p.guard t119 true H (fun k' => p.fadr 28 t1 fun t' => k' t' H) fun t121 H =>
   p.guard t119 true H (fun k' => p.load false 1 t121 H fun t' => k' t' H) fun t122 H =>
   p.guard t119 true H (fun k' => p.len t122 fun t' => k' t' H) fun t123 H =>
   p.guard t119 true H (fun k' => p.bin .gtr t123 (.sc (.int .i64 0)) fun t' => k' t' H) fun t124 H =>
   p.guard t119 true H (fun k' => k' t124 H) fun t125 H =>
   p.guard t125 false H (fun k' => k' t94 H) fun t126 H =>
   p.guard t125 false H (fun k' => p.un .not t126 fun t' => k' t' H) fun t127 H =>
   p.guard t119 true H (fun k' => p.pick t125 (.sc (.bool true)) t127 fun t' => k' t' H) fun t128 H =>
   p.pick t119 t128 (.sc (.bool false)) fun t129 =>
   k t129 H)) fun j1 =>
   p.cond t64
   (p.fadr 3 t1 fun t65 =>
   p.load true 25 t65 H fun t66 =>
   p.call 4 (.fn 76 [] []) [t66] H fun t67 H =>
   p.guard t67 true H (fun k' => p.fadr 3 t1 fun t' => k' t' H) fun t69 H =>
   p.guard t67 true H (fun k' => p.fadr 0 t69 fun t' => k' t' H) fun t70 H =>
   p.guard t67 true H (fun k' => p.load false 1 t70 H fun t' => k' t' H) fun t71 H =>
   p.guard t67 true H (fun k' => p.fadr 0 t1 fun t' => k' t' H) fun t73 H =>
   p.guard t67 true H (fun k' => p.load false 1 t73 H fun t' => k' t' H) fun t74 H =>
   p.guard t67 true H (fun k' => p.call 3 (.fn 150 [] []) [t71] H fun t' H => k' t' H) fun t72 H =>
   p.guard t67 true H (fun k' => p.bin .eql t72 t74 fun t' => k' t' H) fun t75 H =>
   p.pick t67 t75 (.sc (.bool false)) fun t76 =>
   j1 t1 t76 H)
   (j1 t1 t61 H))
noncomputable def f44 (p : Pr β) (n : Nat) (a0 : AV) (H : Af) (k : KO β) : Option β :=
 p.box a0 H fun t1 H =>
 p.fadr 0 t1 fun t8 =>
 p.load false 1 t8 H fun t9 =>
 p.bin .eql t9 (.sc (.int .i64 0)) fun t10 =>
 p.cond t10
 (p.load true 35 t1 H fun t11 =>
 p.call 4 (.fn 145 [] []) [t11] H fun t12 H =>
 k t12 H)
 (p.fadr 0 t1 fun t13 =>
 p.load false 1 t13 H fun t14 =>
 p.bin .eql t14 (.sc (.int .i64 6)) fun t15 =>
 p.guard t15 true H (fun k' => p.fadr 1 t1 fun t' => k' t' H) fun t17 H =>
 p.guard t15 true H (fun k' => p.load false 1 t17 H fun t' => k' t' H) fun t18 H =>
 p.guard t15 true H (fun k' => p.bin .eql t18 (.sc (.int .i64 0)) fun t' => k' t' H) fun t19 H =>
 p.pick t15 t19 (.sc (.bool false)) fun t20 =>
 p.fadr 0 t1 fun t21 =>
 p.load false 1 t21 H fun t22 =>
 p.fadr 1 t1 fun t23 =>
 p.load false 1 t23 H fun t24 =>
 p.call 4 (.fn 146 [] []) [t22, t24] H fun t25 H =>
 p.un .not t25 fun t26 =>
 p.guard t26 false H (fun k' => p.fadr 2 t1 fun t' => k' t' H) fun t28 H =>
 p.guard t26 false H (fun k' => p.load false 1 t28 H fun t' => k' t' H) fun t29 H =>
 p.guard t26 false H (fun k' => p.call 4 (.fn 147 [] []) [t29] H fun t' H => k' t' H) fun t30 H =>
 p.guard t26 false H (fun k' => p.un .not t30 fun t' => k' t' H) fun t31 H =>
 p.pick t26 (.sc (.bool true)) t31 fun t32 =>
 p.guard t32 false H (fun k' => p.fadr 2 t1 fun t' => k' t' H) fun t34 H =>
 p.guard t32 false H (fun k' => p.load false 1 t34 H fun t' => k' t' H) fun t35 H =>
 p.guard t32 false H (fun k' => p.bin .eql t35 (.sc (.string ⟨#[]⟩)) fun t' => k' t' H) fun t36 H =>
 p.guard t32 false H (fun k' => k' t36 H) fun t37 H =>
 p.guard t37 true H (fun k' => k' t20 H) fun t38 H =>
 p.guard t37 true H (fun k' => p.un .not t38 fun t' => k' t' H) fun t39 H =>
 p.guard t32 false H (fun k' => p.pick t37 t39 (.sc (.bool false)) fun t' => k' t' H) fun t40 H =>
 p.pick t32 (.sc (.bool true)) t40 fun t41 =>
 p.guard t41 false H (fun k' => p.fadr 34 t1 fun t' => k' t' H) fun t43 H =>
 p.guard t41 false H (fun k' => p.load false 1 t43 H fun t' => k' t' H) fun t44 H =>
 p.guard t41 false H (fun k' => p.bin .lss t44 (.sc (.int .i64 0)) fun t' => k' t' H) fun t45 H =>
 p.pick t41 (.sc (.bool true)) t45 fun t46 =>
 p.cond t46
 (k (.sc (.bool false)) H)
 (p.fadr 28 t1 fun t47 =>
 p.load false 1 t47 H fun t48 =>
 p.len t48 fun t49 =>
 Lv p n  k n t1 t48 t49 (.sc (.int .i64 0)) H))
noncomputable def Abc (p : Pr β) (n : Nat)  (k : KO β) (m : Nat) (tm : Tm) (H : Af) : Option β :=
 Cx 130 (fun tm H k => Ak As p o44 130 n (cd c44 [1, 1, 1, 1, 0, 1, 0, 0]) tm H k) (Dy 0 (Dj (fun tm H => Ak As p o44 130 n (cd c44 [1, 1, 1, 1, 1]) tm H (Cc As p fi44.results k)) (Cc As p fi44.results k))) m tm H
theorem Z0 (p : Pr β) (n : Nat)  (k : KO β) (m0 : Nat) : ∀ (t : Nat → AV) (H : Af), Abc p n  k m0 (tf 130 0 t) H = Lv p n  k m0 (t 1) (t 48) (t 49) (t 50) H := by
 induction m0 with
 | zero => intros; rfl
 | succ m0 ih =>
  intro t H
  refine Eq.trans (Bp (nt := 130) (m := m0) (g := fun t H => Lv p n  k m0 (t 1) (t 48) (t 49) (t 50) H) ih rfl) ?_
  kernel_rfl
theorem Ad7 (p : Pr β) (n : Nat) (a0 : AV) (H : Af) (k : KO β) : B3 As p n fi44 [a0] H k =
 p.box a0 H fun t1 H =>
 p.fadr 0 t1 fun t8 =>
 p.load false 1 t8 H fun t9 =>
 p.bin .eql t9 (.sc (.int .i64 0)) fun t10 =>
 p.cond t10
 (p.load true 35 t1 H fun t11 =>
 p.call 4 (.fn 145 [] []) [t11] H fun t12 H =>
 k t12 H)
 (p.fadr 0 t1 fun t13 =>
 p.load false 1 t13 H fun t14 =>
 p.bin .eql t14 (.sc (.int .i64 6)) fun t15 =>
 p.guard t15 true H (fun k' => p.fadr 1 t1 fun t' => k' t' H) fun t17 H =>
 p.guard t15 true H (fun k' => p.load false 1 t17 H fun t' => k' t' H) fun t18 H =>
 p.guard t15 true H (fun k' => p.bin .eql t18 (.sc (.int .i64 0)) fun t' => k' t' H) fun t19 H =>
 p.pick t15 t19 (.sc (.bool false)) fun t20 =>
 p.fadr 0 t1 fun t21 =>
 p.load false 1 t21 H fun t22 =>
 p.fadr 1 t1 fun t23 =>
 p.load false 1 t23 H fun t24 =>
 p.call 4 (.fn 146 [] []) [t22, t24] H fun t25 H =>
 p.un .not t25 fun t26 =>
 p.guard t26 false H (fun k' => p.fadr 2 t1 fun t' => k' t' H) fun t28 H =>
 p.guard t26 false H (fun k' => p.load false 1 t28 H fun t' => k' t' H) fun t29 H =>
 p.guard t26 false H (fun k' => p.call 4 (.fn 147 [] []) [t29] H fun t' H => k' t' H) fun t30 H =>
 p.guard t26 false H (fun k' => p.un .not t30 fun t' => k' t' H) fun t31 H =>
 p.pick t26 (.sc (.bool true)) t31 fun t32 =>
 p.guard t32 false H (fun k' => p.fadr 2 t1 fun t' => k' t' H) fun t34 H =>
 p.guard t32 false H (fun k' => p.load false 1 t34 H fun t' => k' t' H) fun t35 H =>
 p.guard t32 false H (fun k' => p.bin .eql t35 (.sc (.string ⟨#[]⟩)) fun t' => k' t' H) fun t36 H =>
 p.guard t32 false H (fun k' => k' t36 H) fun t37 H =>
 p.guard t37 true H (fun k' => k' t20 H) fun t38 H =>
 p.guard t37 true H (fun k' => p.un .not t38 fun t' => k' t' H) fun t39 H =>
 p.guard t32 false H (fun k' => p.pick t37 t39 (.sc (.bool false)) fun t' => k' t' H) fun t40 H =>
 p.pick t32 (.sc (.bool true)) t40 fun t41 =>
 p.guard t41 false H (fun k' => p.fadr 34 t1 fun t' => k' t' H) fun t43 H =>
 p.guard t41 false H (fun k' => p.load false 1 t43 H fun t' => k' t' H) fun t44 H =>
 p.guard t41 false H (fun k' => p.bin .lss t44 (.sc (.int .i64 0)) fun t' => k' t' H) fun t45 H =>
 p.pick t41 (.sc (.bool true)) t45 fun t46 =>
 p.cond t46
 (k (.sc (.bool false)) H)
 (p.fadr 28 t1 fun t47 =>
 p.load false 1 t47 H fun t48 =>
 p.len t48 fun t49 =>
 Abc p n  k n (tf 130 0 (ud [(0, a0), (1, t1), (2, (.sc (.bool false))), (3, t20), (8, t8), (9, t9), (10, t10), (13, t13), (14, t14), (15, t15), (16, t15), (17, t17), (18, t18), (19, t19), (20, t20), (21, t21), (22, t22), (23, t23), (24, t24), (25, t25), (26, t26), (27, t26), (28, t28), (29, t29), (30, t30), (31, t31), (32, t32), (33, t32), (34, t34), (35, t35), (36, t36), (37, t37), (38, t38), (39, t39), (40, t40), (41, t41), (42, t41), (43, t43), (44, t44), (45, t45), (46, t46), (47, t47), (48, t48), (49, t49), (50, (.sc (.int .i64 0)))] ut)) H)) := by kernel_rfl
theorem Abd : Iy fi44 @f44 := fun p n a0 H k => by
 rw [Ad7]
 simp only [Z0]
 kernel_rfl
noncomputable def Pn (p : Pr β) (n : Nat)  (k : KO β) : Nat → AV → AV → KO β
 | 0, _, _, _, _ => none
 | m + 1, t0, t1, t5, H => p.len t0 fun t13 =>
   p.bin .lss t5 t13 fun t14 =>
   p.cond t14
   (p.iadr 1 t0 t5 fun t19 =>
   p.load false 1 t19 H fun t20 =>
   p.iadr 1 t1 t5 fun t23 =>
   p.load false 1 t23 H fun t24 =>
   p.bin .neq t20 t24 fun t25 =>
   p.cond t25
   (k (.sc (.bool false)) H)
   (p.bin .add t5 (.sc (.int .i64 1)) fun t16 =>
   Pn p n  k m t0 t1 t16 H))
   (k (.sc (.bool true)) H)
noncomputable def f95 (p : Pr β) (n : Nat) (a0 a1 : AV) (H : Af) (k : KO β) : Option β :=
 p.len a0 fun t7 =>
 p.len a1 fun t9 =>
 p.bin .neq t7 t9 fun t10 =>
 p.cond t10
 (k (.sc (.bool false)) H)
 (Pn p n  k n a0 a1 (.sc (.int .i64 0)) H)
noncomputable def Abo (p : Pr β) (n : Nat)  (k : KO β) (m : Nat) (tm : Tm) (H : Af) : Option β :=
 Cx 26 (fun tm H k => Ak As p o95 26 n (cd c95 [1, 1, 0, 1, 0, 0]) tm H k) (Dy 0 (Dj (fun tm H => Ak As p o95 26 n (cd c95 [1, 1, 1]) tm H (Cc As p fi95.results k)) (Cc As p fi95.results k))) m tm H
theorem Z4 (p : Pr β) (n : Nat)  (k : KO β) (m0 : Nat) : ∀ (t : Nat → AV) (H : Af), Abo p n  k m0 (tf 26 0 t) H = Pn p n  k m0 (t 0) (t 1) (t 5) H := by
 induction m0 with
 | zero => intros; rfl
 | succ m0 ih =>
  intro t H
  refine Eq.trans (Bp (nt := 26) (m := m0) (g := fun t H => Pn p n  k m0 (t 0) (t 1) (t 5) H) ih rfl) ?_
  kernel_rfl
theorem AdC (p : Pr β) (n : Nat) (a0 a1 : AV) (H : Af) (k : KO β) : B3 As p n fi95 [a0, a1] H k =
 p.len a0 fun t7 =>
 p.len a1 fun t9 =>
 p.bin .neq t7 t9 fun t10 =>
 p.cond t10
 (k (.sc (.bool false)) H)
 (Abo p n  k n (tf 26 0 (ud [(0, a0), (1, a1), (4, (.sc (.bool false))), (5, (.sc (.int .i64 0))), (6, a0), (7, t7), (8, a1), (9, t9), (10, t10)] ut)) H) := by kernel_rfl
theorem Abp : Km fi95 @f95 := fun p n a0 a1 H k => by
 rw [AdC]
 simp only [Z4]
 kernel_rfl
noncomputable def f215 (p : Pr β) (n : Nat) (a0 a1 : AV) (H : Af) (k : KO β) : Option β :=
 p.box a0 H fun t2 H =>
 p.box a1 H fun t3 H =>
 p.fadr 0 t2 fun t5 =>
 p.load false 1 t5 H fun t6 =>
 p.fadr 0 t3 fun t7 =>
 p.load false 1 t7 H fun t8 =>
 p.bin .neq t6 t8 fun t9 =>
 p.cond t9
 (k (.sc (.bool false)) H)
 (p.fadr 1 t2 fun t10 =>
 p.load false 1 t10 H fun t11 =>
 p.fadr 1 t3 fun t12 =>
 p.load false 1 t12 H fun t13 =>
 p.bin .neq t11 t13 fun t14 =>
 p.cond t14
 (k (.sc (.bool false)) H)
 (k (.sc (.bool true)) H))
theorem Zg : Km AeL @f215 := fun p n a0 a1 H k => by kernel_rfl
noncomputable def Po (p : Pr β) (n : Nat)  (k : KO β) : Nat → AV → AV → KO β
 | 0, _, _, _, _ => none
 | m + 1, t0, t1, t5, H => p.len t0 fun t13 =>
   p.bin .lss t5 t13 fun t14 =>
   p.cond t14
   (p.iadr 2 t0 t5 fun t19 =>
   p.load true 2 t19 H fun t20 =>
   p.iadr 2 t1 t5 fun t23 =>
   p.load true 2 t23 H fun t24 =>
   p.call 4 (.fn 215 [] []) [t20, t24] H fun t25 H =>
   p.un .not t25 fun t26 =>
   p.cond t26
   (k (.sc (.bool false)) H)
   (p.bin .add t5 (.sc (.int .i64 1)) fun t16 =>
   Po p n  k m t0 t1 t16 H))
   (k (.sc (.bool true)) H)
noncomputable def f96 (p : Pr β) (n : Nat) (a0 a1 : AV) (H : Af) (k : KO β) : Option β :=
 p.len a0 fun t7 =>
 p.len a1 fun t9 =>
 p.bin .neq t7 t9 fun t10 =>
 p.cond t10
 (k (.sc (.bool false)) H)
 (Po p n  k n a0 a1 (.sc (.int .i64 0)) H)
noncomputable def Abq (p : Pr β) (n : Nat)  (k : KO β) (m : Nat) (tm : Tm) (H : Af) : Option β :=
 Cx 27 (fun tm H k => Ak As p o96 27 n (cd c96 [1, 1, 0, 1, 0, 0]) tm H k) (Dy 0 (Dj (fun tm H => Ak As p o96 27 n (cd c96 [1, 1, 1]) tm H (Cc As p fi96.results k)) (Cc As p fi96.results k))) m tm H
theorem Z5 (p : Pr β) (n : Nat)  (k : KO β) (m0 : Nat) : ∀ (t : Nat → AV) (H : Af), Abq p n  k m0 (tf 27 0 t) H = Po p n  k m0 (t 0) (t 1) (t 5) H := by
 induction m0 with
 | zero => intros; rfl
 | succ m0 ih =>
  intro t H
  refine Eq.trans (Bp (nt := 27) (m := m0) (g := fun t H => Po p n  k m0 (t 0) (t 1) (t 5) H) ih rfl) ?_
  kernel_rfl
theorem AdD (p : Pr β) (n : Nat) (a0 a1 : AV) (H : Af) (k : KO β) : B3 As p n fi96 [a0, a1] H k =
 p.len a0 fun t7 =>
 p.len a1 fun t9 =>
 p.bin .neq t7 t9 fun t10 =>
 p.cond t10
 (k (.sc (.bool false)) H)
 (Abq p n  k n (tf 27 0 (ud [(0, a0), (1, a1), (4, (.sc (.bool false))), (5, (.sc (.int .i64 0))), (6, a0), (7, t7), (8, a1), (9, t9), (10, t10)] ut)) H) := by kernel_rfl
theorem Abr : Km fi96 @f96 := fun p n a0 a1 H k => by
 rw [AdD]
 simp only [Z5]
 kernel_rfl
noncomputable def Pp (p : Pr β) (n : Nat)  (k : KO β) : Nat → AV → AV → KO β
 | 0, _, _, _, _ => none
 | m + 1, t0, t1, t5, H => p.len t0 fun t13 =>
   p.bin .lss t5 t13 fun t14 =>
   p.cond t14
   (p.iadr 1 t0 t5 fun t19 =>
   p.load false 1 t19 H fun t20 =>
   p.iadr 1 t1 t5 fun t23 =>
   p.load false 1 t23 H fun t24 =>
   p.bin .neq t20 t24 fun t25 =>
   p.cond t25
   (k (.sc (.bool false)) H)
   (p.bin .add t5 (.sc (.int .i64 1)) fun t16 =>
   Pp p n  k m t0 t1 t16 H))
   (k (.sc (.bool true)) H)
noncomputable def f97 (p : Pr β) (n : Nat) (a0 a1 : AV) (H : Af) (k : KO β) : Option β :=
 p.len a0 fun t7 =>
 p.len a1 fun t9 =>
 p.bin .neq t7 t9 fun t10 =>
 p.cond t10
 (k (.sc (.bool false)) H)
 (Pp p n  k n a0 a1 (.sc (.int .i64 0)) H)
noncomputable def Abt (p : Pr β) (n : Nat)  (k : KO β) (m : Nat) (tm : Tm) (H : Af) : Option β :=
 Cx 26 (fun tm H k => Ak As p o97 26 n (cd c97 [1, 1, 0, 1, 0, 0]) tm H k) (Dy 0 (Dj (fun tm H => Ak As p o97 26 n (cd c97 [1, 1, 1]) tm H (Cc As p fi97.results k)) (Cc As p fi97.results k))) m tm H
theorem Z6 (p : Pr β) (n : Nat)  (k : KO β) (m0 : Nat) : ∀ (t : Nat → AV) (H : Af), Abt p n  k m0 (tf 26 0 t) H = Pp p n  k m0 (t 0) (t 1) (t 5) H := by
 induction m0 with
 | zero => intros; rfl
 | succ m0 ih =>
  intro t H
  refine Eq.trans (Bp (nt := 26) (m := m0) (g := fun t H => Pp p n  k m0 (t 0) (t 1) (t 5) H) ih rfl) ?_
  kernel_rfl
theorem AdE (p : Pr β) (n : Nat) (a0 a1 : AV) (H : Af) (k : KO β) : B3 As p n fi97 [a0, a1] H k =
 p.len a0 fun t7 =>
 p.len a1 fun t9 =>
 p.bin .neq t7 t9 fun t10 =>
 p.cond t10
 (k (.sc (.bool false)) H)
 (Abt p n  k n (tf 26 0 (ud [(0, a0), (1, a1), (4, (.sc (.bool false))), (5, (.sc (.int .i64 0))), (6, a0), (7, t7), (8, a1), (9, t9), (10, t10)] ut)) H) := by kernel_rfl
theorem Abu : Km fi97 @f97 := fun p n a0 a1 H k => by
 rw [AdE]
 simp only [Z6]
 kernel_rfl
noncomputable def Ph (p : Pr β) (n : Nat)  (k : KO β) : Nat → AV → AV → KO β
 | 0, _, _, _, _ => none
 | m + 1, t0, t1, t5, H => p.len t0 fun t13 =>
   p.bin .lss t5 t13 fun t14 =>
   p.cond t14
   (p.iadr 1 t0 t5 fun t19 =>
   p.load false 1 t19 H fun t20 =>
   p.iadr 1 t1 t5 fun t23 =>
   p.load false 1 t23 H fun t24 =>
   p.bin .neq t20 t24 fun t25 =>
   p.cond t25
   (k (.sc (.bool false)) H)
   (p.bin .add t5 (.sc (.int .i64 1)) fun t16 =>
   Ph p n  k m t0 t1 t16 H))
   (k (.sc (.bool true)) H)
noncomputable def f38 (p : Pr β) (n : Nat) (a0 a1 : AV) (H : Af) (k : KO β) : Option β :=
 p.len a0 fun t7 =>
 p.len a1 fun t9 =>
 p.bin .neq t7 t9 fun t10 =>
 p.cond t10
 (k (.sc (.bool false)) H)
 (Ph p n  k n a0 a1 (.sc (.int .i64 0)) H)
noncomputable def AaV (p : Pr β) (n : Nat)  (k : KO β) (m : Nat) (tm : Tm) (H : Af) : Option β :=
 Cx 26 (fun tm H k => Ak As p o38 26 n (cd c38 [1, 1, 0, 1, 0, 0]) tm H k) (Dy 0 (Dj (fun tm H => Ak As p o38 26 n (cd c38 [1, 1, 1]) tm H (Cc As p fi38.results k)) (Cc As p fi38.results k))) m tm H
theorem Zy (p : Pr β) (n : Nat)  (k : KO β) (m0 : Nat) : ∀ (t : Nat → AV) (H : Af), AaV p n  k m0 (tf 26 0 t) H = Ph p n  k m0 (t 0) (t 1) (t 5) H := by
 induction m0 with
 | zero => intros; rfl
 | succ m0 ih =>
  intro t H
  refine Eq.trans (Bp (nt := 26) (m := m0) (g := fun t H => Ph p n  k m0 (t 0) (t 1) (t 5) H) ih rfl) ?_
  kernel_rfl
theorem Ad5 (p : Pr β) (n : Nat) (a0 a1 : AV) (H : Af) (k : KO β) : B3 As p n fi38 [a0, a1] H k =
 p.len a0 fun t7 =>
 p.len a1 fun t9 =>
 p.bin .neq t7 t9 fun t10 =>
 p.cond t10
 (k (.sc (.bool false)) H)
 (AaV p n  k n (tf 26 0 (ud [(0, a0), (1, a1), (4, (.sc (.bool false))), (5, (.sc (.int .i64 0))), (6, a0), (7, t7), (8, a1), (9, t9), (10, t10)] ut)) H) := by kernel_rfl
theorem AaW : Km fi38 @f38 := fun p n a0 a1 H k => by
 rw [Ad5]
 simp only [Zy]
 kernel_rfl
noncomputable def f17 (p : Pr β) (n : Nat) (a0 a1 : AV) (H : Af) (k : KO β) : Option β :=
 p.box a0 H fun t2 H =>
 p.box a1 H fun t3 H =>
 p.fadr 0 t2 fun t5 =>
 p.load false 1 t5 H fun t6 =>
 p.fadr 0 t3 fun t7 =>
 p.load false 1 t7 H fun t8 =>
 p.bin .neq t6 t8 fun t9 =>
 p.cond t9
 (k (.sc (.bool false)) H)
 (p.fadr 1 t2 fun t10 =>
 p.load false 1 t10 H fun t11 =>
 p.fadr 1 t3 fun t12 =>
 p.load false 1 t12 H fun t13 =>
 p.binB .neq t11 t13 fun t14 =>
 p.cond t14
 (k (.sc (.bool false)) H)
 (p.fadr 2 t2 fun t15 =>
 p.load false 1 t15 H fun t16 =>
 p.fadr 2 t3 fun t17 =>
 p.load false 1 t17 H fun t18 =>
 p.bin .neq t16 t18 fun t19 =>
 p.cond t19
 (k (.sc (.bool false)) H)
 (p.fadr 3 t2 fun t20 =>
 p.load false 1 t20 H fun t21 =>
 p.fadr 3 t3 fun t22 =>
 p.load false 1 t22 H fun t23 =>
 p.binB .neq t21 t23 fun t24 =>
 p.cond t24
 (k (.sc (.bool false)) H)
 (p.fadr 4 t2 fun t25 =>
 p.load false 1 t25 H fun t26 =>
 p.fadr 4 t3 fun t27 =>
 p.load false 1 t27 H fun t28 =>
 p.bin .neq t26 t28 fun t29 =>
 p.cond t29
 (k (.sc (.bool false)) H)
 (p.fadr 5 t2 fun t30 =>
 p.load false 1 t30 H fun t31 =>
 p.fadr 5 t3 fun t32 =>
 p.load false 1 t32 H fun t33 =>
 p.bin .neq t31 t33 fun t34 =>
 p.cond t34
 (k (.sc (.bool false)) H)
 (p.fadr 6 t2 fun t35 =>
 p.load false 1 t35 H fun t36 =>
 p.fadr 6 t3 fun t37 =>
 p.load false 1 t37 H fun t38 =>
 p.call 4 (.fn 95 [] []) [t36, t38] H fun t39 H =>
 p.un .not t39 fun t40 =>
 p.cond t40
 (k (.sc (.bool false)) H)
 (p.fadr 7 t2 fun t41 =>
 p.load false 1 t41 H fun t42 =>
 p.fadr 7 t3 fun t43 =>
 p.load false 1 t43 H fun t44 =>
 p.bin .neq t42 t44 fun t45 =>
 p.cond t45
 (k (.sc (.bool false)) H)
 (p.fadr 8 t2 fun t46 =>
 p.load false 1 t46 H fun t47 =>
 p.fadr 8 t3 fun t48 =>
 p.load false 1 t48 H fun t49 =>
 p.bin .neq t47 t49 fun t50 =>
 p.cond t50
 (k (.sc (.bool false)) H)
 (p.fadr 9 t2 fun t51 =>
 p.load false 1 t51 H fun t52 =>
 p.fadr 9 t3 fun t53 =>
 p.load false 1 t53 H fun t54 =>
 p.binB .neq t52 t54 fun t55 =>
 p.cond t55
 (k (.sc (.bool false)) H)
 (p.fadr 10 t2 fun t56 =>
 p.load false 1 t56 H fun t57 =>
 p.fadr 10 t3 fun t58 =>
 p.load false 1 t58 H fun t59 =>
 p.bin .neq t57 t59 fun t60 =>
 p.cond t60
 (k (.sc (.bool false)) H)
 (p.fadr 11 t2 fun t61 =>
 p.load false 1 t61 H fun t62 =>
 p.fadr 11 t3 fun t63 =>
 p.load false 1 t63 H fun t64 =>
 p.binB .neq t62 t64 fun t65 =>
 p.cond t65
 (k (.sc (.bool false)) H)
 (p.fadr 12 t2 fun t66 =>
 p.load false 1 t66 H fun t67 =>
 p.fadr 12 t3 fun t68 =>
 p.load false 1 t68 H fun t69 =>
 p.bin .neq t67 t69 fun t70 =>
 p.cond t70
 (k (.sc (.bool false)) H)
 (p.fadr 13 t2 fun t71 =>
 p.load false 1 t71 H fun t72 =>
 p.fadr 13 t3 fun t73 =>
 p.load false 1 t73 H fun t74 =>
 p.call 4 (.fn 95 [] []) [t72, t74] H fun t75 H =>
 p.un .not t75 fun t76 =>
 p.cond t76
 (k (.sc (.bool false)) H)
 (p.fadr 14 t2 fun t77 =>
 p.load false 1 t77 H fun t78 =>
 p.fadr 14 t3 fun t79 =>
 p.load false 1 t79 H fun t80 =>
 p.bin .neq t78 t80 fun t81 =>
 p.cond t81
 (k (.sc (.bool false)) H)
 (p.fadr 15 t2 fun t82 =>
 p.load false 1 t82 H fun t83 =>
 p.fadr 15 t3 fun t84 =>
 p.load false 1 t84 H fun t85 =>
 p.binB .neq t83 t85 fun t86 =>
 p.cond t86
 (k (.sc (.bool false)) H)
 (p.fadr 16 t2 fun t87 =>
 p.load false 1 t87 H fun t88 =>
 p.fadr 16 t3 fun t89 =>
 p.load false 1 t89 H fun t90 =>
 p.binB .neq t88 t90 fun t91 =>
 p.cond t91
 (k (.sc (.bool false)) H)
 (p.fadr 17 t2 fun t92 =>
 p.load false 1 t92 H fun t93 =>
 p.fadr 17 t3 fun t94 =>
 p.load false 1 t94 H fun t95 =>
 p.bin .neq t93 t95 fun t96 =>
 p.cond t96
 (k (.sc (.bool false)) H)
 (p.fadr 18 t2 fun t97 =>
 p.load false 1 t97 H fun t98 =>
 p.fadr 18 t3 fun t99 =>
 p.load false 1 t99 H fun t100 =>
 p.binB .neq t98 t100 fun t101 =>
 p.cond t101
 (k (.sc (.bool false)) H)
 (p.fadr 19 t2 fun t102 =>
 p.load false 1 t102 H fun t103 =>
 p.fadr 19 t3 fun t104 =>
 p.load false 1 t104 H fun t105 =>
 p.call 4 (.fn 95 [] []) [t103, t105] H fun t106 H =>
 p.un .not t106 fun t107 =>
 p.cond t107
 (k (.sc (.bool false)) H)
 (p.fadr 20 t2 fun t108 =>
 p.load false 1 t108 H fun t109 =>
 p.fadr 20 t3 fun t110 =>
 p.load false 1 t110 H fun t111 =>
 p.bin .neq t109 t111 fun t112 =>
 p.cond t112
 (k (.sc (.bool false)) H)
 (p.fadr 21 t2 fun t113 =>
 p.load false 1 t113 H fun t114 =>
 p.fadr 21 t3 fun t115 =>
 p.load false 1 t115 H fun t116 =>
 p.binB .neq t114 t116 fun t117 =>
 p.cond t117
 (k (.sc (.bool false)) H)
 (p.fadr 22 t2 fun t118 =>
 p.load false 1 t118 H fun t119 =>
 p.fadr 22 t3 fun t120 =>
 p.load false 1 t120 H fun t121 =>
 p.call 4 (.fn 96 [] []) [t119, t121] H fun t122 H =>
 p.un .not t122 fun t123 =>
 p.cond t123
 (k (.sc (.bool false)) H)
 (p.fadr 23 t2 fun t124 =>
 p.load false 1 t124 H fun t125 =>
 p.fadr 23 t3 fun t126 =>
 p.load false 1 t126 H fun t127 =>
 p.call 4 (.fn 97 [] []) [t125, t127] H fun t128 H =>
 p.un .not t128 fun t129 =>
 p.cond t129
 (k (.sc (.bool false)) H)
 (p.fadr 24 t2 fun t130 =>
 p.load false 1 t130 H fun t131 =>
 p.fadr 24 t3 fun t132 =>
 p.load false 1 t132 H fun t133 =>
 p.call 4 (.fn 38 [] []) [t131, t133] H fun t134 H =>
 p.un .not t134 fun t135 =>
 p.cond t135
 (k (.sc (.bool false)) H)
 (k (.sc (.bool true)) H)))))))))))))))))))))))))
theorem AaG : Km Agr @f17 := fun p n a0 a1 H k => by kernel_rfl
noncomputable def f235 (p : Pr β) (n : Nat) (a0 a1 : AV) (H : Af) (k : KO β) : Option β :=
 p.box a0 H fun t2 H =>
 p.box a1 H fun t3 H =>
 p.fadr 0 t2 fun t5 =>
 p.load false 1 t5 H fun t6 =>
 p.fadr 0 t3 fun t7 =>
 p.load false 1 t7 H fun t8 =>
 p.bin .neq t6 t8 fun t9 =>
 p.cond t9
 (k (.sc (.bool false)) H)
 (p.fadr 1 t2 fun t10 =>
 p.load false 1 t10 H fun t11 =>
 p.fadr 1 t3 fun t12 =>
 p.load false 1 t12 H fun t13 =>
 p.bin .neq t11 t13 fun t14 =>
 p.cond t14
 (k (.sc (.bool false)) H)
 (p.fadr 2 t2 fun t15 =>
 p.load false 1 t15 H fun t16 =>
 p.fadr 2 t3 fun t17 =>
 p.load false 1 t17 H fun t18 =>
 p.bin .neq t16 t18 fun t19 =>
 p.cond t19
 (k (.sc (.bool false)) H)
 (k (.sc (.bool true)) H)))
theorem Zq : Km AeT @f235 := fun p n a0 a1 H k => by kernel_rfl
noncomputable def Mg (p : Pr β) (n : Nat)  (k : KO β) : Nat → AV → AV → KO β
 | 0, _, _, _, _ => none
 | m + 1, t0, t1, t5, H => p.len t0 fun t13 =>
   p.bin .lss t5 t13 fun t14 =>
   p.cond t14
   (p.iadr 3 t0 t5 fun t19 =>
   p.load true 3 t19 H fun t20 =>
   p.iadr 3 t1 t5 fun t23 =>
   p.load true 3 t23 H fun t24 =>
   p.call 4 (.fn 235 [] []) [t20, t24] H fun t25 H =>
   p.un .not t25 fun t26 =>
   p.cond t26
   (k (.sc (.bool false)) H)
   (p.bin .add t5 (.sc (.int .i64 1)) fun t16 =>
   Mg p n  k m t0 t1 t16 H))
   (k (.sc (.bool true)) H)
noncomputable def f153 (p : Pr β) (n : Nat) (a0 a1 : AV) (H : Af) (k : KO β) : Option β :=
 p.len a0 fun t7 =>
 p.len a1 fun t9 =>
 p.bin .neq t7 t9 fun t10 =>
 p.cond t10
 (k (.sc (.bool false)) H)
 (Mg p n  k n a0 a1 (.sc (.int .i64 0)) H)
noncomputable def W0 (p : Pr β) (n : Nat)  (k : KO β) (m : Nat) (tm : Tm) (H : Af) : Option β :=
 Cx 27 (fun tm H k => Ak As p AfU 27 n (cd Afp [1, 1, 0, 1, 0, 0]) tm H k) (Dy 0 (Dj (fun tm H => Ak As p AfU 27 n (cd Afp [1, 1, 1]) tm H (Cc As p fi153.results k)) (Cc As p fi153.results k))) m tm H
theorem Vd (p : Pr β) (n : Nat)  (k : KO β) (m0 : Nat) : ∀ (t : Nat → AV) (H : Af), W0 p n  k m0 (tf 27 0 t) H = Mg p n  k m0 (t 0) (t 1) (t 5) H := by
 induction m0 with
 | zero => intros; rfl
 | succ m0 ih =>
  intro t H
  refine Eq.trans (Bp (nt := 27) (m := m0) (g := fun t H => Mg p n  k m0 (t 0) (t 1) (t 5) H) ih rfl) ?_
  kernel_rfl
theorem AaF (p : Pr β) (n : Nat) (a0 a1 : AV) (H : Af) (k : KO β) : B3 As p n fi153 [a0, a1] H k =
 p.len a0 fun t7 =>
 p.len a1 fun t9 =>
 p.bin .neq t7 t9 fun t10 =>
 p.cond t10
 (k (.sc (.bool false)) H)
 (W0 p n  k n (tf 27 0 (ud [(0, a0), (1, a1), (4, (.sc (.bool false))), (5, (.sc (.int .i64 0))), (6, a0), (7, t7), (8, a1), (9, t9), (10, t10)] ut)) H) := by kernel_rfl
theorem Y1 : Km fi153 @f153 := fun p n a0 a1 H k => by
 rw [AaF]
 simp only [Vd]
 kernel_rfl
noncomputable def f154 (p : Pr β) (n : Nat) (a0 a1 : AV) (H : Af) (k : KO β) : Option β :=
 p.box a0 H fun t2 H =>
 p.box a1 H fun t3 H =>
 p.fadr 0 t2 fun t5 =>
 p.load false 1 t5 H fun t6 =>
 p.fadr 0 t3 fun t7 =>
 p.load false 1 t7 H fun t8 =>
 p.bin .neq t6 t8 fun t9 =>
 p.cond t9
 (k (.sc (.bool false)) H)
 (p.fadr 1 t2 fun t10 =>
 p.load false 1 t10 H fun t11 =>
 p.fadr 1 t3 fun t12 =>
 p.load false 1 t12 H fun t13 =>
 p.call 4 (.fn 95 [] []) [t11, t13] H fun t14 H =>
 p.un .not t14 fun t15 =>
 p.cond t15
 (k (.sc (.bool false)) H)
 (p.fadr 2 t2 fun t16 =>
 p.load false 1 t16 H fun t17 =>
 p.fadr 2 t3 fun t18 =>
 p.load false 1 t18 H fun t19 =>
 p.bin .neq t17 t19 fun t20 =>
 p.cond t20
 (k (.sc (.bool false)) H)
 (p.fadr 3 t2 fun t21 =>
 p.load false 1 t21 H fun t22 =>
 p.fadr 3 t3 fun t23 =>
 p.load false 1 t23 H fun t24 =>
 p.binB .neq t22 t24 fun t25 =>
 p.cond t25
 (k (.sc (.bool false)) H)
 (k (.sc (.bool true)) H))))
theorem Y2 : Km AeB @f154 := fun p n a0 a1 H k => by kernel_rfl
noncomputable def Pm (p : Pr β) (n : Nat)  (k : KO β) : Nat → AV → AV → KO β
 | 0, _, _, _, _ => none
 | m + 1, t0, t1, t5, H => p.len t0 fun t13 =>
   p.bin .lss t5 t13 fun t14 =>
   p.cond t14
   (p.iadr 4 t0 t5 fun t19 =>
   p.load true 4 t19 H fun t20 =>
   p.iadr 4 t1 t5 fun t23 =>
   p.load true 4 t23 H fun t24 =>
   p.call 4 (.fn 154 [] []) [t20, t24] H fun t25 H =>
   p.un .not t25 fun t26 =>
   p.cond t26
   (k (.sc (.bool false)) H)
   (p.bin .add t5 (.sc (.int .i64 1)) fun t16 =>
   Pm p n  k m t0 t1 t16 H))
   (k (.sc (.bool true)) H)
noncomputable def f94 (p : Pr β) (n : Nat) (a0 a1 : AV) (H : Af) (k : KO β) : Option β :=
 p.len a0 fun t7 =>
 p.len a1 fun t9 =>
 p.bin .neq t7 t9 fun t10 =>
 p.cond t10
 (k (.sc (.bool false)) H)
 (Pm p n  k n a0 a1 (.sc (.int .i64 0)) H)
noncomputable def Abm (p : Pr β) (n : Nat)  (k : KO β) (m : Nat) (tm : Tm) (H : Af) : Option β :=
 Cx 27 (fun tm H k => Ak As p o94 27 n (cd c94 [1, 1, 0, 1, 0, 0]) tm H k) (Dy 0 (Dj (fun tm H => Ak As p o94 27 n (cd c94 [1, 1, 1]) tm H (Cc As p fi94.results k)) (Cc As p fi94.results k))) m tm H
theorem Z3 (p : Pr β) (n : Nat)  (k : KO β) (m0 : Nat) : ∀ (t : Nat → AV) (H : Af), Abm p n  k m0 (tf 27 0 t) H = Pm p n  k m0 (t 0) (t 1) (t 5) H := by
 induction m0 with
 | zero => intros; rfl
 | succ m0 ih =>
  intro t H
  refine Eq.trans (Bp (nt := 27) (m := m0) (g := fun t H => Pm p n  k m0 (t 0) (t 1) (t 5) H) ih rfl) ?_
  kernel_rfl
theorem AdB (p : Pr β) (n : Nat) (a0 a1 : AV) (H : Af) (k : KO β) : B3 As p n fi94 [a0, a1] H k =
 p.len a0 fun t7 =>
 p.len a1 fun t9 =>
 p.bin .neq t7 t9 fun t10 =>
 p.cond t10
 (k (.sc (.bool false)) H)
 (Abm p n  k n (tf 27 0 (ud [(0, a0), (1, a1), (4, (.sc (.bool false))), (5, (.sc (.int .i64 0))), (6, a0), (7, t7), (8, a1), (9, t9), (10, t10)] ut)) H) := by kernel_rfl
theorem Abn : Km fi94 @f94 := fun p n a0 a1 H k => by
 rw [AdB]
 simp only [Z3]
 kernel_rfl
noncomputable def f45 (p : Pr β) (n : Nat) (a0 a1 : AV) (H : Af) (k : KO β) : Option β :=
 p.box a0 H fun t2 H =>
 p.box a1 H fun t3 H =>
 p.fadr 0 t2 fun t5 =>
 p.load false 1 t5 H fun t6 =>
 p.fadr 0 t3 fun t7 =>
 p.load false 1 t7 H fun t8 =>
 p.bin .neq t6 t8 fun t9 =>
 p.cond t9
 (k (.sc (.bool false)) H)
 (p.fadr 1 t2 fun t10 =>
 p.load false 1 t10 H fun t11 =>
 p.fadr 1 t3 fun t12 =>
 p.load false 1 t12 H fun t13 =>
 p.bin .neq t11 t13 fun t14 =>
 p.cond t14
 (k (.sc (.bool false)) H)
 (p.fadr 2 t2 fun t15 =>
 p.load false 1 t15 H fun t16 =>
 p.fadr 2 t3 fun t17 =>
 p.load false 1 t17 H fun t18 =>
 p.bin .neq t16 t18 fun t19 =>
 p.cond t19
 (k (.sc (.bool false)) H)
 (p.fadr 3 t2 fun t20 =>
 p.load true 25 t20 H fun t21 =>
 p.fadr 3 t3 fun t22 =>
 p.load true 25 t22 H fun t23 =>
 p.call 4 (.fn 17 [] []) [t21, t23] H fun t24 H =>
 p.un .not t24 fun t25 =>
 p.cond t25
 (k (.sc (.bool false)) H)
 (p.fadr 28 t2 fun t26 =>
 p.load false 1 t26 H fun t27 =>
 p.fadr 28 t3 fun t28 =>
 p.load false 1 t28 H fun t29 =>
 p.call 4 (.fn 153 [] []) [t27, t29] H fun t30 H =>
 p.un .not t30 fun t31 =>
 p.cond t31
 (k (.sc (.bool false)) H)
 (p.fadr 29 t2 fun t32 =>
 p.load true 4 t32 H fun t33 =>
 p.fadr 29 t3 fun t34 =>
 p.load true 4 t34 H fun t35 =>
 p.call 4 (.fn 154 [] []) [t33, t35] H fun t36 H =>
 p.un .not t36 fun t37 =>
 p.cond t37
 (k (.sc (.bool false)) H)
 (p.fadr 33 t2 fun t38 =>
 p.load false 1 t38 H fun t39 =>
 p.fadr 33 t3 fun t40 =>
 p.load false 1 t40 H fun t41 =>
 p.call 4 (.fn 94 [] []) [t39, t41] H fun t42 H =>
 p.un .not t42 fun t43 =>
 p.cond t43
 (k (.sc (.bool false)) H)
 (p.fadr 34 t2 fun t44 =>
 p.load false 1 t44 H fun t45 =>
 p.fadr 34 t3 fun t46 =>
 p.load false 1 t46 H fun t47 =>
 p.bin .neq t45 t47 fun t48 =>
 p.cond t48
 (k (.sc (.bool false)) H)
 (k (.sc (.bool true)) H))))))))
theorem Abe : Km Agw @f45 := fun p n a0 a1 H k => by kernel_rfl
noncomputable def f6 (p : Pr β) (n : Nat) (a0 : AV) (H : Af) (k : KO β) : Option β :=
 p.box a0 H fun t1 H =>
 p.load true 35 t1 H fun t7 =>
 p.call 3 (.fn 41 [] []) [t7, (.sc (.int .i64 1048576))] H fun t9 H =>
 p.bin .lss t9 (.sc (.int .i64 0)) fun t11 =>
 p.cond t11
 (k (.sc (.bool true)) H)
 (p.load true 35 t1 H fun t12 =>
 p.call 87 (.fn 43 [] []) [t12] H fun t13 H =>
 p.call 4 (.fn 42 [] []) [t13] H fun t14 H =>
 p.load true 35 t1 H fun t15 =>
 p.call 87 (.fn 43 [] []) [t15] H fun t16 H =>
 p.new [(.sc (.int .i64 0)), (.sc (.int .i64 0)), (.sc (.string ⟨#[]⟩)), (.sc (.int .i64 0)), (.sc (.bool false)), (.sc (.int .i64 0)), (.sc (.bool false)), (.sc (.int .i64 0)), (.sc (.string ⟨#[]⟩)), .nl, (.sc (.string ⟨#[]⟩)), (.sc (.int .i64 0)), (.sc (.bool false)), (.sc (.int .i64 0)), (.sc (.bool false)), (.sc (.string ⟨#[]⟩)), .nl, (.sc (.int .i64 0)), (.sc (.bool false)), (.sc (.bool false)), (.sc (.string ⟨#[]⟩)), (.sc (.bool false)), .nl, (.sc (.int .i64 0)), (.sc (.bool false)), .nl, .nl, .nl, .nl, (.sc (.string ⟨#[]⟩)), .nl, (.sc (.int .i64 0)), (.sc (.bool false)), .nl, (.sc (.int .i64 0))] H fun t5 H =>
 p.store 35 t5 t16 H fun H =>
 p.load true 35 t5 H fun t17 =>
 p.call 4 (.fn 44 [] []) [t17] H fun t18 H =>
 p.binB .neq t18 t14 fun t21 =>
 p.cond t21
 (k (.sc (.bool false)) H)
 (p.load true 35 t5 H fun t22 =>
 p.load true 35 t1 H fun t23 =>
 p.call 87 (.fn 43 [] []) [t23] H fun t24 H =>
 p.call 4 (.fn 45 [] []) [t22, t24] H fun t25 H =>
 p.un .not t25 fun t26 =>
 p.cond t26
 (k (.sc (.bool false)) H)
 (k (.sc (.bool true)) H)))
theorem Ad8 : Iy fi6 @f6 := fun p n a0 H k => by kernel_rfl
noncomputable def fss : List (Option Eb) := [none, none, none, none, none, none, some fi6, none, none, none, none, none, none, none, none, none, none, some Agr, none, none, none, none, none, none, none, none, none, none, none, none, none, none, none, some Ags, none, some fi35, some Agt, none, some fi38, none, none, some Agu, some fi42, some Agv, some fi44, some Agw, none, none, none, none, none, none, none, none, none, none, none, none, none, none, none, none, some Agx, none, none, none, none, none, none, none, none, none, none, none, none, none, some Agy, none, none, none, none, none, some Agz, none, some fi84, none, none, none, some fi88, none, none, none, none, none, some fi94, some fi95, some fi96, some fi97, none, none, none, none, none, none, none, none, none, none, none, some Aeu, none, none, none, none, none, none, none, none, none, none, some Aev, some fi121, some fi122, none, some fi124, none, some fi126, some fi127, some fi128, none, none, none, none, some fi133, some Aew, some Aex, some Aey, some Aez, some Ae0, some Ae1, some Ae2, some fi141, some Ae3, some fi143, some Ae4, some Ae5, some Ae6, none, some Ae7, some Ae8, some Ae9, some AeA, some fi152, some fi153, some AeB, none, none, none, none, none, none, none, none, none, none, none, none, none, none, none, none, none, some AeC, none, none, none, none, none, none, none, none, none, none, some AeD, none, none, none, some AeE, none, none, some AeF, some AeG, none, none, none, some AeH, some AeI, some AeJ, some AeK, some fi199, none, none, none, some fi203, some fi204, some fi205, none, none, none, none, none, none, none, none, none, some AeL, none, none, none, none, none, some AeM, some AeN, some AeO, some fi224, some AeP, none, none, none, none, some AeQ, some fi231, some AeR, some AeS, none, some AeT, none, none, none, none, none, none, none, none, none, none, none, none, none, none, none, none, none, none, none, none, none, none, none, none, none, none, none, none, none, none, none, none, some AeU, some fi269, none, none, none, some fi273, some fi274, none, none, some fi277, none, none, none, none, none, none, none, none, none, none, none, none, none, none, none, none, none, none, none, none, none, none, none, some AeV]
noncomputable def tps : List (Nat × List Nat) := [(37, [30, 36, 4]), (55, [54, 4]), (70, [34, 4, 36, 4]), (124, [59, 3, 85]), (126, [59, 3]), (131, [59, 4, 3, 3]), (135, [9, 3, 4, 3, 3]), (146, [30, 3, 3]), (148, [30, 85]), (150, [30, 3]), (180, [3, 4]), (228, [28, 3]), (282, [3, 3, 4]), (289, [36, 3, 3]), (315, [3, 3, 3]), (323, [28, 85, 4]), (329, [328, 4]), (334, [9, 3, 4]), (353, [31, 3, 4]), (363, [3, 362]), (365, [21, 3]), (372, [371, 371])]
noncomputable def E0 : Ki := { ti := As, tp := fun t => Xl tps t, fs := fun f => (fss[f]?).getD none, ext := fun f => if Nat.beq f 147 then some Sa else if Nat.beq f 267 then some Pb else if Nat.beq f 300 then some Nd else none, hm := fun f => [18, 19, 30, 31, 39, 49, 57, 63, 66, 72, 78, 79, 98, 99, 100, 101, 102, 118, 159, 160, 161, 178, 179, 180, 181, 184, 185, 186, 188, 195, 200, 217, 222, 257, 258, 259, 260, 261, 262, 264, 265, 270, 293, 294, 295, 297, 322, 332, 333, 334, 335, 336, 349, 351, 356, 357, 358, 366, 367, 382, 383, 384, 385, 386, 389].contains f }
noncomputable def PR (n : Nat) (β : Type) : Pr β := C1 E0 (Ds E0 n) β
abbrev Iz (j : Nat) (f : (β : Type) → Pr β → Nat → AV → Af → KO β → Option β) : Prop := ∀ {β : Type} (n : Nat) (a0 : AV) (H : Af) (k : KO β), Ds E0 (n + 1) β j [a0] H k = f β (PR n β) n a0 H k
abbrev Kn (j : Nat) (f : (β : Type) → Pr β → Nat → AV → AV → Af → KO β → Option β) : Prop := ∀ {β : Type} (n : Nat) (a0 a1 : AV) (H : Af) (k : KO β), Ds E0 (n + 1) β j [a0, a1] H k = f β (PR n β) n a0 a1 H k
abbrev Ce3 (j : Nat) (f : (β : Type) → Pr β → Nat → AV → AV → AV → Af → KO β → Option β) : Prop := ∀ {β : Type} (n : Nat) (a0 a1 a2 : AV) (H : Af) (k : KO β), Ds E0 (n + 1) β j [a0, a1, a2] H k = f β (PR n β) n a0 a1 a2 H k
theorem Ac9 : Kn 120 @f120 := fun n => Yb (PR n _) n
theorem Ado : Kn 221 @f221 := fun n => Zh (PR n _) n
theorem AcA : Kn 121 @f121 := fun n => Yc (PR n _) n
theorem AcB : Kn 122 @f122 := fun n => Yd (PR n _) n
theorem Ac8 : Kn 109 @f109 := fun n => Ya (PR n _) n
theorem Af3 : Kn 33 @f33 := fun n => AaR (PR n _) n
theorem Adt : Kn 230 @f230 := fun n => Zm (PR n _) n
theorem AcG : Kn 133 @f133 := fun n => Yi (PR n _) n
theorem AcH : Kn 134 @f134 := fun n => Yj (PR n _) n
theorem AfF : Kn 84 @f84 := fun n => Abj (PR n _) n
theorem Af7 : Kn 41 @f41 := fun n => AaX (PR n _) n
theorem AcD : Iz 126 @f126 := fun n => Yf (PR n _) n
theorem Ads : Iz 225 @f225 := fun n => Zl (PR n _) n
theorem AcE : Iz 127 @f127 := fun n => Yg (PR n _) n
theorem AcF : Iz 128 @f128 := fun n => Yh (PR n _) n
theorem Af4 : Iz 35 @f35 := fun n => AaT (PR n _) n
theorem Af5 : Iz 36 @f36 := fun n => AaU (PR n _) n
theorem Adw : Iz 233 @f233 := fun n => Zp (PR n _) n
theorem AcQ : Iz 143 @f143 := fun n => Ys (PR n _) n
theorem AcR : Iz 144 @f144 := fun n => Yt (PR n _) n
theorem AfG : Iz 88 @f88 := fun n => Abl (PR n _) n
theorem Af9 : Iz 43 @f43 := fun n => Abb (PR n _) n
theorem Adv : Kn 232 @f232 := fun n => Zo (PR n _) n
theorem AcO : Kn 141 @f141 := fun n => Yq (PR n _) n
theorem AcP : Iz 142 @f142 := fun n => Yr (PR n _) n
theorem AcI : Iz 135 @f135 := fun n => Yk (PR n _) n
theorem Add : Ce3 187 @f187 := fun n => Y5 (PR n _) n
theorem AcJ : Kn 136 @f136 := fun n => Yl (PR n _) n
theorem Ad2 : Kn 277 @f277 := fun n => Zv (PR n _) n
theorem Adu : Iz 231 @f231 := fun n => Zn (PR n _) n
theorem AcK : Iz 137 @f137 := fun n => Ym (PR n _) n
theorem AcL : Iz 138 @f138 := fun n => Yn (PR n _) n
theorem Ad0 : Kn 273 @f273 := fun n => Zt (PR n _) n
theorem Ad1 : Iz 274 @f274 := fun n => Zu (PR n _) n
theorem Adq : Iz 223 @f223 := fun n => Zj (PR n _) n
theorem AcM : Iz 139 @f139 := fun n => Yo (PR n _) n
theorem Adp : Iz 222 @f222 := fun n => Zi (PR n _) n
theorem Adr : Iz 224 @f224 := fun n => Zk (PR n _) n
theorem AcC : Iz 124 @f124 := fun n => Ye (PR n _) n
theorem AcN : Kn 140 @f140 := fun n => Yp (PR n _) n
theorem Af8 : Iz 42 @f42 := fun n => Aba (PR n _) n
theorem Adc : Kn 183 @f183 := fun n => Y4 (PR n _) n
theorem Adk : Kn 203 @f203 := fun n => Zd (PR n _) n
theorem Adl : Kn 204 @f204 := fun n => Ze (PR n _) n
theorem Adm : Kn 205 @f205 := fun n => Zf (PR n _) n
theorem AfE : Kn 82 @f82 := fun n => Abh (PR n _) n
theorem AfC : Kn 62 @f62 := fun n => Abf (PR n _) n
theorem AcS : Iz 145 @f145 := fun n => Yu (PR n _) n
theorem AcV : Ce3 149 @f149 := fun n => Yx (PR n _) n
theorem AcT : Kn 146 @f146 := fun n => Yv (PR n _) n
theorem Adb : Iz 172 @f172 := fun n => Y3 (PR n _) n
theorem W1 : Iz 197 @f197 := fun n => Za (PR n _) n
theorem AcU : Iz 148 @f148 := fun n => Yw (PR n _) n
theorem Adg : Iz 195 @f195 := fun n => Y8 (PR n _) n
theorem Ady : Iz 268 @f268 := fun n => Zr (PR n _) n
theorem Adi : Iz 198 @f198 := fun n => Zb (PR n _) n
theorem Adf : Iz 191 @f191 := fun n => Y7 (PR n _) n
theorem Adh : Iz 196 @f196 := fun n => Y9 (PR n _) n
theorem Ade : Iz 190 @f190 := fun n => Y6 (PR n _) n
theorem Ad3 : Kn 301 @f301 := fun n => Zw (PR n _) n
theorem Adz : Iz 269 @f269 := fun n => Zs (PR n _) n
theorem Adj : Iz 199 @f199 := fun n => Zc (PR n _) n
theorem AfD : Iz 76 @f76 := fun n => Abg (PR n _) n
theorem AcW : Iz 150 @f150 := fun n => Yy (PR n _) n
theorem AcX : Iz 151 @f151 := fun n => Yz (PR n _) n
theorem AcY : Iz 152 @f152 := fun n => Y0 (PR n _) n
theorem AfA : Iz 44 @f44 := fun n => Abd (PR n _) n
theorem AfI : Kn 95 @f95 := fun n => Abp (PR n _) n
theorem Adn : Kn 215 @f215 := fun n => Zg (PR n _) n
theorem AfJ : Kn 96 @f96 := fun n => Abr (PR n _) n
theorem AfK : Kn 97 @f97 := fun n => Abu (PR n _) n
theorem Af6 : Kn 38 @f38 := fun n => AaW (PR n _) n
theorem Af2 : Kn 17 @f17 := fun n => AaG (PR n _) n
theorem Adx : Kn 235 @f235 := fun n => Zq (PR n _) n
theorem AcZ : Kn 153 @f153 := fun n => Y1 (PR n _) n
theorem Ada : Kn 154 @f154 := fun n => Y2 (PR n _) n
theorem AfH : Kn 94 @f94 := fun n => Abn (PR n _) n
theorem AfB : Kn 45 @f45 := fun n => Abe (PR n _) n
theorem Agq : Iz 6 @f6 := fun n => Ad8 (PR n _) n
end
end Go.Proofs.YtjiahcekpohehaaGreatDoor.Abs
