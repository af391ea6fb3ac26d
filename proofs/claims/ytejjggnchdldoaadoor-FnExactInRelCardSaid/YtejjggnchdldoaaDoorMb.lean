/- What the proof needs, part 2: a sound evaluator over trees, the program's functions on it, and what they come to. -/
import Derived.Test.YtejjggnchdldoaaDoorMa
import Derived.Lib.SplitLaws
import Derived.Lib.IndexAny
import Derived.Lib.ValidLaws
import Derived.Test.YtejjggnchdldoaaDoorProg
import Derived.KernelRfl
set_option linter.unusedVariables false
set_option linter.unusedSimpArgs false
namespace Go.Proofs.YtejjggnchdldoaaDoor.Abs
open Go
def lvL : List UInt8 → List UInt8 → List (List UInt8)
 | cur, [] => [cur]
 | cur, b :: l => if b = 47 then cur :: lvL [] l else lvL (cur ++ [b]) l
def ofL (l : List UInt8) : ByteArray := ⟨l.toArray⟩
def vLevels (s : ByteArray) : List ByteArray := (lvL [] s.data.toList).map ofL
def vHas (s : ByteArray) (b : UInt8) : Bool := s.data.toList.any fun c => c == b
def vPH (s : ByteArray) : Bool := vHas s 43 || vHas s 35
def sepB : ByteArray := ⟨#[47]⟩
def phB : ByteArray := ⟨#[43, 35]⟩
def consH (c : List UInt8) : List (List UInt8) → List (List UInt8)
 | [] => [c]
 | h :: t => (c ++ h) :: t
theorem consH_nil {X : List (List UInt8)} (h : X ≠ []) : consH [] X = X := by
 cases X with
 | nil => exact absurd rfl h
 | cons h t => rfl
theorem consH_consH (a b : List UInt8) {X : List (List UInt8)} (h : X ≠ []) : consH a (consH b X) = consH (a ++ b) X := by
 cases X with
 | nil => exact absurd rfl h
 | cons h t => simp [consH]
theorem splitK_ne (sep : List UInt8) (k : Nat) (l : List UInt8) : Lib.splitK sep 0 k l ≠ [] := by
 cases k with
 | zero => simp [Lib.splitK]
 | succ k =>
  unfold Lib.splitK
  split <;> simp
theorem index_at (l : List UInt8) : Lib.index (47 :: l) [47] = 0 := by
 unfold Lib.index
 simp
theorem index_ne (b : UInt8) (l : List UInt8) (h : b ≠ 47) : Lib.index (b :: l) [47] = if Lib.index l [47] == -1 then -1 else Lib.index l [47] + 1 := by
 rw [Lib.index]
 rw [if_neg]
 simpa using fun h' => h h'.symm
theorem splitK_ne_cons (b : UInt8) (h : b ≠ 47) (k : Nat) (l : List UInt8) : Lib.splitK [47] 0 k (b :: l) = consH [b] (Lib.splitK [47] 0 k l) := by
 cases k with
 | zero => rfl
 | succ k =>
  have hge := Lib.index_ge l [47]
  unfold Lib.splitK
  rw [index_ne b l h]
  by_cases hi : Lib.index l [47] = -1
  ·simp [hi, consH]
  ·have e1 : (Lib.index l [47] == -1) = false := by simpa using hi
   have e2 : (Lib.index l [47] + 1 == -1) = false := by simp; omega
   have e3 : (Lib.index l [47] + 1).toNat = (Lib.index l [47]).toNat + 1 := by omega
   simp only [e1, e2, e3, Bool.false_eq_true, if_false, consH, Nat.add_zero, List.length_singleton]
   rw [show (Lib.index l [47]).toNat + 1 + 1 = ((Lib.index l [47]).toNat + 1) + 1 from rfl, List.drop_succ_cons, List.take_succ_cons]
   rfl
theorem lvL_split : ∀ (l cur : List UInt8), lvL cur l = consH cur (Lib.splitK [47] 0 (Lib.count l [47]) l)
 | [], cur => by
  have e : Lib.count [] [47] = 0 := by rw [Lib.count_one]; rfl
  rw [e]
  simp [lvL, Lib.splitK, consH]
 | b :: l, cur => by
  rw [lvL]
  by_cases h : b = 47
  ·subst h
   rw [if_pos rfl, lvL_split l [], Lib.count_cons_eq, Nat.add_comm, Lib.splitK, index_at]
   rw [consH_nil (splitK_ne _ _ _)]
   simp [consH]
  ·rw [if_neg h, lvL_split l (cur ++ [b]), Lib.count_cons_ne _ _ _ h, splitK_ne_cons b h, consH_consH _ _ (splitK_ne _ _ _)]
theorem ofL_data (s : ByteArray) : ofL s.data.toList = s := by
 cases s
 rfl
theorem map_ofL (l : List ByteArray) : (l.map (·.data.toList)).map ofL = l := by
 rw [List.map_map]
 conv => rhs; rw [← List.map_id l]
 exact List.map_congr_left fun s _ => ofL_data s
theorem split_levels (s : ByteArray) : Lib.splitB sepB 0 (Lib.countB s sepB) s = vLevels s := by
 have h := Lib.splitB_data sepB 0 (Lib.countB s sepB) s
 rw [← map_ofL (Lib.splitB sepB 0 (Lib.countB s sepB) s), h, vLevels, lvL_split, consH_nil (splitK_ne _ _ _)]
 rfl
theorem levels_len (s : ByteArray) : (vLevels s).length = Lib.countB s sepB + 1 := by
 rw [← split_levels]
 exact Lib.splitB_all sepB (Nat.le_refl _) 0 _ s rfl
theorem indexAny_any (chars : List UInt8) : ∀ l : List UInt8, decide (0 ≤ Lib.indexAny l chars) = l.any fun c => chars.contains c
 | [] => rfl
 | b :: l => by
  have ih := indexAny_any chars l
  have hge := Lib.indexAny_ge chars l
  rw [Lib.indexAny, List.any_cons, ← ih]
  by_cases h : chars.contains b = true
  ·rw [if_pos h, h]
   simp
  ·rw [if_neg h]
   have h' : chars.contains b = false := by simpa using h
   rw [h', Bool.false_or]
   by_cases hi : Lib.indexAny l chars = -1
   ·rw [hi]
    rfl
   ·rw [if_neg (by simpa using hi)]
    congr 1
    simp
    omega
theorem any_or {α : Type} (p q : α → Bool) : ∀ l : List α, (l.any fun c => p c || q c) = (l.any p || l.any q)
 | [] => rfl
 | x :: l => by
  rw [List.any_cons, List.any_cons, List.any_cons, any_or p q l]
  cases p x <;> cases q x <;> simp
theorem has_ph (s : ByteArray) : Lib.containsAny s.data.toList phB.data.toList = vPH s := by
 unfold Lib.containsAny vPH vHas
 rw [indexAny_any, ← any_or]
 congr 1
 funext c
 simp [phB]
 rfl
end Go.Proofs.YtejjggnchdldoaaDoor.Abs
set_option linter.unusedVariables false
namespace Go.Proofs.YtejjggnchdldoaaDoor.Abs
open Go
def textGo : Nat → List UInt8 → Bool
 | 0, _ => true
 | n + 1, l => if l = [] then true else if (Lib.decodeL l).1 = 65533 ∧ (Lib.decodeL l).2 = 1 then false else if (Lib.decodeL l).1 = 0 then false else textGo n (l.drop (Lib.decodeL l).2)
def vTextOk (s : ByteArray) : Bool := decide (s.size ≤ 60) && textGo s.size s.data.toList
def ext71 (ty : Nat) (vs : List AV) : Option AV :=
 match vs with
 | [.sc (.string s)] => if s.size ≤ maxLen then some (.sc (.bool (vTextOk s))) else none
 | _ => none
def ext72 (ty : Nat) (vs : List AV) : Option AV :=
 match vs with
 | [.sc (.string s), .sc (.string c)] => if c.data.toList = [43, 35] ∧ s.size < 4294967281 then some (.sc (.bool (vPH s))) else none
 | _ => none
def ext91 (ty : Nat) (vs : List AV) : Option AV :=
 match vs with
 | [.sc (.string s), .sc (.string c)] => if ty = 25 ∧ c.data.toList = [47] ∧ s.size < 4294967281 then some (.ro (vLevels s).length ((vLevels s).map fun x => .sc (.string x))) else none
 | _ => none
end Go.Proofs.YtejjggnchdldoaaDoor.Abs
set_option linter.unusedVariables false
set_option linter.unusedSimpArgs false
set_option maxRecDepth 100000
namespace Go.Proofs.YtejjggnchdldoaaDoor.Abs
open Go
variable {β : Type}
noncomputable def tis : List (Option TI) := [none,
 none,
 some ⟨false, false, 1, 8, [(.int .i64 0)], 0, [], some .i64, false, false, [2], false⟩,
 some ⟨false, false, 1, 8, [(.int .i64 0)], 0, [], some .i64, false, false, [3], false⟩,
 some ⟨false, false, 1, 1, [(.bool false)], 0, [], none, false, true, [4], false⟩,
 some ⟨false, false, 1, 1, [(.int .u8 0)], 0, [], some .u8, false, false, [5], false⟩,
 some ⟨false, false, 1, 1, [(.int .u8 0)], 0, [], some .u8, false, false, [6], false⟩,
 none,
 none,
 some ⟨false, false, 1, 16, [(.string ⟨#[]⟩)], 0, [], none, true, false, [9], false⟩,
 some ⟨false, false, 1, 16, [(.string ⟨#[]⟩)], 0, [], none, true, false, [10], false⟩,
 some ⟨false, false, 1, 16, [(.string ⟨#[]⟩)], 0, [], none, true, false, [11], false⟩,
 some ⟨false, false, 1, 8, [(.int .u64 0)], 0, [], some .u64, false, false, [12], false⟩,
 none,
 none,
 none,
 none,
 none,
 none,
 none,
 none,
 some ⟨false, false, 1, 4, [(.int .i32 0)], 0, [], some .i32, false, false, [21], false⟩,
 some ⟨false, true, 1, 24, [(.slice none 0 0)], 3, [], none, false, false, [22], false⟩,
 some ⟨false, true, 1, 24, [(.slice none 0 0)], 5, [], none, false, false, [23], false⟩,
 some ⟨false, true, 1, 24, [(.slice none 0 0)], 72, [], none, false, false, [24], false⟩,
 some ⟨false, true, 1, 24, [(.slice none 0 0)], 9, [], none, false, false, [25], false⟩,
 none,
 some ⟨true, false, 25, 320, [(.int .i64 0), (.bool false), (.int .i64 0), (.bool false), (.int .i64 0), (.string ⟨#[]⟩), (.slice none 0 0), (.string ⟨#[]⟩), (.int .i64 0), (.bool false), (.int .i64 0), (.bool false), (.string ⟨#[]⟩), (.slice none 0 0), (.int .i64 0), (.bool false), (.bool false), (.string ⟨#[]⟩), (.bool false), (.slice none 0 0), (.int .i64 0), (.bool false), (.slice none 0 0), (.slice none 0 0), (.slice none 0 0)], 0, [(0, 3), (1, 4), (2, 3), (3, 4), (4, 3), (5, 9), (6, 23), (7, 9), (8, 3), (9, 4), (10, 3), (11, 4), (12, 9), (13, 23), (14, 3), (15, 4), (16, 4), (17, 9), (18, 4), (19, 23), (20, 3), (21, 4), (22, 24), (23, 25), (24, 22)], none, false, false, [3, 4, 3, 4, 3, 9, 23, 9, 3, 4, 3, 4, 9, 23, 3, 4, 4, 9, 4, 23, 3, 4, 24, 25, 22], false⟩,
 none,
 none,
 none,
 none,
 none,
 none,
 none,
 none,
 none,
 none,
 none,
 none,
 none,
 none,
 none,
 none,
 none,
 none,
 none,
 none,
 none,
 none,
 none,
 none,
 none,
 none,
 none,
 none,
 none,
 none,
 none,
 none,
 none,
 none,
 none,
 none,
 none,
 none,
 none,
 none,
 none,
 none,
 none,
 none,
 some ⟨true, false, 2, 24, [(.string ⟨#[]⟩), (.int .i64 0)], 0, [(0, 9), (1, 3)], none, false, false, [9, 3], true⟩]
noncomputable def bodyOf (f : Func) : Code := match f.body with | some c => c | none => .skip
noncomputable def c6 : Code := bodyOf Go.Proofs.Tryd.f6
noncomputable def c53 : Code := bodyOf Go.Proofs.Tryd.f53
noncomputable def c26 : Code := bodyOf Go.Proofs.Tryd.f26
noncomputable def c79 : Code := bodyOf Go.Proofs.Tryd.f79
noncomputable def c93 : Code := bodyOf Go.Proofs.Tryd.f93
noncomputable def c78 : Code := bodyOf Go.Proofs.Tryd.f78
noncomputable def c105 : Code := bodyOf Go.Proofs.Tryd.f105
noncomputable def c92 : Code := bodyOf Go.Proofs.Tryd.f92
noncomputable def c74 : Code := bodyOf Go.Proofs.Tryd.f74
noncomputable def c75 : Code := bodyOf Go.Proofs.Tryd.f75
noncomputable def c76 : Code := bodyOf Go.Proofs.Tryd.f76
noncomputable def c52 : Code := bodyOf Go.Proofs.Tryd.f52
noncomputable def c80 : Code := bodyOf Go.Proofs.Tryd.f80
noncomputable def c56 : Code := bodyOf Go.Proofs.Tryd.f56
noncomputable def c27 : Code := bodyOf Go.Proofs.Tryd.f27
noncomputable def c5 : Code := bodyOf Go.Proofs.Tryd.f5
noncomputable def c28 : Code := bodyOf Go.Proofs.Tryd.f28
noncomputable def c59 : Code := bodyOf Go.Proofs.Tryd.f59
noncomputable def c57 : Code := bodyOf Go.Proofs.Tryd.f57
noncomputable def c29 : Code := bodyOf Go.Proofs.Tryd.f29
noncomputable def c31 : Code := bodyOf Go.Proofs.Tryd.f31
noncomputable def c58 : Code := bodyOf Go.Proofs.Tryd.f58
noncomputable def c30 : Code := bodyOf Go.Proofs.Tryd.f30
noncomputable def c82 : Code := bodyOf Go.Proofs.Tryd.f82
noncomputable def c54 : Code := bodyOf Go.Proofs.Tryd.f54
noncomputable def c94 : Code := bodyOf Go.Proofs.Tryd.f94
noncomputable def c95 : Code := bodyOf Go.Proofs.Tryd.f95
noncomputable def c96 : Code := bodyOf Go.Proofs.Tryd.f96
noncomputable def c81 : Code := bodyOf Go.Proofs.Tryd.f81
noncomputable def c73 : Code := bodyOf Go.Proofs.Tryd.f73
noncomputable def c50 : Code := bodyOf Go.Proofs.Tryd.f50
noncomputable def c51 : Code := bodyOf Go.Proofs.Tryd.f51
noncomputable def c97 : Code := bodyOf Go.Proofs.Tryd.f97
noncomputable def c83 : Code := bodyOf Go.Proofs.Tryd.f83
noncomputable def c106 : Code := bodyOf Go.Proofs.Tryd.f106
noncomputable def c98 : Code := bodyOf Go.Proofs.Tryd.f98
noncomputable def c84 : Code := bodyOf Go.Proofs.Tryd.f84
noncomputable def c60 : Code := bodyOf Go.Proofs.Tryd.f60
noncomputable def c32 : Code := bodyOf Go.Proofs.Tryd.f32
noncomputable def c7 : Code := bodyOf Go.Proofs.Tryd.f7
noncomputable def c8 : Code := bodyOf Go.Proofs.Tryd.f8
noncomputable def c33 : Code := bodyOf Go.Proofs.Tryd.f33
noncomputable def c61 : Code := bodyOf Go.Proofs.Tryd.f61
noncomputable def c34 : Code := bodyOf Go.Proofs.Tryd.f34
noncomputable def c35 : Code := bodyOf Go.Proofs.Tryd.f35
noncomputable def c9 : Code := bodyOf Go.Proofs.Tryd.f9
noncomputable def c10 : Code := bodyOf Go.Proofs.Tryd.f10
noncomputable def c36 : Code := bodyOf Go.Proofs.Tryd.f36
noncomputable def c62 : Code := bodyOf Go.Proofs.Tryd.f62
noncomputable def c37 : Code := bodyOf Go.Proofs.Tryd.f37
noncomputable def c38 : Code := bodyOf Go.Proofs.Tryd.f38
noncomputable def c11 : Code := bodyOf Go.Proofs.Tryd.f11
noncomputable def c12 : Code := bodyOf Go.Proofs.Tryd.f12
noncomputable def c39 : Code := bodyOf Go.Proofs.Tryd.f39
noncomputable def c40 : Code := bodyOf Go.Proofs.Tryd.f40
noncomputable def c41 : Code := bodyOf Go.Proofs.Tryd.f41
noncomputable def c13 : Code := bodyOf Go.Proofs.Tryd.f13
noncomputable def c3 : Code := bodyOf Go.Proofs.Tryd.f3
noncomputable def o6 : List (Nat × PI) := []
noncomputable def o53 : List (Nat × PI) := []
noncomputable def o26 : List (Nat × PI) := [(4, PI.of [0, 1, 2, 3, 4, 5, 6, 7, 8, 9, 10, 11, 12, 13, 14, 15, 16, 17, 18, 19, 20, 21])]
noncomputable def o79 : List (Nat × PI) := []
noncomputable def o93 : List (Nat × PI) := []
noncomputable def o78 : List (Nat × PI) := [(6, PI.of [0, 1, 2, 3, 4, 5, 6, 7, 8, 9, 10]), (11, PI.of [0, 1, 2, 3, 4, 5, 6, 7, 8, 9, 10]), (16, PI.of [0, 1, 2, 3, 4, 5, 6, 7, 8, 9, 10])]
noncomputable def o105 : List (Nat × PI) := []
noncomputable def o92 : List (Nat × PI) := []
noncomputable def o74 : List (Nat × PI) := []
noncomputable def o75 : List (Nat × PI) := []
noncomputable def o76 : List (Nat × PI) := []
noncomputable def o52 : List (Nat × PI) := []
noncomputable def o80 : List (Nat × PI) := []
noncomputable def o56 : List (Nat × PI) := [(1, .one 0 (.one 1 (.one 2 (.one 3 (.one 4 (.one 6 (.two 5 (PI.of [7, 8, 9, 10]) 7 (PI.of [5, 8, 9, 10]))))))))]
noncomputable def o27 : List (Nat × PI) := []
noncomputable def o5 : List (Nat × PI) := []
noncomputable def o28 : List (Nat × PI) := []
noncomputable def o59 : List (Nat × PI) := []
noncomputable def o57 : List (Nat × PI) := []
noncomputable def o29 : List (Nat × PI) := []
noncomputable def o31 : List (Nat × PI) := []
noncomputable def o58 : List (Nat × PI) := []
noncomputable def o30 : List (Nat × PI) := []
noncomputable def o82 : List (Nat × PI) := [(4, .one 0 (.one 1 (.one 2 (.one 4 (.one 6 (.one 8 (.one 10 (.one 12 (.ld 3 (.ld 5 (.ld 7 (.ld 9 (.ld 11 (.st 13 3 (.one 14 (.st 15 3 (.one 16 (.st 17 3 (.one 18 (.st 19 3 (.one 20 (.st 21 3 (PI.of [22, 23]))))))))))))))))))))))), (6, .one 0 (.one 1 (.one 2 (.one 4 (.one 6 (.one 8 (.ld 3 (.ld 5 (.ld 7 (.st 9 3 (.one 10 (.st 11 3 (.one 12 (.st 13 3 (PI.of [14, 15]))))))))))))))), (8, .one 0 (.one 1 (.one 2 (.one 4 (.ld 3 (.st 5 3 (PI.of [6, 7]))))))), (12, .one 0 (.one 1 (.one 2 (.one 4 (.ld 3 (.st 5 3 (PI.of [6, 7]))))))), (14, .one 0 (.one 1 (.one 2 (.one 4 (.one 6 (.one 8 (.ld 3 (.ld 5 (.ld 7 (.st 9 3 (.one 10 (.st 11 3 (.one 12 (.st 13 3 (PI.of [14, 15]))))))))))))))), (16, .one 0 (.one 1 (.one 2 (.one 4 (.ld 3 (.st 5 3 (PI.of [6, 7]))))))), (24, .one 0 (.one 1 (.one 2 (.one 4 (.ld 3 (.st 5 3 (PI.of [6, 7]))))))), (26, .one 0 (.one 1 (.one 2 (.one 4 (.ld 3 (.st 5 3 (PI.of [6, 7]))))))), (28, .one 0 (.one 1 (.one 2 (.one 4 (.ld 3 (.st 5 3 (PI.of [6, 7])))))))]
noncomputable def o54 : List (Nat × PI) := []
noncomputable def o94 : List (Nat × PI) := [(6, PI.of [0, 1, 2, 3, 4, 5, 6, 7, 8])]
noncomputable def o95 : List (Nat × PI) := [(6, PI.of [0, 1, 2, 3, 4, 5, 6, 7, 8])]
noncomputable def o96 : List (Nat × PI) := [(6, PI.of [0, 1, 2, 3, 4, 5, 6, 7, 8])]
noncomputable def o81 : List (Nat × PI) := []
noncomputable def o73 : List (Nat × PI) := []
noncomputable def o50 : List (Nat × PI) := []
noncomputable def o51 : List (Nat × PI) := []
noncomputable def o97 : List (Nat × PI) := []
noncomputable def o83 : List (Nat × PI) := []
noncomputable def o106 : List (Nat × PI) := []
noncomputable def o98 : List (Nat × PI) := []
noncomputable def o84 : List (Nat × PI) := []
noncomputable def o60 : List (Nat × PI) := [(1, .one 0 (.one 1 (.one 2 (.one 3 (.one 4 (.one 6 (.two 5 (PI.of [7, 8, 9, 10]) 7 (PI.of [5, 8, 9, 10]))))))))]
noncomputable def o32 : List (Nat × PI) := []
noncomputable def o7 : List (Nat × PI) := []
noncomputable def o8 : List (Nat × PI) := [(6, PI.of [0, 1, 2, 3, 4, 5, 6, 7, 8])]
noncomputable def o33 : List (Nat × PI) := [(6, PI.of [0, 1, 2, 3, 4, 5, 6, 7, 8])]
noncomputable def o61 : List (Nat × PI) := []
noncomputable def o34 : List (Nat × PI) := [(6, PI.of [0, 1, 2, 3, 4, 5, 6, 7, 8, 9])]
noncomputable def o35 : List (Nat × PI) := [(6, PI.of [0, 1, 2, 3, 4, 5, 6, 7, 8])]
noncomputable def o9 : List (Nat × PI) := []
noncomputable def o10 : List (Nat × PI) := []
noncomputable def o36 : List (Nat × PI) := []
noncomputable def o62 : List (Nat × PI) := []
noncomputable def o37 : List (Nat × PI) := []
noncomputable def o38 : List (Nat × PI) := []
noncomputable def o11 : List (Nat × PI) := []
noncomputable def o12 : List (Nat × PI) := []
noncomputable def o39 : List (Nat × PI) := []
noncomputable def o40 : List (Nat × PI) := [(4, PI.of [0, 1, 2, 3, 4, 5, 6, 7])]
noncomputable def o41 : List (Nat × PI) := [(4, PI.of [0, 1, 2, 3, 4, 5, 6])]
noncomputable def o13 : List (Nat × PI) := []
noncomputable def o3 : List (Nat × PI) := []
abbrev uu : AV := .sc undef
noncomputable def tzG : Nat → List AV → Tm
 | _, [] => []
 | i, x :: l => (i, x) :: tzG (i + 1) l
noncomputable def tz (l : List AV) : Tm := tzG 0 l
noncomputable def tf : Nat → Nat → (Nat → AV) → Tm
 | 0, _, _ => []
 | n + 1, i, t => (i, t i) :: tf n (i + 1) t
noncomputable def ut : Nat → AV := fun _ => uu
noncomputable def ud : List (Nat × AV) → (Nat → AV) → Nat → AV
 | [], t, i => t i
 | (j, v) :: r, t, i => match Nat.beq j i with
  | true => v
  | false => ud r t i
noncomputable def ti0 (t : Nat) : Option TI := (tis[t]?).getD none
noncomputable def cd : Code → List Nat → Code
 | c, [] => c
 | .seq a b, i :: p => cd (if i = 0 then a else b) p
 | .cond _ a b, i :: p => cd (if i = 1 then a else b) p
 | .block _ a, _ :: p => cd a p
 | .loop a, _ :: p => cd a p
 | c, _ => c
noncomputable def f6_l0 (p : Pr β) (n : Nat)  (k : AV → Heap → Option β) : Nat → AV → AV → AV → Heap → Option β
 | 0, _, _, _, _ => none
 | m + 1, t0, t3, t4, H => p.len t0 fun t10 =>
   p.bin .lss t4 t10 fun t11 =>
   p.cond t11
   (p.iadr 1 t0 t4 fun t18 =>
   p.load false 1 t18 H fun t19 =>
   p.iadr 1 t3 t4 fun t20 =>
   p.store 1 t20 t19 H fun H =>
   p.bin .add t4 (.sc (.int .i64 1)) fun t13 =>
   f6_l0 p n  k m t0 t3 t13 H)
   (k t3 H)
noncomputable def f6 (p : Pr β) (n : Nat) (a0 : AV) (H : Heap) (k : AV → Heap → Option β) : Option β :=
 p.len a0 fun t6 =>
 p.make 1 8 [(.sc (.int .i64 0))] t6 t6 H fun t7 H =>
 f6_l0 p n  k n a0 t7 (.sc (.int .i64 0)) H
noncomputable def f6_L0 (p : Pr β) (n : Nat)  (k : AV → Heap → Option β) (m : Nat) (tm : Tm) (H : Heap) : Option β :=
 iterC 22 (fun tm H k => evalCode ti0 p o6 22 n (cd c6 [1, 1, 0, 1, 0, 0]) tm H k) (blkK 0 (seqK (fun tm H => evalCode ti0 p o6 22 n (cd c6 [1, 1, 1]) tm H (endK ti0 p Go.Proofs.Tryd.f6.results.toList k)) (endK ti0 p Go.Proofs.Tryd.f6.results.toList k))) m tm H
theorem f6_L0_step (p : Pr β) (n : Nat)  (k : AV → Heap → Option β) (m0 : Nat) (t : Nat → AV) (H : Heap) : f6_L0 p n  k (m0 + 1) (tf 22 0 t) H =
 p.len (t 0) fun t10 =>
 p.bin .lss (t 4) t10 fun t11 =>
 p.cond t11
 (p.iadr 1 (t 0) (t 4) fun t18 =>
 p.load false 1 t18 H fun t19 =>
 p.iadr 1 (t 3) (t 4) fun t20 =>
 p.store 1 t20 t19 H fun H =>
 p.bin .add (t 4) (.sc (.int .i64 1)) fun t13 =>
 f6_L0 p n  k m0 (tf 22 0 (ud [(4, t13), (8, (t 4)), (9, (t 0)), (10, t10), (11, t11), (12, (t 4)), (13, t13), (14, (t 3)), (15, (t 4)), (16, (t 0)), (17, (t 4)), (18, t18), (19, t19), (20, t20)] t)) H)
 (k (t 3) H) := by kernel_rfl
theorem f6_l0_eq (p : Pr β) (n : Nat)  (k : AV → Heap → Option β)   (m0 : Nat) : ∀ (t : Nat → AV) (H : Heap), f6_L0 p n  k m0 (tf 22 0 t) H = f6_l0 p n  k m0 (t 0) (t 3) (t 4) H := by
 induction m0 with
 | zero => intros; rfl
 | succ m0 ih =>
  intro t H
  rw [f6_L0_step]
  simp only [ih]
  kernel_rfl
theorem f6_raw (p : Pr β) (n : Nat) (a0 : AV) (H : Heap) (k : AV → Heap → Option β) : evalBody ti0 p n ⟨c6, 22, Go.Proofs.Tryd.f6.results.toList, o6⟩ [a0] H k =
 p.len a0 fun t6 =>
 p.make 1 8 [(.sc (.int .i64 0))] t6 t6 H fun t7 H =>
 f6_L0 p n  k n (tf 22 0 (ud [(0, a0), (2, .nl), (3, t7), (4, (.sc (.int .i64 0))), (5, a0), (6, t6), (7, t7)] ut)) H := by kernel_rfl
theorem f6_body (p : Pr β) (n : Nat) (a0 : AV) (H : Heap) (k : AV → Heap → Option β) : evalBody ti0 p n ⟨c6, 22, Go.Proofs.Tryd.f6.results.toList, o6⟩ [a0] H k = f6 p n a0 H k := by
 rw [f6_raw]
 simp only [f6_l0_eq]
 kernel_rfl
noncomputable def f53 (p : Pr β) (n : Nat) (a0 a1 a2 : AV) (H : Heap) (k : AV → Heap → Option β) : Option β :=
 p.bin .geq a0 a1 fun t9 =>
 p.guard t9 true H (fun k' => k' a0 H) fun t11 H =>
 p.guard t9 true H (fun k' => k' a2 H) fun t12 H =>
 p.guard t9 true H (fun k' => p.bin .leq t11 t12 fun t' => k' t' H) fun t13 H =>
 p.pick t9 t13 (.sc (.bool false)) fun t14 =>
 k t14 H
theorem f53_body (p : Pr β) (n : Nat) (a0 a1 a2 : AV) (H : Heap) (k : AV → Heap → Option β) : evalBody ti0 p n ⟨c53, 15, Go.Proofs.Tryd.f53.results.toList, o53⟩ [a0, a1, a2] H k = f53 p n a0 a1 a2 H k := by kernel_rfl
noncomputable def f26_l0 (p : Pr β) (n : Nat)  (k : AV → Heap → Option β) : Nat → AV → AV → Heap → Option β
 | 0, _, _, _ => none
 | m + 1, t0, t3, H => p.len t0 fun t6 =>
   p.bin .lss t3 t6 fun t7 =>
   p.cond t7
   (p.iadr 1 t0 t3 fun t12 =>
   p.load false 1 t12 H fun t13 =>
   p.call 4 (.fn 53 [] []) [t13, (.sc (.int .i64 1)), (.sc (.int .i64 65535))] H fun t14 H =>
   p.un .not t14 fun t15 =>
   p.guard t15 false H (fun k' => k' t3 H) fun t17 H =>
   p.guard t15 false H (fun k' => p.bin .gtr t17 (.sc (.int .i64 0)) fun t' => k' t' H) fun t18 H =>
   p.guard t15 false H (fun k' => k' t18 H) fun t19 H =>
   p.guard t19 true H (fun k' => k' t0 H) fun t20 H =>
   p.guard t19 true H (fun k' => k' t3 H) fun t21 H =>
   p.guard t19 true H (fun k' => p.bin .sub t21 (.sc (.int .i64 1)) fun t' => k' t' H) fun t22 H =>
   p.guard t19 true H (fun k' => p.iadr 1 t20 t22 fun t' => k' t' H) fun t23 H =>
   p.guard t19 true H (fun k' => p.load false 1 t23 H fun t' => k' t' H) fun t24 H =>
   p.guard t19 true H (fun k' => k' t0 H) fun t25 H =>
   p.guard t19 true H (fun k' => k' t3 H) fun t26 H =>
   p.guard t19 true H (fun k' => p.iadr 1 t25 t26 fun t' => k' t' H) fun t27 H =>
   p.guard t19 true H (fun k' => p.load false 1 t27 H fun t' => k' t' H) fun t28 H =>
   p.guard t19 true H (fun k' => p.bin .geq t24 t28 fun t' => k' t' H) fun t29 H =>
   p.guard t15 false H (fun k' => p.pick t19 t29 (.sc (.bool false)) fun t' => k' t' H) fun t30 H =>
   p.pick t15 (.sc (.bool true)) t30 fun t31 =>
   p.cond t31
   (k (.sc (.bool false)) H)
   (p.bin .add t3 (.sc (.int .i64 1)) fun t9 =>
   f26_l0 p n  k m t0 t9 H))
   (p.len t0 fun t33 =>
   p.bin .leq t33 (.sc (.int .i64 4)) fun t34 =>
   k t34 H)
noncomputable def f26 (p : Pr β) (n : Nat) (a0 : AV) (H : Heap) (k : AV → Heap → Option β) : Option β :=
 f26_l0 p n  k n a0 (.sc (.int .i64 0)) H
noncomputable def f26_L0 (p : Pr β) (n : Nat)  (k : AV → Heap → Option β) (m : Nat) (tm : Tm) (H : Heap) : Option β :=
 iterC 35 (fun tm H k => evalCode ti0 p o26 35 n (cd c26 [1, 0, 1, 0, 0]) tm H k) (blkK 0 (seqK (fun tm H => evalCode ti0 p o26 35 n (cd c26 [1, 1]) tm H (endK ti0 p Go.Proofs.Tryd.f26.results.toList k)) (endK ti0 p Go.Proofs.Tryd.f26.results.toList k))) m tm H
theorem f26_L0_step (p : Pr β) (n : Nat)  (k : AV → Heap → Option β) (m0 : Nat) (t : Nat → AV) (H : Heap) : f26_L0 p n  k (m0 + 1) (tf 35 0 t) H =
 p.len (t 0) fun t6 =>
 p.bin .lss (t 3) t6 fun t7 =>
 p.cond t7
 (p.iadr 1 (t 0) (t 3) fun t12 =>
 p.load false 1 t12 H fun t13 =>
 p.call 4 (.fn 53 [] []) [t13, (.sc (.int .i64 1)), (.sc (.int .i64 65535))] H fun t14 H =>
 p.un .not t14 fun t15 =>
 p.guard t15 false H (fun k' => k' (t 3) H) fun t17 H =>
 p.guard t15 false H (fun k' => p.bin .gtr t17 (.sc (.int .i64 0)) fun t' => k' t' H) fun t18 H =>
 p.guard t15 false H (fun k' => k' t18 H) fun t19 H =>
 p.guard t19 true H (fun k' => k' (t 0) H) fun t20 H =>
 p.guard t19 true H (fun k' => k' (t 3) H) fun t21 H =>
 p.guard t19 true H (fun k' => p.bin .sub t21 (.sc (.int .i64 1)) fun t' => k' t' H) fun t22 H =>
 p.guard t19 true H (fun k' => p.iadr 1 t20 t22 fun t' => k' t' H) fun t23 H =>
 p.guard t19 true H (fun k' => p.load false 1 t23 H fun t' => k' t' H) fun t24 H =>
 p.guard t19 true H (fun k' => k' (t 0) H) fun t25 H =>
 p.guard t19 true H (fun k' => k' (t 3) H) fun t26 H =>
 p.guard t19 true H (fun k' => p.iadr 1 t25 t26 fun t' => k' t' H) fun t27 H =>
 p.guard t19 true H (fun k' => p.load false 1 t27 H fun t' => k' t' H) fun t28 H =>
 p.guard t19 true H (fun k' => p.bin .geq t24 t28 fun t' => k' t' H) fun t29 H =>
 p.guard t15 false H (fun k' => p.pick t19 t29 (.sc (.bool false)) fun t' => k' t' H) fun t30 H =>
 p.pick t15 (.sc (.bool true)) t30 fun t31 =>
 p.cond t31
 (k (.sc (.bool false)) H)
 (p.bin .add (t 3) (.sc (.int .i64 1)) fun t9 =>
 f26_L0 p n  k m0 (tf 35 0 (ud [(3, t9), (4, (t 3)), (5, (t 0)), (6, t6), (7, t7), (8, (t 3)), (9, t9), (10, (t 0)), (11, (t 3)), (12, t12), (13, t13), (14, t14), (15, t15), (16, t15), (17, t17), (18, t18), (19, t19), (20, t20), (21, t21), (22, t22), (23, t23), (24, t24), (25, t25), (26, t26), (27, t27), (28, t28), (29, t29), (30, t30), (31, t31)] t)) H))
 (p.len (t 0) fun t33 =>
 p.bin .leq t33 (.sc (.int .i64 4)) fun t34 =>
 k t34 H) := by kernel_rfl
theorem f26_l0_eq (p : Pr β) (n : Nat)  (k : AV → Heap → Option β)   (m0 : Nat) : ∀ (t : Nat → AV) (H : Heap), f26_L0 p n  k m0 (tf 35 0 t) H = f26_l0 p n  k m0 (t 0) (t 3) H := by
 induction m0 with
 | zero => intros; rfl
 | succ m0 ih =>
  intro t H
  rw [f26_L0_step]
  simp only [ih]
  kernel_rfl
theorem f26_raw (p : Pr β) (n : Nat) (a0 : AV) (H : Heap) (k : AV → Heap → Option β) : evalBody ti0 p n ⟨c26, 35, Go.Proofs.Tryd.f26.results.toList, o26⟩ [a0] H k =
 f26_L0 p n  k n (tf 35 0 (ud [(0, a0), (2, (.sc (.bool false))), (3, (.sc (.int .i64 0)))] ut)) H := by kernel_rfl
theorem f26_body (p : Pr β) (n : Nat) (a0 : AV) (H : Heap) (k : AV → Heap → Option β) : evalBody ti0 p n ⟨c26, 35, Go.Proofs.Tryd.f26.results.toList, o26⟩ [a0] H k = f26 p n a0 H k := by
 rw [f26_raw]
 simp only [f26_l0_eq]
 kernel_rfl
noncomputable def f79 (p : Pr β) (n : Nat) (a0 : AV) (H : Heap) (k : AV → Heap → Option β) : Option β :=
 p.box a0 H fun t1 H =>
 p.new [(.sc (.int .i64 0)), (.sc (.bool false)), (.sc (.int .i64 0)), (.sc (.bool false)), (.sc (.int .i64 0)), (.sc (.string ⟨#[]⟩)), .nl, (.sc (.string ⟨#[]⟩)), (.sc (.int .i64 0)), (.sc (.bool false)), (.sc (.int .i64 0)), (.sc (.bool false)), (.sc (.string ⟨#[]⟩)), .nl, (.sc (.int .i64 0)), (.sc (.bool false)), (.sc (.bool false)), (.sc (.string ⟨#[]⟩)), (.sc (.bool false)), .nl, (.sc (.int .i64 0)), (.sc (.bool false)), .nl, .nl, .nl] H fun t2 H =>
 p.fadr 0 t1 fun t4 =>
 p.load false 1 t4 H fun t5 =>
 p.fill [(.sc (.int .i64 0)), (.sc (.bool false)), (.sc (.int .i64 0)), (.sc (.bool false)), (.sc (.int .i64 0)), (.sc (.string ⟨#[]⟩)), .nl, (.sc (.string ⟨#[]⟩)), (.sc (.int .i64 0)), (.sc (.bool false)), (.sc (.int .i64 0)), (.sc (.bool false)), (.sc (.string ⟨#[]⟩)), .nl, (.sc (.int .i64 0)), (.sc (.bool false)), (.sc (.bool false)), (.sc (.string ⟨#[]⟩)), (.sc (.bool false)), .nl, (.sc (.int .i64 0)), (.sc (.bool false)), .nl, .nl, .nl] [(0, 1, t5)] fun ct6 =>
 p.new [(.sc (.int .i64 0)), (.sc (.bool false)), (.sc (.int .i64 0)), (.sc (.bool false)), (.sc (.int .i64 0)), (.sc (.string ⟨#[]⟩)), .nl, (.sc (.string ⟨#[]⟩)), (.sc (.int .i64 0)), (.sc (.bool false)), (.sc (.int .i64 0)), (.sc (.bool false)), (.sc (.string ⟨#[]⟩)), .nl, (.sc (.int .i64 0)), (.sc (.bool false)), (.sc (.bool false)), (.sc (.string ⟨#[]⟩)), (.sc (.bool false)), .nl, (.sc (.int .i64 0)), (.sc (.bool false)), .nl, .nl, .nl] H fun t3 H =>
 p.store 25 t3 (.agg ct6) H fun H =>
 p.fadr 0 t1 fun t7 =>
 p.load false 1 t7 H fun t8 =>
 p.bin .eql t8 (.sc (.int .i64 1)) fun t10 =>
 p.cond t10
 (p.fadr 8 t1 fun t11 =>
 p.load false 1 t11 H fun t12 =>
 p.fadr 8 t3 fun t13 =>
 p.store 1 t13 t12 H fun H =>
 p.fadr 7 t1 fun t14 =>
 p.load false 1 t14 H fun t15 =>
 p.fadr 7 t3 fun t16 =>
 p.store 1 t16 t15 H fun H =>
 p.fadr 9 t1 fun t17 =>
 p.load false 1 t17 H fun t18 =>
 p.fadr 9 t3 fun t19 =>
 p.store 1 t19 t18 H fun H =>
 p.fadr 10 t1 fun t20 =>
 p.load false 1 t20 H fun t21 =>
 p.fadr 10 t3 fun t22 =>
 p.store 1 t22 t21 H fun H =>
 p.fadr 11 t1 fun t23 =>
 p.load false 1 t23 H fun t24 =>
 letJ (fun (t1 t2 t3 : AV) (H : Heap) => p.fadr 16 t1 fun t38 =>
 p.load false 1 t38 H fun t39 =>
 p.cond t39
 (p.fadr 16 t3 fun t40 =>
 p.store 1 t40 (.sc (.bool true)) H fun H =>
 p.fadr 17 t1 fun t41 =>
 p.load false 1 t41 H fun t42 =>
 p.fadr 17 t3 fun t43 =>
 p.store 1 t43 t42 H fun H =>
 p.fadr 18 t1 fun t44 =>
 p.load false 1 t44 H fun t45 =>
 p.cond t45
 (p.fadr 18 t3 fun t46 =>
 p.store 1 t46 (.sc (.bool true)) H fun H =>
 p.fadr 19 t1 fun t47 =>
 p.load false 1 t47 H fun t48 =>
 p.fadr 19 t3 fun t49 =>
 p.store 1 t49 t48 H fun H =>
 p.load true 25 t3 H fun t119 =>
 p.store 25 t2 t119 H fun H =>
 p.load true 25 t2 H fun r0 =>
 k r0 H)
 (p.load true 25 t3 H fun t119 =>
 p.store 25 t2 t119 H fun H =>
 p.load true 25 t2 H fun r0 =>
 k r0 H))
 (p.load true 25 t3 H fun t119 =>
 p.store 25 t2 t119 H fun H =>
 p.load true 25 t2 H fun r0 =>
 k r0 H)) fun j1 =>
 p.cond t24
 (p.fadr 11 t3 fun t25 =>
 p.store 1 t25 (.sc (.bool true)) H fun H =>
 p.fadr 12 t1 fun t26 =>
 p.load false 1 t26 H fun t27 =>
 p.fadr 12 t3 fun t28 =>
 p.store 1 t28 t27 H fun H =>
 p.fadr 13 t1 fun t29 =>
 p.load false 1 t29 H fun t30 =>
 p.fadr 13 t3 fun t31 =>
 p.store 1 t31 t30 H fun H =>
 p.fadr 14 t1 fun t32 =>
 p.load false 1 t32 H fun t33 =>
 p.fadr 14 t3 fun t34 =>
 p.store 1 t34 t33 H fun H =>
 p.fadr 15 t1 fun t35 =>
 p.load false 1 t35 H fun t36 =>
 p.fadr 15 t3 fun t37 =>
 p.store 1 t37 t36 H fun H =>
 j1 t1 t2 t3 H)
 (j1 t1 t2 t3 H))
 (p.bin .eql t8 (.sc (.int .i64 2)) fun t51 =>
 p.cond t51
 (p.fadr 20 t1 fun t52 =>
 p.load false 1 t52 H fun t53 =>
 p.fadr 20 t3 fun t54 =>
 p.store 1 t54 t53 H fun H =>
 p.fadr 21 t1 fun t55 =>
 p.load false 1 t55 H fun t56 =>
 p.guard t56 true H (fun k' => p.fadr 20 t1 fun t' => k' t' H) fun t58 H =>
 p.guard t56 true H (fun k' => p.load false 1 t58 H fun t' => k' t' H) fun t59 H =>
 p.guard t56 true H (fun k' => p.bin .eql t59 (.sc (.int .i64 0)) fun t' => k' t' H) fun t60 H =>
 p.pick t56 t60 (.sc (.bool false)) fun t61 =>
 p.fadr 21 t3 fun t62 =>
 p.store 1 t62 t61 H fun H =>
 p.load true 25 t3 H fun t119 =>
 p.store 25 t2 t119 H fun H =>
 p.load true 25 t2 H fun r0 =>
 k r0 H)
 (p.bin .eql t8 (.sc (.int .i64 3)) fun t64 =>
 p.cond t64
 (p.fadr 2 t1 fun t65 =>
 p.load false 1 t65 H fun t66 =>
 p.fadr 2 t3 fun t67 =>
 p.store 1 t67 t66 H fun H =>
 p.fadr 3 t1 fun t68 =>
 p.load false 1 t68 H fun t69 =>
 p.fadr 3 t3 fun t70 =>
 p.store 1 t70 t69 H fun H =>
 p.fadr 5 t1 fun t71 =>
 p.load false 1 t71 H fun t72 =>
 p.fadr 5 t3 fun t73 =>
 p.store 1 t73 t72 H fun H =>
 p.fadr 6 t1 fun t74 =>
 p.load false 1 t74 H fun t75 =>
 p.fadr 6 t3 fun t76 =>
 p.store 1 t76 t75 H fun H =>
 p.fadr 2 t1 fun t77 =>
 p.load false 1 t77 H fun t78 =>
 p.bin .gtr t78 (.sc (.int .i64 0)) fun t79 =>
 p.cond t79
 (p.fadr 1 t1 fun t80 =>
 p.load false 1 t80 H fun t81 =>
 p.fadr 1 t3 fun t82 =>
 p.store 1 t82 t81 H fun H =>
 p.fadr 4 t1 fun t83 =>
 p.load false 1 t83 H fun t84 =>
 p.fadr 4 t3 fun t85 =>
 p.store 1 t85 t84 H fun H =>
 p.load true 25 t3 H fun t119 =>
 p.store 25 t2 t119 H fun H =>
 p.load true 25 t2 H fun r0 =>
 k r0 H)
 (p.load true 25 t3 H fun t119 =>
 p.store 25 t2 t119 H fun H =>
 p.load true 25 t2 H fun r0 =>
 k r0 H))
 (p.bin .eql t8 (.sc (.int .i64 4)) fun t87 =>
 letJ (fun (t1 t2 t3 t8 t86 : AV) (H : Heap) => p.cond t86
 (p.fadr 4 t1 fun t92 =>
 p.load false 1 t92 H fun t93 =>
 p.fadr 4 t3 fun t94 =>
 p.store 1 t94 t93 H fun H =>
 p.load true 25 t3 H fun t119 =>
 p.store 25 t2 t119 H fun H =>
 p.load true 25 t2 H fun r0 =>
 k r0 H)
 (p.bin .eql t8 (.sc (.int .i64 8)) fun t96 =>
 p.cond t96
 (p.fadr 4 t1 fun t97 =>
 p.load false 1 t97 H fun t98 =>
 p.fadr 4 t3 fun t99 =>
 p.store 1 t99 t98 H fun H =>
 p.fadr 22 t1 fun t100 =>
 p.load false 1 t100 H fun t101 =>
 p.fadr 22 t3 fun t102 =>
 p.store 1 t102 t101 H fun H =>
 p.load true 25 t3 H fun t119 =>
 p.store 25 t2 t119 H fun H =>
 p.load true 25 t2 H fun r0 =>
 k r0 H)
 (p.bin .eql t8 (.sc (.int .i64 9)) fun t104 =>
 p.cond t104
 (p.fadr 4 t1 fun t105 =>
 p.load false 1 t105 H fun t106 =>
 p.fadr 4 t3 fun t107 =>
 p.store 1 t107 t106 H fun H =>
 p.fadr 24 t1 fun t108 =>
 p.load false 1 t108 H fun t109 =>
 p.fadr 24 t3 fun t110 =>
 p.store 1 t110 t109 H fun H =>
 p.load true 25 t3 H fun t119 =>
 p.store 25 t2 t119 H fun H =>
 p.load true 25 t2 H fun r0 =>
 k r0 H)
 (p.bin .eql t8 (.sc (.int .i64 10)) fun t112 =>
 p.cond t112
 (p.fadr 4 t1 fun t113 =>
 p.load false 1 t113 H fun t114 =>
 p.fadr 4 t3 fun t115 =>
 p.store 1 t115 t114 H fun H =>
 p.fadr 23 t1 fun t116 =>
 p.load false 1 t116 H fun t117 =>
 p.fadr 23 t3 fun t118 =>
 p.store 1 t118 t117 H fun H =>
 p.load true 25 t3 H fun t119 =>
 p.store 25 t2 t119 H fun H =>
 p.load true 25 t2 H fun r0 =>
 k r0 H)
 (p.load true 25 t3 H fun t119 =>
 p.store 25 t2 t119 H fun H =>
 p.load true 25 t2 H fun r0 =>
 k r0 H))))) fun j2 =>
 p.cond t87
 (j2 t1 t2 t3 t8 t87 H)
 (p.bin .eql t8 (.sc (.int .i64 5)) fun t88 =>
 p.cond t88
 (j2 t1 t2 t3 t8 t88 H)
 (p.bin .eql t8 (.sc (.int .i64 6)) fun t89 =>
 p.cond t89
 (j2 t1 t2 t3 t8 t89 H)
 (p.bin .eql t8 (.sc (.int .i64 7)) fun t90 =>
 p.cond t90
 (j2 t1 t2 t3 t8 t90 H)
 (p.bin .eql t8 (.sc (.int .i64 11)) fun t91 =>
 j2 t1 t2 t3 t8 t91 H)))))))
theorem f79_body (p : Pr β) (n : Nat) (a0 : AV) (H : Heap) (k : AV → Heap → Option β) : evalBody ti0 p n ⟨c79, 120, Go.Proofs.Tryd.f79.results.toList, o79⟩ [a0] H k = f79 p n a0 H k := by kernel_rfl
noncomputable def f93 (p : Pr β) (n : Nat) (a0 a1 : AV) (H : Heap) (k : AV → Heap → Option β) : Option β :=
 p.cvBS a0 H fun t6 =>
 p.cvBS a1 H fun t8 =>
 p.bin .eql t6 t8 fun t9 =>
 k t9 H
theorem f93_body (p : Pr β) (n : Nat) (a0 a1 : AV) (H : Heap) (k : AV → Heap → Option β) : evalBody ti0 p n ⟨c93, 10, Go.Proofs.Tryd.f93.results.toList, o93⟩ [a0, a1] H k = f93 p n a0 a1 H k := by kernel_rfl
noncomputable def f78_l2 (p : Pr β) (n : Nat)  (k : AV → Heap → Option β) : Nat → AV → AV → AV → Heap → Option β
 | 0, _, _, _, _ => none
 | m + 1, t2, t3, t7, H => p.fadr 24 t2 fun t70 =>
   p.load false 1 t70 H fun t71 =>
   p.len t71 fun t72 =>
   p.bin .lss t7 t72 fun t73 =>
   p.cond t73
   (p.fadr 24 t2 fun t76 =>
   p.load false 1 t76 H fun t77 =>
   p.iadr 1 t77 t7 fun t79 =>
   p.load false 1 t79 H fun t80 =>
   p.fadr 24 t3 fun t81 =>
   p.load false 1 t81 H fun t82 =>
   p.iadr 1 t82 t7 fun t84 =>
   p.load false 1 t84 H fun t85 =>
   p.bin .neq t80 t85 fun t86 =>
   p.cond t86
   (k (.sc (.bool false)) H)
   (p.bin .add t7 (.sc (.int .i64 1)) fun t75 =>
   f78_l2 p n  k m t2 t3 t75 H))
   (p.fadr 0 t2 fun t87 =>
   p.load false 1 t87 H fun t88 =>
   p.fadr 0 t3 fun t89 =>
   p.load false 1 t89 H fun t90 =>
   p.bin .eql t88 t90 fun t91 =>
   p.guard t91 true H (fun k' => p.fadr 1 t2 fun t' => k' t' H) fun t93 H =>
   p.guard t91 true H (fun k' => p.load false 1 t93 H fun t' => k' t' H) fun t94 H =>
   p.guard t91 true H (fun k' => p.fadr 1 t3 fun t' => k' t' H) fun t95 H =>
   p.guard t91 true H (fun k' => p.load false 1 t95 H fun t' => k' t' H) fun t96 H =>
   p.guard t91 true H (fun k' => p.binB .eql t94 t96 fun t' => k' t' H) fun t97 H =>
   p.pick t91 t97 (.sc (.bool false)) fun t98 =>
   p.guard t98 true H (fun k' => p.fadr 2 t2 fun t' => k' t' H) fun t100 H =>
   p.guard t98 true H (fun k' => p.load false 1 t100 H fun t' => k' t' H) fun t101 H =>
   p.guard t98 true H (fun k' => p.fadr 2 t3 fun t' => k' t' H) fun t102 H =>
   p.guard t98 true H (fun k' => p.load false 1 t102 H fun t' => k' t' H) fun t103 H =>
   p.guard t98 true H (fun k' => p.bin .eql t101 t103 fun t' => k' t' H) fun t104 H =>
   p.pick t98 t104 (.sc (.bool false)) fun t105 =>
   p.guard t105 true H (fun k' => p.fadr 3 t2 fun t' => k' t' H) fun t107 H =>
   p.guard t105 true H (fun k' => p.load false 1 t107 H fun t' => k' t' H) fun t108 H =>
   p.guard t105 true H (fun k' => p.fadr 3 t3 fun t' => k' t' H) fun t109 H =>
   p.guard t105 true H (fun k' => p.load false 1 t109 H fun t' => k' t' H) fun t110 H =>
   p.guard t105 true H (fun k' => p.binB .eql t108 t110 fun t' => k' t' H) fun t111 H =>
   p.pick t105 t111 (.sc (.bool false)) fun t112 =>
   p.guard t112 true H (fun k' => p.fadr 4 t2 fun t' => k' t' H) fun t114 H =>
   p.guard t112 true H (fun k' => p.load false 1 t114 H fun t' => k' t' H) fun t115 H =>
   p.guard t112 true H (fun k' => p.fadr 4 t3 fun t' => k' t' H) fun t116 H =>
   p.guard t112 true H (fun k' => p.load false 1 t116 H fun t' => k' t' H) fun t117 H =>
   p.guard t112 true H (fun k' => p.bin .eql t115 t117 fun t' => k' t' H) fun t118 H =>
   p.pick t112 t118 (.sc (.bool false)) fun t119 =>
   p.guard t119 true H (fun k' => p.fadr 5 t2 fun t' => k' t' H) fun t121 H =>
   p.guard t119 true H (fun k' => p.load false 1 t121 H fun t' => k' t' H) fun t122 H =>
   p.guard t119 true H (fun k' => p.fadr 5 t3 fun t' => k' t' H) fun t123 H =>
   p.guard t119 true H (fun k' => p.load false 1 t123 H fun t' => k' t' H) fun t124 H =>
   p.guard t119 true H (fun k' => p.bin .eql t122 t124 fun t' => k' t' H) fun t125 H =>
   p.pick t119 t125 (.sc (.bool false)) fun t126 =>
   p.guard t126 true H (fun k' => p.fadr 6 t2 fun t' => k' t' H) fun t128 H =>
   p.guard t126 true H (fun k' => p.load false 1 t128 H fun t' => k' t' H) fun t129 H =>
   p.guard t126 true H (fun k' => p.fadr 6 t3 fun t' => k' t' H) fun t130 H =>
   p.guard t126 true H (fun k' => p.load false 1 t130 H fun t' => k' t' H) fun t131 H =>
   p.guard t126 true H (fun k' => p.call 4 (.fn 93 [] []) [t129, t131] H fun t' H => k' t' H) fun t132 H =>
   p.pick t126 t132 (.sc (.bool false)) fun t133 =>
   p.guard t133 true H (fun k' => p.fadr 7 t2 fun t' => k' t' H) fun t135 H =>
   p.guard t133 true H (fun k' => p.load false 1 t135 H fun t' => k' t' H) fun t136 H =>
   p.guard t133 true H (fun k' => p.fadr 7 t3 fun t' => k' t' H) fun t137 H =>
   p.guard t133 true H (fun k' => p.load false 1 t137 H fun t' => k' t' H) fun t138 H =>
   p.guard t133 true H (fun k' => p.bin .eql t136 t138 fun t' => k' t' H) fun t139 H =>
   p.pick t133 t139 (.sc (.bool false)) fun t140 =>
   p.guard t140 true H (fun k' => p.fadr 8 t2 fun t' => k' t' H) fun t142 H =>
   p.guard t140 true H (fun k' => p.load false 1 t142 H fun t' => k' t' H) fun t143 H =>
   p.guard t140 true H (fun k' => p.fadr 8 t3 fun t' => k' t' H) fun t144 H =>
   p.guard t140 true H (fun k' => p.load false 1 t144 H fun t' => k' t' H) fun t145 H =>
   p.guard t140 true H (fun k' => p.bin .eql t143 t145 fun t' => k' t' H) fun t146 H =>
   p.pick t140 t146 (.sc (.bool false)) fun t147 =>
   p.guard t147 true H (fun k' => p.fadr 9 t2 fun t' => k' t' H) fun t149 H =>
   p.guard t147 true H (fun k' => p.load false 1 t149 H fun t' => k' t' H) fun t150 H =>
   p.guard t147 true H (fun k' => p.fadr 9 t3 fun t' => k' t' H) fun t151 H =>
   p.guard t147 true H (fun k' => p.load false 1 t151 H fun t' => k' t' H) fun t152 H =>
   p.guard t147 true H (fun k' => p.binB .eql t150 t152 fun t' => k' t' H) fun t153 H =>
   p.pick t147 t153 (.sc (.bool false)) fun t154 =>
   p.guard t154 true H (fun k' => p.fadr 10 t2 fun t' => k' t' H) fun t156 H =>
   p.guard t154 true H (fun k' => p.load false 1 t156 H fun t' => k' t' H) fun t157 H =>
   p.guard t154 true H (fun k' => p.fadr 10 t3 fun t' => k' t' H) fun t158 H =>
   p.guard t154 true H (fun k' => p.load false 1 t158 H fun t' => k' t' H) fun t159 H =>
   p.guard t154 true H (fun k' => p.bin .eql t157 t159 fun t' => k' t' H) fun t160 H =>
   p.pick t154 t160 (.sc (.bool false)) fun t161 =>
   p.guard t161 true H (fun k' => p.fadr 11 t2 fun t' => k' t' H) fun t163 H =>
   p.guard t161 true H (fun k' => p.load false 1 t163 H fun t' => k' t' H) fun t164 H =>
   p.guard t161 true H (fun k' => p.fadr 11 t3 fun t' => k' t' H) fun t165 H =>
   p.guard t161 true H (fun k' => p.load false 1 t165 H fun t' => k' t' H) fun t166 H =>
   p.guard t161 true H (fun k' => p.binB .eql t164 t166 fun t' => k' t' H) fun t167 H =>
   p.pick t161 t167 (.sc (.bool false)) fun t168 =>
   p.guard t168 true H (fun k' => p.fadr 12 t2 fun t' => k' t' H) fun t170 H =>
   p.guard t168 true H (fun k' => p.load false 1 t170 H fun t' => k' t' H) fun t171 H =>
   p.guard t168 true H (fun k' => p.fadr 12 t3 fun t' => k' t' H) fun t172 H =>
   p.guard t168 true H (fun k' => p.load false 1 t172 H fun t' => k' t' H) fun t173 H =>
   p.guard t168 true H (fun k' => p.bin .eql t171 t173 fun t' => k' t' H) fun t174 H =>
   p.pick t168 t174 (.sc (.bool false)) fun t175 =>
   p.guard t175 true H (fun k' => p.fadr 13 t2 fun t' => k' t' H) fun t177 H =>
   p.guard t175 true H (fun k' => p.load false 1 t177 H fun t' => k' t' H) fun t178 H =>
   p.guard t175 true H (fun k' => p.fadr 13 t3 fun t' => k' t' H) fun t179 H =>
   p.guard t175 true H (fun k' => p.load false 1 t179 H fun t' => k' t' H) fun t180 H =>
   p.guard t175 true H (fun k' => p.call 4 (.fn 93 [] []) [t178, t180] H fun t' H => k' t' H) fun t181 H =>
   p.pick t175 t181 (.sc (.bool false)) fun t182 =>
   p.guard t182 true H (fun k' => p.fadr 14 t2 fun t' => k' t' H) fun t184 H =>
   p.guard t182 true H (fun k' => p.load false 1 t184 H fun t' => k' t' H) fun t185 H =>
   p.guard t182 true H (fun k' => p.fadr 14 t3 fun t' => k' t' H) fun t186 H =>
   p.guard t182 true H (fun k' => p.load false 1 t186 H fun t' => k' t' H) fun t187 H =>
   p.guard t182 true H (fun k' => p.bin .eql t185 t187 fun t' => k' t' H) fun t188 H =>
   p.pick t182 t188 (.sc (.bool false)) fun t189 =>
   p.guard t189 true H (fun k' => p.fadr 15 t2 fun t' => k' t' H) fun t191 H =>
   p.guard t189 true H (fun k' => p.load false 1 t191 H fun t' => k' t' H) fun t192 H =>
   p.guard t189 true H (fun k' => p.fadr 15 t3 fun t' => k' t' H) fun t193 H =>
   p.guard t189 true H (fun k' => p.load false 1 t193 H fun t' => k' t' H) fun t194 H =>
   p.guard t189 true H (fun k' => p.binB .eql t192 t194 fun t' => k' t' H) fun t195 H =>
   p.pick t189 t195 (.sc (.bool false)) fun t196 =>
   p.guard t196 true H (fun k' => p.fadr 16 t2 fun t' => k' t' H) fun t198 H =>
   p.guard t196 true H (fun k' => p.load false 1 t198 H fun t' => k' t' H) fun t199 H =>
   p.guard t196 true H (fun k' => p.fadr 16 t3 fun t' => k' t' H) fun t200 H =>
   p.guard t196 true H (fun k' => p.load false 1 t200 H fun t' => k' t' H) fun t201 H =>
   p.guard t196 true H (fun k' => p.binB .eql t199 t201 fun t' => k' t' H) fun t202 H =>
   p.pick t196 t202 (.sc (.bool false)) fun t203 =>
   p.guard t203 true H (fun k' => p.fadr 17 t2 fun t' => k' t' H) fun t205 H =>
   p.guard t203 true H (fun k' => p.load false 1 t205 H fun t' => k' t' H) fun t206 H =>
   p.guard t203 true H (fun k' => p.fadr 17 t3 fun t' => k' t' H) fun t207 H =>
   p.guard t203 true H (fun k' => p.load false 1 t207 H fun t' => k' t' H) fun t208 H =>
   p.guard t203 true H (fun k' => p.bin .eql t206 t208 fun t' => k' t' H) fun t209 H =>
   p.pick t203 t209 (.sc (.bool false)) fun t210 =>
   p.guard t210 true H (fun k' => p.fadr 18 t2 fun t' => k' t' H) fun t212 H =>
   p.guard t210 true H (fun k' => p.load false 1 t212 H fun t' => k' t' H) fun t213 H =>
   p.guard t210 true H (fun k' => p.fadr 18 t3 fun t' => k' t' H) fun t214 H =>
   p.guard t210 true H (fun k' => p.load false 1 t214 H fun t' => k' t' H) fun t215 H =>
   p.guard t210 true H (fun k' => p.binB .eql t213 t215 fun t' => k' t' H) fun t216 H =>
   p.pick t210 t216 (.sc (.bool false)) fun t217 =>
   p.guard t217 true H (fun k' => p.fadr 19 t2 fun t' => k' t' H) fun t219 H =>
   p.guard t217 true H (fun k' => p.load false 1 t219 H fun t' => k' t' H) fun t220 H =>
   p.guard t217 true H (fun k' => p.fadr 19 t3 fun t' => k' t' H) fun t221 H =>
   p.guard t217 true H (fun k' => p.load false 1 t221 H fun t' => k' t' H) fun t222 H =>
   p.guard t217 true H (fun k' => p.call 4 (.fn 93 [] []) [t220, t222] H fun t' H => k' t' H) fun t223 H =>
   p.pick t217 t223 (.sc (.bool false)) fun t224 =>
   p.guard t224 true H (fun k' => p.fadr 20 t2 fun t' => k' t' H) fun t226 H =>
   p.guard t224 true H (fun k' => p.load false 1 t226 H fun t' => k' t' H) fun t227 H =>
   p.guard t224 true H (fun k' => p.fadr 20 t3 fun t' => k' t' H) fun t228 H =>
   p.guard t224 true H (fun k' => p.load false 1 t228 H fun t' => k' t' H) fun t229 H =>
   p.guard t224 true H (fun k' => p.bin .eql t227 t229 fun t' => k' t' H) fun t230 H =>
   p.pick t224 t230 (.sc (.bool false)) fun t231 =>
   p.guard t231 true H (fun k' => p.fadr 21 t2 fun t' => k' t' H) fun t233 H =>
   p.guard t231 true H (fun k' => p.load false 1 t233 H fun t' => k' t' H) fun t234 H =>
   p.guard t231 true H (fun k' => p.fadr 21 t3 fun t' => k' t' H) fun t235 H =>
   p.guard t231 true H (fun k' => p.load false 1 t235 H fun t' => k' t' H) fun t236 H =>
   p.guard t231 true H (fun k' => p.binB .eql t234 t236 fun t' => k' t' H) fun t237 H =>
   p.pick t231 t237 (.sc (.bool false)) fun t238 =>
   k t238 H)
noncomputable def f78_l1 (p : Pr β) (n : Nat)  (k : AV → Heap → Option β) : Nat → AV → AV → AV → Heap → Option β
 | 0, _, _, _, _ => none
 | m + 1, t2, t3, t6, H => p.fadr 23 t2 fun t52 =>
   p.load false 1 t52 H fun t53 =>
   p.len t53 fun t54 =>
   p.bin .lss t6 t54 fun t55 =>
   p.cond t55
   (p.fadr 23 t2 fun t58 =>
   p.load false 1 t58 H fun t59 =>
   p.iadr 1 t59 t6 fun t61 =>
   p.load false 1 t61 H fun t62 =>
   p.fadr 23 t3 fun t63 =>
   p.load false 1 t63 H fun t64 =>
   p.iadr 1 t64 t6 fun t66 =>
   p.load false 1 t66 H fun t67 =>
   p.bin .neq t62 t67 fun t68 =>
   p.cond t68
   (k (.sc (.bool false)) H)
   (p.bin .add t6 (.sc (.int .i64 1)) fun t57 =>
   f78_l1 p n  k m t2 t3 t57 H))
   (f78_l2 p n  k n t2 t3 (.sc (.int .i64 0)) H)
noncomputable def f78_l0 (p : Pr β) (n : Nat)  (k : AV → Heap → Option β) : Nat → AV → AV → AV → Heap → Option β
 | 0, _, _, _, _ => none
 | m + 1, t2, t3, t5, H => p.fadr 22 t2 fun t34 =>
   p.load false 1 t34 H fun t35 =>
   p.len t35 fun t36 =>
   p.bin .lss t5 t36 fun t37 =>
   p.cond t37
   (p.fadr 22 t2 fun t40 =>
   p.load false 1 t40 H fun t41 =>
   p.iadr 2 t41 t5 fun t43 =>
   p.load true 2 t43 H fun t44 =>
   p.fadr 22 t3 fun t45 =>
   p.load false 1 t45 H fun t46 =>
   p.iadr 2 t46 t5 fun t48 =>
   p.load true 2 t48 H fun t49 =>
   p.binA .neq [1, 0] t44 t49 fun t50 =>
   p.cond t50
   (k (.sc (.bool false)) H)
   (p.bin .add t5 (.sc (.int .i64 1)) fun t39 =>
   f78_l0 p n  k m t2 t3 t39 H))
   (f78_l1 p n  k n t2 t3 (.sc (.int .i64 0)) H)
noncomputable def f78 (p : Pr β) (n : Nat) (a0 a1 : AV) (H : Heap) (k : AV → Heap → Option β) : Option β :=
 p.box a0 H fun t2 H =>
 p.box a1 H fun t3 H =>
 p.fadr 22 t2 fun t8 =>
 p.load false 1 t8 H fun t9 =>
 p.len t9 fun t10 =>
 p.fadr 22 t3 fun t11 =>
 p.load false 1 t11 H fun t12 =>
 p.len t12 fun t13 =>
 p.bin .neq t10 t13 fun t14 =>
 p.guard t14 false H (fun k' => p.fadr 23 t2 fun t' => k' t' H) fun t16 H =>
 p.guard t14 false H (fun k' => p.load false 1 t16 H fun t' => k' t' H) fun t17 H =>
 p.guard t14 false H (fun k' => p.len t17 fun t' => k' t' H) fun t18 H =>
 p.guard t14 false H (fun k' => p.fadr 23 t3 fun t' => k' t' H) fun t19 H =>
 p.guard t14 false H (fun k' => p.load false 1 t19 H fun t' => k' t' H) fun t20 H =>
 p.guard t14 false H (fun k' => p.len t20 fun t' => k' t' H) fun t21 H =>
 p.guard t14 false H (fun k' => p.bin .neq t18 t21 fun t' => k' t' H) fun t22 H =>
 p.pick t14 (.sc (.bool true)) t22 fun t23 =>
 p.guard t23 false H (fun k' => p.fadr 24 t2 fun t' => k' t' H) fun t25 H =>
 p.guard t23 false H (fun k' => p.load false 1 t25 H fun t' => k' t' H) fun t26 H =>
 p.guard t23 false H (fun k' => p.len t26 fun t' => k' t' H) fun t27 H =>
 p.guard t23 false H (fun k' => p.fadr 24 t3 fun t' => k' t' H) fun t28 H =>
 p.guard t23 false H (fun k' => p.load false 1 t28 H fun t' => k' t' H) fun t29 H =>
 p.guard t23 false H (fun k' => p.len t29 fun t' => k' t' H) fun t30 H =>
 p.guard t23 false H (fun k' => p.bin .neq t27 t30 fun t' => k' t' H) fun t31 H =>
 p.pick t23 (.sc (.bool true)) t31 fun t32 =>
 p.cond t32
 (k (.sc (.bool false)) H)
 (f78_l0 p n  k n t2 t3 (.sc (.int .i64 0)) H)
noncomputable def f78_L2 (p : Pr β) (n : Nat)  (k : AV → Heap → Option β) (m : Nat) (tm : Tm) (H : Heap) : Option β :=
 iterC 239 (fun tm H k => evalCode ti0 p o78 239 n (cd c78 [1, 1, 1, 1, 0, 1, 0, 0]) tm H k) (blkK 4 (seqK (fun tm H => evalCode ti0 p o78 239 n (cd c78 [1, 1, 1, 1, 1]) tm H (endK ti0 p Go.Proofs.Tryd.f78.results.toList k)) (endK ti0 p Go.Proofs.Tryd.f78.results.toList k))) m tm H
noncomputable def f78_L1 (p : Pr β) (n : Nat)  (k : AV → Heap → Option β) (m : Nat) (tm : Tm) (H : Heap) : Option β :=
 iterC 239 (fun tm H k => evalCode ti0 p o78 239 n (cd c78 [1, 1, 1, 0, 1, 0, 0]) tm H k) (blkK 2 (seqK (fun tm H => evalCode ti0 p o78 239 n (cd c78 [1, 1, 1, 1]) tm H (endK ti0 p Go.Proofs.Tryd.f78.results.toList k)) (endK ti0 p Go.Proofs.Tryd.f78.results.toList k))) m tm H
noncomputable def f78_L0 (p : Pr β) (n : Nat)  (k : AV → Heap → Option β) (m : Nat) (tm : Tm) (H : Heap) : Option β :=
 iterC 239 (fun tm H k => evalCode ti0 p o78 239 n (cd c78 [1, 1, 0, 1, 0, 0]) tm H k) (blkK 0 (seqK (fun tm H => evalCode ti0 p o78 239 n (cd c78 [1, 1, 1]) tm H (endK ti0 p Go.Proofs.Tryd.f78.results.toList k)) (endK ti0 p Go.Proofs.Tryd.f78.results.toList k))) m tm H
theorem f78_L2_step (p : Pr β) (n : Nat)  (k : AV → Heap → Option β) (m2 : Nat) (t : Nat → AV) (H : Heap) : f78_L2 p n  k (m2 + 1) (tf 239 0 t) H =
 p.fadr 24 (t 2) fun t70 =>
 p.load false 1 t70 H fun t71 =>
 p.len t71 fun t72 =>
 p.bin .lss (t 7) t72 fun t73 =>
 p.cond t73
 (p.fadr 24 (t 2) fun t76 =>
 p.load false 1 t76 H fun t77 =>
 p.iadr 1 t77 (t 7) fun t79 =>
 p.load false 1 t79 H fun t80 =>
 p.fadr 24 (t 3) fun t81 =>
 p.load false 1 t81 H fun t82 =>
 p.iadr 1 t82 (t 7) fun t84 =>
 p.load false 1 t84 H fun t85 =>
 p.bin .neq t80 t85 fun t86 =>
 p.cond t86
 (k (.sc (.bool false)) H)
 (p.bin .add (t 7) (.sc (.int .i64 1)) fun t75 =>
 f78_L2 p n  k m2 (tf 239 0 (ud [(7, t75), (69, (t 7)), (70, t70), (71, t71), (72, t72), (73, t73), (74, (t 7)), (75, t75), (76, t76), (77, t77), (78, (t 7)), (79, t79), (80, t80), (81, t81), (82, t82), (83, (t 7)), (84, t84), (85, t85), (86, t86)] t)) H))
 (p.fadr 0 (t 2) fun t87 =>
 p.load false 1 t87 H fun t88 =>
 p.fadr 0 (t 3) fun t89 =>
 p.load false 1 t89 H fun t90 =>
 p.bin .eql t88 t90 fun t91 =>
 p.guard t91 true H (fun k' => p.fadr 1 (t 2) fun t' => k' t' H) fun t93 H =>
 p.guard t91 true H (fun k' => p.load false 1 t93 H fun t' => k' t' H) fun t94 H =>
 p.guard t91 true H (fun k' => p.fadr 1 (t 3) fun t' => k' t' H) fun t95 H =>
 p.guard t91 true H (fun k' => p.load false 1 t95 H fun t' => k' t' H) fun t96 H =>
 p.guard t91 true H (fun k' => p.binB .eql t94 t96 fun t' => k' t' H) fun t97 H =>
 p.pick t91 t97 (.sc (.bool false)) fun t98 =>
 p.guard t98 true H (fun k' => p.fadr 2 (t 2) fun t' => k' t' H) fun t100 H =>
 p.guard t98 true H (fun k' => p.load false 1 t100 H fun t' => k' t' H) fun t101 H =>
 p.guard t98 true H (fun k' => p.fadr 2 (t 3) fun t' => k' t' H) fun t102 H =>
 p.guard t98 true H (fun k' => p.load false 1 t102 H fun t' => k' t' H) fun t103 H =>
 p.guard t98 true H (fun k' => p.bin .eql t101 t103 fun t' => k' t' H) fun t104 H =>
 p.pick t98 t104 (.sc (.bool false)) fun t105 =>
 p.guard t105 true H (fun k' => p.fadr 3 (t 2) fun t' => k' t' H) fun t107 H =>
 p.guard t105 true H (fun k' => p.load false 1 t107 H fun t' => k' t' H) fun t108 H =>
 p.guard t105 true H (fun k' => p.fadr 3 (t 3) fun t' => k' t' H) fun t109 H =>
 p.guard t105 true H (fun k' => p.load false 1 t109 H fun t' => k' t' H) fun t110 H =>
 p.guard t105 true H (fun k' => p.binB .eql t108 t110 fun t' => k' t' H) fun t111 H =>
 p.pick t105 t111 (.sc (.bool false)) fun t112 =>
 p.guard t112 true H (fun k' => p.fadr 4 (t 2) fun t' => k' t' H) fun t114 H =>
 p.guard t112 true H (fun k' => p.load false 1 t114 H fun t' => k' t' H) fun t115 H =>
 p.guard t112 true H (fun k' => p.fadr 4 (t 3) fun t' => k' t' H) fun t116 H =>
 p.guard t112 true H (fun k' => p.load false 1 t116 H fun t' => k' t' H) fun t117 H =>
 p.guard t112 true H (fun k' => p.bin .eql t115 t117 fun t' => k' t' H) fun t118 H =>
 p.pick t112 t118 (.sc (.bool false)) fun t119 =>
 p.guard t119 true H (fun k' => p.fadr 5 (t 2) fun t' => k' t' H) fun t121 H =>
 p.guard t119 true H (fun k' => p.load false 1 t121 H fun t' => k' t' H) fun t122 H =>
 p.guard t119 true H (fun k' => p.fadr 5 (t 3) fun t' => k' t' H) fun t123 H =>
 p.guard t119 true H (fun k' => p.load false 1 t123 H fun t' => k' t' H) fun t124 H =>
 p.guard t119 true H (fun k' => p.bin .eql t122 t124 fun t' => k' t' H) fun t125 H =>
 p.pick t119 t125 (.sc (.bool false)) fun t126 =>
 p.guard t126 true H (fun k' => p.fadr 6 (t 2) fun t' => k' t' H) fun t128 H =>
 p.guard t126 true H (fun k' => p.load false 1 t128 H fun t' => k' t' H) fun t129 H =>
 p.guard t126 true H (fun k' => p.fadr 6 (t 3) fun t' => k' t' H) fun t130 H =>
 p.guard t126 true H (fun k' => p.load false 1 t130 H fun t' => k' t' H) fun t131 H =>
 p.guard t126 true H (fun k' => p.call 4 (.fn 93 [] []) [t129, t131] H fun t' H => k' t' H) fun t132 H =>
 p.pick t126 t132 (.sc (.bool false)) fun t133 =>
 p.guard t133 true H (fun k' => p.fadr 7 (t 2) fun t' => k' t' H) fun t135 H =>
 p.guard t133 true H (fun k' => p.load false 1 t135 H fun t' => k' t' H) fun t136 H =>
 p.guard t133 true H (fun k' => p.fadr 7 (t 3) fun t' => k' t' H) fun t137 H =>
 p.guard t133 true H (fun k' => p.load false 1 t137 H fun t' => k' t' H) fun t138 H =>
 p.guard t133 true H (fun k' => p.bin .eql t136 t138 fun t' => k' t' H) fun t139 H =>
 p.pick t133 t139 (.sc (.bool false)) fun t140 =>
 p.guard t140 true H (fun k' => p.fadr 8 (t 2) fun t' => k' t' H) fun t142 H =>
 p.guard t140 true H (fun k' => p.load false 1 t142 H fun t' => k' t' H) fun t143 H =>
 p.guard t140 true H (fun k' => p.fadr 8 (t 3) fun t' => k' t' H) fun t144 H =>
 p.guard t140 true H (fun k' => p.load false 1 t144 H fun t' => k' t' H) fun t145 H =>
 p.guard t140 true H (fun k' => p.bin .eql t143 t145 fun t' => k' t' H) fun t146 H =>
 p.pick t140 t146 (.sc (.bool false)) fun t147 =>
 p.guard t147 true H (fun k' => p.fadr 9 (t 2) fun t' => k' t' H) fun t149 H =>
 p.guard t147 true H (fun k' => p.load false 1 t149 H fun t' => k' t' H) fun t150 H =>
 p.guard t147 true H (fun k' => p.fadr 9 (t 3) fun t' => k' t' H) fun t151 H =>
 p.guard t147 true H (fun k' => p.load false 1 t151 H fun t' => k' t' H) fun t152 H =>
 p.guard t147 true H (fun k' => p.binB .eql t150 t152 fun t' => k' t' H) fun t153 H =>
 p.pick t147 t153 (.sc (.bool false)) fun t154 =>
 p.guard t154 true H (fun k' => p.fadr 10 (t 2) fun t' => k' t' H) fun t156 H =>
 p.guard t154 true H (fun k' => p.load false 1 t156 H fun t' => k' t' H) fun t157 H =>
 p.guard t154 true H (fun k' => p.fadr 10 (t 3) fun t' => k' t' H) fun t158 H =>
 p.guard t154 true H (fun k' => p.load false 1 t158 H fun t' => k' t' H) fun t159 H =>
 p.guard t154 true H (fun k' => p.bin .eql t157 t159 fun t' => k' t' H) fun t160 H =>
 p.pick t154 t160 (.sc (.bool false)) fun t161 =>
 p.guard t161 true H (fun k' => p.fadr 11 (t 2) fun t' => k' t' H) fun t163 H =>
 p.guard t161 true H (fun k' => p.load false 1 t163 H fun t' => k' t' H) fun t164 H =>
 p.guard t161 true H (fun k' => p.fadr 11 (t 3) fun t' => k' t' H) fun t165 H =>
 p.guard t161 true H (fun k' => p.load false 1 t165 H fun t' => k' t' H) fun t166 H =>
 p.guard t161 true H (fun k' => p.binB .eql t164 t166 fun t' => k' t' H) fun t167 H =>
 p.pick t161 t167 (.sc (.bool false)) fun t168 =>
 p.guard t168 true H (fun k' => p.fadr 12 (t 2) fun t' => k' t' H) fun t170 H =>
 p.guard t168 true H (fun k' => p.load false 1 t170 H fun t' => k' t' H) fun t171 H =>
 p.guard t168 true H (fun k' => p.fadr 12 (t 3) fun t' => k' t' H) fun t172 H =>
 p.guard t168 true H (fun k' => p.load false 1 t172 H fun t' => k' t' H) fun t173 H =>
 p.guard t168 true H (fun k' => p.bin .eql t171 t173 fun t' => k' t' H) fun t174 H =>
 p.pick t168 t174 (.sc (.bool false)) fun t175 =>
 p.guard t175 true H (fun k' => p.fadr 13 (t 2) fun t' => k' t' H) fun t177 H =>
 p.guard t175 true H (fun k' => p.load false 1 t177 H fun t' => k' t' H) fun t178 H =>
 p.guard t175 true H (fun k' => p.fadr 13 (t 3) fun t' => k' t' H) fun t179 H =>
 p.guard t175 true H (fun k' => p.load false 1 t179 H fun t' => k' t' H) fun t180 H =>
 p.guard t175 true H (fun k' => p.call 4 (.fn 93 [] []) [t178, t180] H fun t' H => k' t' H) fun t181 H =>
 p.pick t175 t181 (.sc (.bool false)) fun t182 =>
 p.guard t182 true H (fun k' => p.fadr 14 (t 2) fun t' => k' t' H) fun t184 H =>
 p.guard t182 true H (fun k' => p.load false 1 t184 H fun t' => k' t' H) fun t185 H =>
 p.guard t182 true H (fun k' => p.fadr 14 (t 3) fun t' => k' t' H) fun t186 H =>
 p.guard t182 true H (fun k' => p.load false 1 t186 H fun t' => k' t' H) fun t187 H =>
 p.guard t182 true H (fun k' => p.bin .eql t185 t187 fun t' => k' t' H) fun t188 H =>
 p.pick t182 t188 (.sc (.bool false)) fun t189 =>
 p.guard t189 true H (fun k' => p.fadr 15 (t 2) fun t' => k' t' H) fun t191 H =>
 p.guard t189 true H (fun k' => p.load false 1 t191 H fun t' => k' t' H) fun t192 H =>
 p.guard t189 true H (fun k' => p.fadr 15 (t 3) fun t' => k' t' H) fun t193 H =>
 p.guard t189 true H (fun k' => p.load false 1 t193 H fun t' => k' t' H) fun t194 H =>
 p.guard t189 true H (fun k' => p.binB .eql t192 t194 fun t' => k' t' H) fun t195 H =>
 p.pick t189 t195 (.sc (.bool false)) fun t196 =>
 p.guard t196 true H (fun k' => p.fadr 16 (t 2) fun t' => k' t' H) fun t198 H =>
 p.guard t196 true H (fun k' => p.load false 1 t198 H fun t' => k' t' H) fun t199 H =>
 p.guard t196 true H (fun k' => p.fadr 16 (t 3) fun t' => k' t' H) fun t200 H =>
 p.guard t196 true H (fun k' => p.load false 1 t200 H fun t' => k' t' H) fun t201 H =>
 p.guard t196 true H (fun k' => p.binB .eql t199 t201 fun t' => k' t' H) fun t202 H =>
 p.pick t196 t202 (.sc (.bool false)) fun t203 =>
 p.guard t203 true H (fun k' => p.fadr 17 (t 2) fun t' => k' t' H) fun t205 H =>
 p.guard t203 true H (fun k' => p.load false 1 t205 H fun t' => k' t' H) fun t206 H =>
 p.guard t203 true H (fun k' => p.fadr 17 (t 3) fun t' => k' t' H) fun t207 H =>
 p.guard t203 true H (fun k' => p.load false 1 t207 H fun t' => k' t' H) fun t208 H =>
 p.guard t203 true H (fun k' => p.bin .eql t206 t208 fun t' => k' t' H) fun t209 H =>
 p.pick t203 t209 (.sc (.bool false)) fun t210 =>
 p.guard t210 true H (fun k' => p.fadr 18 (t 2) fun t' => k' t' H) fun t212 H =>
 p.guard t210 true H (fun k' => p.load false 1 t212 H fun t' => k' t' H) fun t213 H =>
 p.guard t210 true H (fun k' => p.fadr 18 (t 3) fun t' => k' t' H) fun t214 H =>
 p.guard t210 true H (fun k' => p.load false 1 t214 H fun t' => k' t' H) fun t215 H =>
 p.guard t210 true H (fun k' => p.binB .eql t213 t215 fun t' => k' t' H) fun t216 H =>
 p.pick t210 t216 (.sc (.bool false)) fun t217 =>
 p.guard t217 true H (fun k' => p.fadr 19 (t 2) fun t' => k' t' H) fun t219 H =>
 p.guard t217 true H (fun k' => p.load false 1 t219 H fun t' => k' t' H) fun t220 H =>
 p.guard t217 true H (fun k' => p.fadr 19 (t 3) fun t' => k' t' H) fun t221 H =>
 p.guard t217 true H (fun k' => p.load false 1 t221 H fun t' => k' t' H) fun t222 H =>
 p.guard t217 true H (fun k' => p.call 4 (.fn 93 [] []) [t220, t222] H fun t' H => k' t' H) fun t223 H =>
 p.pick t217 t223 (.sc (.bool false)) fun t224 =>
 p.guard t224 true H (fun k' => p.fadr 20 (t 2) fun t' => k' t' H) fun t226 H =>
 p.guard t224 true H (fun k' => p.load false 1 t226 H fun t' => k' t' H) fun t227 H =>
 p.guard t224 true H (fun k' => p.fadr 20 (t 3) fun t' => k' t' H) fun t228 H =>
 p.guard t224 true H (fun k' => p.load false 1 t228 H fun t' => k' t' H) fun t229 H =>
 p.guard t224 true H (fun k' => p.bin .eql t227 t229 fun t' => k' t' H) fun t230 H =>
 p.pick t224 t230 (.sc (.bool false)) fun t231 =>
 p.guard t231 true H (fun k' => p.fadr 21 (t 2) fun t' => k' t' H) fun t233 H =>
 p.guard t231 true H (fun k' => p.load false 1 t233 H fun t' => k' t' H) fun t234 H =>
 p.guard t231 true H (fun k' => p.fadr 21 (t 3) fun t' => k' t' H) fun t235 H =>
 p.guard t231 true H (fun k' => p.load false 1 t235 H fun t' => k' t' H) fun t236 H =>
 p.guard t231 true H (fun k' => p.binB .eql t234 t236 fun t' => k' t' H) fun t237 H =>
 p.pick t231 t237 (.sc (.bool false)) fun t238 =>
 k t238 H) := by kernel_rfl
theorem f78_l2_eq (p : Pr β) (n : Nat)  (k : AV → Heap → Option β)   (m2 : Nat) : ∀ (t : Nat → AV) (H : Heap), f78_L2 p n  k m2 (tf 239 0 t) H = f78_l2 p n  k m2 (t 2) (t 3) (t 7) H := by
 induction m2 with
 | zero => intros; rfl
 | succ m2 ih =>
  intro t H
  rw [f78_L2_step]
  simp only [ih]
  kernel_rfl
theorem f78_L1_step (p : Pr β) (n : Nat)  (k : AV → Heap → Option β) (m1 : Nat) (t : Nat → AV) (H : Heap) : f78_L1 p n  k (m1 + 1) (tf 239 0 t) H =
 p.fadr 23 (t 2) fun t52 =>
 p.load false 1 t52 H fun t53 =>
 p.len t53 fun t54 =>
 p.bin .lss (t 6) t54 fun t55 =>
 p.cond t55
 (p.fadr 23 (t 2) fun t58 =>
 p.load false 1 t58 H fun t59 =>
 p.iadr 1 t59 (t 6) fun t61 =>
 p.load false 1 t61 H fun t62 =>
 p.fadr 23 (t 3) fun t63 =>
 p.load false 1 t63 H fun t64 =>
 p.iadr 1 t64 (t 6) fun t66 =>
 p.load false 1 t66 H fun t67 =>
 p.bin .neq t62 t67 fun t68 =>
 p.cond t68
 (k (.sc (.bool false)) H)
 (p.bin .add (t 6) (.sc (.int .i64 1)) fun t57 =>
 f78_L1 p n  k m1 (tf 239 0 (ud [(6, t57), (51, (t 6)), (52, t52), (53, t53), (54, t54), (55, t55), (56, (t 6)), (57, t57), (58, t58), (59, t59), (60, (t 6)), (61, t61), (62, t62), (63, t63), (64, t64), (65, (t 6)), (66, t66), (67, t67), (68, t68)] t)) H))
 (f78_L2 p n  k n (tf 239 0 (ud [(7, (.sc (.int .i64 0))), (51, (t 6)), (52, t52), (53, t53), (54, t54), (55, t55)] t)) H) := by kernel_rfl
theorem f78_l1_eq (p : Pr β) (n : Nat)  (k : AV → Heap → Option β)   (m1 : Nat) : ∀ (t : Nat → AV) (H : Heap), f78_L1 p n  k m1 (tf 239 0 t) H = f78_l1 p n  k m1 (t 2) (t 3) (t 6) H := by
 induction m1 with
 | zero => intros; rfl
 | succ m1 ih =>
  intro t H
  rw [f78_L1_step]
  simp only [ih, f78_l2_eq p n  k  ]
  kernel_rfl
theorem f78_L0_step (p : Pr β) (n : Nat)  (k : AV → Heap → Option β) (m0 : Nat) (t : Nat → AV) (H : Heap) : f78_L0 p n  k (m0 + 1) (tf 239 0 t) H =
 p.fadr 22 (t 2) fun t34 =>
 p.load false 1 t34 H fun t35 =>
 p.len t35 fun t36 =>
 p.bin .lss (t 5) t36 fun t37 =>
 p.cond t37
 (p.fadr 22 (t 2) fun t40 =>
 p.load false 1 t40 H fun t41 =>
 p.iadr 2 t41 (t 5) fun t43 =>
 p.load true 2 t43 H fun t44 =>
 p.fadr 22 (t 3) fun t45 =>
 p.load false 1 t45 H fun t46 =>
 p.iadr 2 t46 (t 5) fun t48 =>
 p.load true 2 t48 H fun t49 =>
 p.binA .neq [1, 0] t44 t49 fun t50 =>
 p.cond t50
 (k (.sc (.bool false)) H)
 (p.bin .add (t 5) (.sc (.int .i64 1)) fun t39 =>
 f78_L0 p n  k m0 (tf 239 0 (ud [(5, t39), (33, (t 5)), (34, t34), (35, t35), (36, t36), (37, t37), (38, (t 5)), (39, t39), (40, t40), (41, t41), (42, (t 5)), (43, t43), (44, t44), (45, t45), (46, t46), (47, (t 5)), (48, t48), (49, t49), (50, t50)] t)) H))
 (f78_L1 p n  k n (tf 239 0 (ud [(6, (.sc (.int .i64 0))), (33, (t 5)), (34, t34), (35, t35), (36, t36), (37, t37)] t)) H) := by kernel_rfl
theorem f78_l0_eq (p : Pr β) (n : Nat)  (k : AV → Heap → Option β)   (m0 : Nat) : ∀ (t : Nat → AV) (H : Heap), f78_L0 p n  k m0 (tf 239 0 t) H = f78_l0 p n  k m0 (t 2) (t 3) (t 5) H := by
 induction m0 with
 | zero => intros; rfl
 | succ m0 ih =>
  intro t H
  rw [f78_L0_step]
  simp only [ih, f78_l2_eq p n  k  , f78_l1_eq p n  k  ]
  kernel_rfl
theorem f78_raw (p : Pr β) (n : Nat) (a0 a1 : AV) (H : Heap) (k : AV → Heap → Option β) : evalBody ti0 p n ⟨c78, 239, Go.Proofs.Tryd.f78.results.toList, o78⟩ [a0, a1] H k =
 p.box a0 H fun t2 H =>
 p.box a1 H fun t3 H =>
 p.fadr 22 t2 fun t8 =>
 p.load false 1 t8 H fun t9 =>
 p.len t9 fun t10 =>
 p.fadr 22 t3 fun t11 =>
 p.load false 1 t11 H fun t12 =>
 p.len t12 fun t13 =>
 p.bin .neq t10 t13 fun t14 =>
 p.guard t14 false H (fun k' => p.fadr 23 t2 fun t' => k' t' H) fun t16 H =>
 p.guard t14 false H (fun k' => p.load false 1 t16 H fun t' => k' t' H) fun t17 H =>
 p.guard t14 false H (fun k' => p.len t17 fun t' => k' t' H) fun t18 H =>
 p.guard t14 false H (fun k' => p.fadr 23 t3 fun t' => k' t' H) fun t19 H =>
 p.guard t14 false H (fun k' => p.load false 1 t19 H fun t' => k' t' H) fun t20 H =>
 p.guard t14 false H (fun k' => p.len t20 fun t' => k' t' H) fun t21 H =>
 p.guard t14 false H (fun k' => p.bin .neq t18 t21 fun t' => k' t' H) fun t22 H =>
 p.pick t14 (.sc (.bool true)) t22 fun t23 =>
 p.guard t23 false H (fun k' => p.fadr 24 t2 fun t' => k' t' H) fun t25 H =>
 p.guard t23 false H (fun k' => p.load false 1 t25 H fun t' => k' t' H) fun t26 H =>
 p.guard t23 false H (fun k' => p.len t26 fun t' => k' t' H) fun t27 H =>
 p.guard t23 false H (fun k' => p.fadr 24 t3 fun t' => k' t' H) fun t28 H =>
 p.guard t23 false H (fun k' => p.load false 1 t28 H fun t' => k' t' H) fun t29 H =>
 p.guard t23 false H (fun k' => p.len t29 fun t' => k' t' H) fun t30 H =>
 p.guard t23 false H (fun k' => p.bin .neq t27 t30 fun t' => k' t' H) fun t31 H =>
 p.pick t23 (.sc (.bool true)) t31 fun t32 =>
 p.cond t32
 (k (.sc (.bool false)) H)
 (f78_L0 p n  k n (tf 239 0 (ud [(0, a0), (1, a1), (2, t2), (3, t3), (4, (.sc (.bool false))), (5, (.sc (.int .i64 0))), (8, t8), (9, t9), (10, t10), (11, t11), (12, t12), (13, t13), (14, t14), (15, t14), (16, t16), (17, t17), (18, t18), (19, t19), (20, t20), (21, t21), (22, t22), (23, t23), (24, t23), (25, t25), (26, t26), (27, t27), (28, t28), (29, t29), (30, t30), (31, t31), (32, t32)] ut)) H) := by kernel_rfl
theorem f78_body (p : Pr β) (n : Nat) (a0 a1 : AV) (H : Heap) (k : AV → Heap → Option β) : evalBody ti0 p n ⟨c78, 239, Go.Proofs.Tryd.f78.results.toList, o78⟩ [a0, a1] H k = f78 p n a0 a1 H k := by
 rw [f78_raw]
 simp only [f78_l2_eq, f78_l1_eq, f78_l0_eq]
 kernel_rfl
noncomputable def f105_l0 (p : Pr β) (n : Nat)  (k : AV → Heap → Option β) : Nat → AV → AV → AV → AV → AV → AV → Heap → Option β
 | 0, _, _, _, _, _, _, _ => none
 | m + 1, t0, t1, t8, t9, t10, t11, H => p.bin .leq t11 t8 fun t67 =>
   p.cond t67
   (p.bin .add t1 t11 fun t73 =>
   p.iadr 1 t0 t73 fun t74 =>
   p.load false 1 t74 H fun t75 =>
   p.cvI .i64 t75 fun t76 =>
   p.bin .lss t76 (.sc (.int .i64 128)) fun t78 =>
   p.guard t78 false H (fun k' => k' t76 H) fun t80 H =>
   p.guard t78 false H (fun k' => p.bin .gtr t80 (.sc (.int .i64 191)) fun t' => k' t' H) fun t81 H =>
   p.pick t78 (.sc (.bool true)) t81 fun t82 =>
   p.cond t82
   (k (packA [(.sc (.int .i64 0)), (.sc (.int .i64 0)), (.sc (.bool false))]) H)
   (p.bin .mul t10 (.sc (.int .i64 64)) fun t84 =>
   p.bin .add t84 t76 fun t86 =>
   p.bin .sub t86 (.sc (.int .i64 128)) fun t87 =>
   p.bin .add t11 (.sc (.int .i64 1)) fun t69 =>
   f105_l0 p n  k m t0 t1 t8 t9 t87 t69 H))
   (p.bin .lss t10 t9 fun t90 =>
   p.guard t90 false H (fun k' => k' t10 H) fun t92 H =>
   p.guard t90 false H (fun k' => p.bin .gtr t92 (.sc (.int .i64 1114111)) fun t' => k' t' H) fun t93 H =>
   p.pick t90 (.sc (.bool true)) t93 fun t94 =>
   p.guard t94 false H (fun k' => k' t10 H) fun t96 H =>
   p.guard t94 false H (fun k' => p.call 4 (.fn 53 [] []) [t96, (.sc (.int .i64 55296)), (.sc (.int .i64 57343))] H fun t' H => k' t' H) fun t97 H =>
   p.pick t94 (.sc (.bool true)) t97 fun t98 =>
   p.cond t98
   (k (packA [(.sc (.int .i64 0)), (.sc (.int .i64 0)), (.sc (.bool false))]) H)
   (p.bin .add t1 (.sc (.int .i64 1)) fun t101 =>
   p.bin .add t101 t8 fun t103 =>
   k (packA [t10, t103, (.sc (.bool true))]) H))
noncomputable def f105 (p : Pr β) (n : Nat) (a0 a1 : AV) (H : Heap) (k : AV → Heap → Option β) : Option β :=
 p.bin .lss a1 (.sc (.int .i64 0)) fun t14 =>
 p.guard t14 false H (fun k' => k' a1 H) fun t16 H =>
 p.guard t14 false H (fun k' => k' a0 H) fun t17 H =>
 p.guard t14 false H (fun k' => p.len t17 fun t' => k' t' H) fun t18 H =>
 p.guard t14 false H (fun k' => p.bin .geq t16 t18 fun t' => k' t' H) fun t19 H =>
 p.pick t14 (.sc (.bool true)) t19 fun t20 =>
 p.cond t20
 (k (packA [(.sc (.int .i64 0)), (.sc (.int .i64 0)), (.sc (.bool false))]) H)
 (p.iadr 1 a0 a1 fun t23 =>
 p.load false 1 t23 H fun t24 =>
 p.cvI .i64 t24 fun t25 =>
 p.bin .lss t25 (.sc (.int .i64 128)) fun t27 =>
 p.cond t27
 (p.bin .add a1 (.sc (.int .i64 1)) fun t30 =>
 k (packA [t25, t30, (.sc (.bool true))]) H)
 (p.bin .geq t25 (.sc (.int .i64 192)) fun t33 =>
 p.guard t33 true H (fun k' => k' t25 H) fun t35 H =>
 p.guard t33 true H (fun k' => p.bin .lss t35 (.sc (.int .i64 224)) fun t' => k' t' H) fun t36 H =>
 p.pick t33 t36 (.sc (.bool false)) fun t37 =>
 p.cond t37
 (p.bin .and t25 (.sc (.int .i64 31)) fun t39 =>
 p.len a0 fun t60 =>
 p.bin .sub t60 (.sc (.int .i64 1)) fun t61 =>
 p.bin .sub t61 (.sc (.int .i64 1)) fun t63 =>
 p.bin .gtr a1 t63 fun t64 =>
 p.cond t64
 (k (packA [(.sc (.int .i64 0)), (.sc (.int .i64 0)), (.sc (.bool false))]) H)
 (f105_l0 p n  k n a0 a1 (.sc (.int .i64 1)) (.sc (.int .i64 128)) t39 (.sc (.int .i64 1)) H))
 (p.bin .geq t25 (.sc (.int .i64 224)) fun t42 =>
 p.guard t42 true H (fun k' => k' t25 H) fun t44 H =>
 p.guard t42 true H (fun k' => p.bin .lss t44 (.sc (.int .i64 240)) fun t' => k' t' H) fun t45 H =>
 p.pick t42 t45 (.sc (.bool false)) fun t46 =>
 p.cond t46
 (p.bin .and t25 (.sc (.int .i64 15)) fun t48 =>
 p.len a0 fun t60 =>
 p.bin .sub t60 (.sc (.int .i64 1)) fun t61 =>
 p.bin .sub t61 (.sc (.int .i64 2)) fun t63 =>
 p.bin .gtr a1 t63 fun t64 =>
 p.cond t64
 (k (packA [(.sc (.int .i64 0)), (.sc (.int .i64 0)), (.sc (.bool false))]) H)
 (f105_l0 p n  k n a0 a1 (.sc (.int .i64 2)) (.sc (.int .i64 2048)) t48 (.sc (.int .i64 1)) H))
 (p.bin .geq t25 (.sc (.int .i64 240)) fun t51 =>
 p.guard t51 true H (fun k' => k' t25 H) fun t53 H =>
 p.guard t51 true H (fun k' => p.bin .lss t53 (.sc (.int .i64 248)) fun t' => k' t' H) fun t54 H =>
 p.pick t51 t54 (.sc (.bool false)) fun t55 =>
 p.cond t55
 (p.bin .and t25 (.sc (.int .i64 7)) fun t57 =>
 p.len a0 fun t60 =>
 p.bin .sub t60 (.sc (.int .i64 1)) fun t61 =>
 p.bin .sub t61 (.sc (.int .i64 3)) fun t63 =>
 p.bin .gtr a1 t63 fun t64 =>
 p.cond t64
 (k (packA [(.sc (.int .i64 0)), (.sc (.int .i64 0)), (.sc (.bool false))]) H)
 (f105_l0 p n  k n a0 a1 (.sc (.int .i64 3)) (.sc (.int .i64 65536)) t57 (.sc (.int .i64 1)) H))
 (k (packA [(.sc (.int .i64 0)), (.sc (.int .i64 0)), (.sc (.bool false))]) H)))))
noncomputable def f105_L0 (p : Pr β) (n : Nat)  (k : AV → Heap → Option β) (m : Nat) (tm : Tm) (H : Heap) : Option β :=
 iterC 104 (fun tm H k => evalCode ti0 p o105 104 n (cd c105 [1, 1, 1, 1, 1, 1, 1, 1, 1, 0, 1, 0, 0]) tm H k) (blkK 1 (seqK (fun tm H => evalCode ti0 p o105 104 n (cd c105 [1, 1, 1, 1, 1, 1, 1, 1, 1, 1]) tm H (endK ti0 p Go.Proofs.Tryd.f105.results.toList k)) (endK ti0 p Go.Proofs.Tryd.f105.results.toList k))) m tm H
theorem f105_L0_step (p : Pr β) (n : Nat)  (k : AV → Heap → Option β) (m0 : Nat) (t : Nat → AV) (H : Heap) : f105_L0 p n  k (m0 + 1) (tf 104 0 t) H =
 p.bin .leq (t 11) (t 8) fun t67 =>
 p.cond t67
 (p.bin .add (t 1) (t 11) fun t73 =>
 p.iadr 1 (t 0) t73 fun t74 =>
 p.load false 1 t74 H fun t75 =>
 p.cvI .i64 t75 fun t76 =>
 p.bin .lss t76 (.sc (.int .i64 128)) fun t78 =>
 p.guard t78 false H (fun k' => k' t76 H) fun t80 H =>
 p.guard t78 false H (fun k' => p.bin .gtr t80 (.sc (.int .i64 191)) fun t' => k' t' H) fun t81 H =>
 p.pick t78 (.sc (.bool true)) t81 fun t82 =>
 p.cond t82
 (k (packA [(.sc (.int .i64 0)), (.sc (.int .i64 0)), (.sc (.bool false))]) H)
 (p.bin .mul (t 10) (.sc (.int .i64 64)) fun t84 =>
 p.bin .add t84 t76 fun t86 =>
 p.bin .sub t86 (.sc (.int .i64 128)) fun t87 =>
 p.bin .add (t 11) (.sc (.int .i64 1)) fun t69 =>
 f105_L0 p n  k m0 (tf 104 0 (ud [(10, t87), (11, t69), (12, t76), (65, (t 11)), (66, (t 8)), (67, t67), (68, (t 11)), (69, t69), (70, (t 0)), (71, (t 1)), (72, (t 11)), (73, t73), (74, t74), (75, t75), (76, t76), (77, t76), (78, t78), (79, t78), (80, t80), (81, t81), (82, t82), (83, (t 10)), (84, t84), (85, t76), (86, t86), (87, t87)] t)) H))
 (p.bin .lss (t 10) (t 9) fun t90 =>
 p.guard t90 false H (fun k' => k' (t 10) H) fun t92 H =>
 p.guard t90 false H (fun k' => p.bin .gtr t92 (.sc (.int .i64 1114111)) fun t' => k' t' H) fun t93 H =>
 p.pick t90 (.sc (.bool true)) t93 fun t94 =>
 p.guard t94 false H (fun k' => k' (t 10) H) fun t96 H =>
 p.guard t94 false H (fun k' => p.call 4 (.fn 53 [] []) [t96, (.sc (.int .i64 55296)), (.sc (.int .i64 57343))] H fun t' H => k' t' H) fun t97 H =>
 p.pick t94 (.sc (.bool true)) t97 fun t98 =>
 p.cond t98
 (k (packA [(.sc (.int .i64 0)), (.sc (.int .i64 0)), (.sc (.bool false))]) H)
 (p.bin .add (t 1) (.sc (.int .i64 1)) fun t101 =>
 p.bin .add t101 (t 8) fun t103 =>
 k (packA [(t 10), t103, (.sc (.bool true))]) H)) := by kernel_rfl
theorem f105_l0_eq (p : Pr β) (n : Nat)  (k : AV → Heap → Option β)   (m0 : Nat) : ∀ (t : Nat → AV) (H : Heap), f105_L0 p n  k m0 (tf 104 0 t) H = f105_l0 p n  k m0 (t 0) (t 1) (t 8) (t 9) (t 10) (t 11) H := by
 induction m0 with
 | zero => intros; rfl
 | succ m0 ih =>
  intro t H
  rw [f105_L0_step]
  simp only [ih]
  kernel_rfl
theorem f105_raw (p : Pr β) (n : Nat) (a0 a1 : AV) (H : Heap) (k : AV → Heap → Option β) : evalBody ti0 p n ⟨c105, 104, Go.Proofs.Tryd.f105.results.toList, o105⟩ [a0, a1] H k =
 p.bin .lss a1 (.sc (.int .i64 0)) fun t14 =>
 p.guard t14 false H (fun k' => k' a1 H) fun t16 H =>
 p.guard t14 false H (fun k' => k' a0 H) fun t17 H =>
 p.guard t14 false H (fun k' => p.len t17 fun t' => k' t' H) fun t18 H =>
 p.guard t14 false H (fun k' => p.bin .geq t16 t18 fun t' => k' t' H) fun t19 H =>
 p.pick t14 (.sc (.bool true)) t19 fun t20 =>
 p.cond t20
 (k (packA [(.sc (.int .i64 0)), (.sc (.int .i64 0)), (.sc (.bool false))]) H)
 (p.iadr 1 a0 a1 fun t23 =>
 p.load false 1 t23 H fun t24 =>
 p.cvI .i64 t24 fun t25 =>
 p.bin .lss t25 (.sc (.int .i64 128)) fun t27 =>
 p.cond t27
 (p.bin .add a1 (.sc (.int .i64 1)) fun t30 =>
 k (packA [t25, t30, (.sc (.bool true))]) H)
 (p.bin .geq t25 (.sc (.int .i64 192)) fun t33 =>
 p.guard t33 true H (fun k' => k' t25 H) fun t35 H =>
 p.guard t33 true H (fun k' => p.bin .lss t35 (.sc (.int .i64 224)) fun t' => k' t' H) fun t36 H =>
 p.pick t33 t36 (.sc (.bool false)) fun t37 =>
 p.cond t37
 (p.bin .and t25 (.sc (.int .i64 31)) fun t39 =>
 p.len a0 fun t60 =>
 p.bin .sub t60 (.sc (.int .i64 1)) fun t61 =>
 p.bin .sub t61 (.sc (.int .i64 1)) fun t63 =>
 p.bin .gtr a1 t63 fun t64 =>
 p.cond t64
 (k (packA [(.sc (.int .i64 0)), (.sc (.int .i64 0)), (.sc (.bool false))]) H)
 (f105_L0 p n  k n (tf 104 0 (ud [(0, a0), (1, a1), (4, (.sc (.int .i64 0))), (5, (.sc (.int .i64 0))), (6, (.sc (.bool false))), (7, t25), (8, (.sc (.int .i64 1))), (9, (.sc (.int .i64 128))), (10, t39), (11, (.sc (.int .i64 1))), (13, a1), (14, t14), (15, t14), (16, t16), (17, t17), (18, t18), (19, t19), (20, t20), (21, a0), (22, a1), (23, t23), (24, t24), (25, t25), (26, t25), (27, t27), (31, t37), (32, t25), (33, t33), (34, t33), (35, t35), (36, t36), (37, t37), (38, t25), (39, t39), (58, a1), (59, a0), (60, t60), (61, t61), (62, (.sc (.int .i64 1))), (63, t63), (64, t64)] ut)) H))
 (p.bin .geq t25 (.sc (.int .i64 224)) fun t42 =>
 p.guard t42 true H (fun k' => k' t25 H) fun t44 H =>
 p.guard t42 true H (fun k' => p.bin .lss t44 (.sc (.int .i64 240)) fun t' => k' t' H) fun t45 H =>
 p.pick t42 t45 (.sc (.bool false)) fun t46 =>
 p.cond t46
 (p.bin .and t25 (.sc (.int .i64 15)) fun t48 =>
 p.len a0 fun t60 =>
 p.bin .sub t60 (.sc (.int .i64 1)) fun t61 =>
 p.bin .sub t61 (.sc (.int .i64 2)) fun t63 =>
 p.bin .gtr a1 t63 fun t64 =>
 p.cond t64
 (k (packA [(.sc (.int .i64 0)), (.sc (.int .i64 0)), (.sc (.bool false))]) H)
 (f105_L0 p n  k n (tf 104 0 (ud [(0, a0), (1, a1), (4, (.sc (.int .i64 0))), (5, (.sc (.int .i64 0))), (6, (.sc (.bool false))), (7, t25), (8, (.sc (.int .i64 2))), (9, (.sc (.int .i64 2048))), (10, t48), (11, (.sc (.int .i64 1))), (13, a1), (14, t14), (15, t14), (16, t16), (17, t17), (18, t18), (19, t19), (20, t20), (21, a0), (22, a1), (23, t23), (24, t24), (25, t25), (26, t25), (27, t27), (31, t37), (32, t25), (33, t33), (34, t33), (35, t35), (36, t36), (37, t37), (40, t46), (41, t25), (42, t42), (43, t42), (44, t44), (45, t45), (46, t46), (47, t25), (48, t48), (58, a1), (59, a0), (60, t60), (61, t61), (62, (.sc (.int .i64 2))), (63, t63), (64, t64)] ut)) H))
 (p.bin .geq t25 (.sc (.int .i64 240)) fun t51 =>
 p.guard t51 true H (fun k' => k' t25 H) fun t53 H =>
 p.guard t51 true H (fun k' => p.bin .lss t53 (.sc (.int .i64 248)) fun t' => k' t' H) fun t54 H =>
 p.pick t51 t54 (.sc (.bool false)) fun t55 =>
 p.cond t55
 (p.bin .and t25 (.sc (.int .i64 7)) fun t57 =>
 p.len a0 fun t60 =>
 p.bin .sub t60 (.sc (.int .i64 1)) fun t61 =>
 p.bin .sub t61 (.sc (.int .i64 3)) fun t63 =>
 p.bin .gtr a1 t63 fun t64 =>
 p.cond t64
 (k (packA [(.sc (.int .i64 0)), (.sc (.int .i64 0)), (.sc (.bool false))]) H)
 (f105_L0 p n  k n (tf 104 0 (ud [(0, a0), (1, a1), (4, (.sc (.int .i64 0))), (5, (.sc (.int .i64 0))), (6, (.sc (.bool false))), (7, t25), (8, (.sc (.int .i64 3))), (9, (.sc (.int .i64 65536))), (10, t57), (11, (.sc (.int .i64 1))), (13, a1), (14, t14), (15, t14), (16, t16), (17, t17), (18, t18), (19, t19), (20, t20), (21, a0), (22, a1), (23, t23), (24, t24), (25, t25), (26, t25), (27, t27), (31, t37), (32, t25), (33, t33), (34, t33), (35, t35), (36, t36), (37, t37), (40, t46), (41, t25), (42, t42), (43, t42), (44, t44), (45, t45), (46, t46), (49, t55), (50, t25), (51, t51), (52, t51), (53, t53), (54, t54), (55, t55), (56, t25), (57, t57), (58, a1), (59, a0), (60, t60), (61, t61), (62, (.sc (.int .i64 3))), (63, t63), (64, t64)] ut)) H))
 (k (packA [(.sc (.int .i64 0)), (.sc (.int .i64 0)), (.sc (.bool false))]) H))))) := by kernel_rfl
theorem f105_body (p : Pr β) (n : Nat) (a0 a1 : AV) (H : Heap) (k : AV → Heap → Option β) : evalBody ti0 p n ⟨c105, 104, Go.Proofs.Tryd.f105.results.toList, o105⟩ [a0, a1] H k = f105 p n a0 a1 H k := by
 rw [f105_raw]
 simp only [f105_l0_eq]
 kernel_rfl
noncomputable def f92_l0 (p : Pr β) (n : Nat)  (k : AV → Heap → Option β) : Nat → AV → AV → AV → Heap → Option β
 | 0, _, _, _, _ => none
 | m + 1, t3, t4, t5, H => p.len t3 fun t16 =>
   p.bin .lss t5 t16 fun t17 =>
   p.cond t17
   (p.call 107 (.fn 105 [] []) [t3, t5] H fun t21 H =>
   p.extr t21 0 fun t22 =>
   p.extr t21 1 fun t23 =>
   p.extr t21 2 fun t24 =>
   p.un .not t24 fun t26 =>
   p.guard t26 false H (fun k' => k' t22 H) fun t28 H =>
   p.guard t26 false H (fun k' => p.bin .eql t28 (.sc (.int .i64 0)) fun t' => k' t' H) fun t29 H =>
   p.pick t26 (.sc (.bool true)) t29 fun t30 =>
   p.cond t30
   (k (.sc (.int .i64 (-1))) H)
   (p.bin .add t4 (.sc (.int .i64 1)) fun t33 =>
   f92_l0 p n  k m t3 t33 t23 H))
   (k t4 H)
noncomputable def f92 (p : Pr β) (n : Nat) (a0 : AV) (H : Heap) (k : AV → Heap → Option β) : Option β :=
 p.lenS a0 fun t10 =>
 p.bin .gtr t10 (.sc (.int .i64 60)) fun t11 =>
 p.cond t11
 (k (.sc (.int .i64 (-1))) H)
 (p.cvSB a0 H fun t13 H =>
 f92_l0 p n  k n t13 (.sc (.int .i64 0)) (.sc (.int .i64 0)) H)
noncomputable def f92_L0 (p : Pr β) (n : Nat)  (k : AV → Heap → Option β) (m : Nat) (tm : Tm) (H : Heap) : Option β :=
 iterC 35 (fun tm H k => evalCode ti0 p o92 35 n (cd c92 [1, 1, 1, 1, 0, 1, 0, 0]) tm H k) (blkK 0 (seqK (fun tm H => evalCode ti0 p o92 35 n (cd c92 [1, 1, 1, 1, 1]) tm H (endK ti0 p Go.Proofs.Tryd.f92.results.toList k)) (endK ti0 p Go.Proofs.Tryd.f92.results.toList k))) m tm H
theorem f92_L0_step (p : Pr β) (n : Nat)  (k : AV → Heap → Option β) (m0 : Nat) (t : Nat → AV) (H : Heap) : f92_L0 p n  k (m0 + 1) (tf 35 0 t) H =
 p.len (t 3) fun t16 =>
 p.bin .lss (t 5) t16 fun t17 =>
 p.cond t17
 (p.call 107 (.fn 105 [] []) [(t 3), (t 5)] H fun t21 H =>
 p.extr t21 0 fun t22 =>
 p.extr t21 1 fun t23 =>
 p.extr t21 2 fun t24 =>
 p.un .not t24 fun t26 =>
 p.guard t26 false H (fun k' => k' t22 H) fun t28 H =>
 p.guard t26 false H (fun k' => p.bin .eql t28 (.sc (.int .i64 0)) fun t' => k' t' H) fun t29 H =>
 p.pick t26 (.sc (.bool true)) t29 fun t30 =>
 p.cond t30
 (k (.sc (.int .i64 (-1))) H)
 (p.bin .add (t 4) (.sc (.int .i64 1)) fun t33 =>
 f92_L0 p n  k m0 (tf 35 0 (ud [(4, t33), (5, t23), (6, t22), (7, t23), (8, t24), (14, (t 5)), (15, (t 3)), (16, t16), (17, t17), (18, t21), (19, (t 3)), (20, (t 5)), (21, t21), (22, t22), (23, t23), (24, t24), (25, t24), (26, t26), (27, t26), (28, t28), (29, t29), (30, t30), (31, t23), (32, (t 4)), (33, t33)] t)) H))
 (k (t 4) H) := by kernel_rfl
theorem f92_l0_eq (p : Pr β) (n : Nat)  (k : AV → Heap → Option β)   (m0 : Nat) : ∀ (t : Nat → AV) (H : Heap), f92_L0 p n  k m0 (tf 35 0 t) H = f92_l0 p n  k m0 (t 3) (t 4) (t 5) H := by
 induction m0 with
 | zero => intros; rfl
 | succ m0 ih =>
  intro t H
  rw [f92_L0_step]
  simp only [ih]
  kernel_rfl
theorem f92_raw (p : Pr β) (n : Nat) (a0 : AV) (H : Heap) (k : AV → Heap → Option β) : evalBody ti0 p n ⟨c92, 35, Go.Proofs.Tryd.f92.results.toList, o92⟩ [a0] H k =
 p.lenS a0 fun t10 =>
 p.bin .gtr t10 (.sc (.int .i64 60)) fun t11 =>
 p.cond t11
 (k (.sc (.int .i64 (-1))) H)
 (p.cvSB a0 H fun t13 H =>
 f92_L0 p n  k n (tf 35 0 (ud [(0, a0), (2, (.sc (.int .i64 0))), (3, t13), (4, (.sc (.int .i64 0))), (5, (.sc (.int .i64 0))), (9, a0), (10, t10), (11, t11), (12, a0), (13, t13)] ut)) H) := by kernel_rfl
theorem f92_body (p : Pr β) (n : Nat) (a0 : AV) (H : Heap) (k : AV → Heap → Option β) : evalBody ti0 p n ⟨c92, 35, Go.Proofs.Tryd.f92.results.toList, o92⟩ [a0] H k = f92 p n a0 H k := by
 rw [f92_raw]
 simp only [f92_l0_eq]
 kernel_rfl
noncomputable def f74 (p : Pr β) (n : Nat) (a0 : AV) (H : Heap) (k : AV → Heap → Option β) : Option β :=
 p.call 3 (.fn 92 [] []) [a0] H fun t4 H =>
 p.bin .geq t4 (.sc (.int .i64 0)) fun t5 =>
 k t5 H
theorem f74_body (p : Pr β) (n : Nat) (a0 : AV) (H : Heap) (k : AV → Heap → Option β) : evalBody ti0 p n ⟨c74, 6, Go.Proofs.Tryd.f74.results.toList, o74⟩ [a0] H k = f74 p n a0 H k := by kernel_rfl
noncomputable def f75_l0 (p : Pr β) (n : Nat)  (k : AV → Heap → Option β) : Nat → AV → AV → AV → Heap → Option β
 | 0, _, _, _, _ => none
 | m + 1, t0, t1, t5, H => p.lenS t0 fun t8 =>
   p.bin .lss t5 t8 fun t9 =>
   p.cond t9
   (p.idx t0 t5 fun t14 =>
   p.bin .eql t14 t1 fun t16 =>
   p.cond t16
   (k (.sc (.bool true)) H)
   (p.bin .add t5 (.sc (.int .i64 1)) fun t11 =>
   f75_l0 p n  k m t0 t1 t11 H))
   (k (.sc (.bool false)) H)
noncomputable def f75 (p : Pr β) (n : Nat) (a0 a1 : AV) (H : Heap) (k : AV → Heap → Option β) : Option β :=
 f75_l0 p n  k n a0 a1 (.sc (.int .i64 0)) H
noncomputable def f75_L0 (p : Pr β) (n : Nat)  (k : AV → Heap → Option β) (m : Nat) (tm : Tm) (H : Heap) : Option β :=
 iterC 17 (fun tm H k => evalCode ti0 p o75 17 n (cd c75 [1, 0, 1, 0, 0]) tm H k) (blkK 0 (seqK (fun tm H => evalCode ti0 p o75 17 n (cd c75 [1, 1]) tm H (endK ti0 p Go.Proofs.Tryd.f75.results.toList k)) (endK ti0 p Go.Proofs.Tryd.f75.results.toList k))) m tm H
theorem f75_L0_step (p : Pr β) (n : Nat)  (k : AV → Heap → Option β) (m0 : Nat) (t : Nat → AV) (H : Heap) : f75_L0 p n  k (m0 + 1) (tf 17 0 t) H =
 p.lenS (t 0) fun t8 =>
 p.bin .lss (t 5) t8 fun t9 =>
 p.cond t9
 (p.idx (t 0) (t 5) fun t14 =>
 p.bin .eql t14 (t 1) fun t16 =>
 p.cond t16
 (k (.sc (.bool true)) H)
 (p.bin .add (t 5) (.sc (.int .i64 1)) fun t11 =>
 f75_L0 p n  k m0 (tf 17 0 (ud [(5, t11), (6, (t 5)), (7, (t 0)), (8, t8), (9, t9), (10, (t 5)), (11, t11), (12, (t 0)), (13, (t 5)), (14, t14), (15, (t 1)), (16, t16)] t)) H))
 (k (.sc (.bool false)) H) := by kernel_rfl
theorem f75_l0_eq (p : Pr β) (n : Nat)  (k : AV → Heap → Option β)   (m0 : Nat) : ∀ (t : Nat → AV) (H : Heap), f75_L0 p n  k m0 (tf 17 0 t) H = f75_l0 p n  k m0 (t 0) (t 1) (t 5) H := by
 induction m0 with
 | zero => intros; rfl
 | succ m0 ih =>
  intro t H
  rw [f75_L0_step]
  simp only [ih]
  kernel_rfl
theorem f75_raw (p : Pr β) (n : Nat) (a0 a1 : AV) (H : Heap) (k : AV → Heap → Option β) : evalBody ti0 p n ⟨c75, 17, Go.Proofs.Tryd.f75.results.toList, o75⟩ [a0, a1] H k =
 f75_L0 p n  k n (tf 17 0 (ud [(0, a0), (1, a1), (4, (.sc (.bool false))), (5, (.sc (.int .i64 0)))] ut)) H := by kernel_rfl
theorem f75_body (p : Pr β) (n : Nat) (a0 a1 : AV) (H : Heap) (k : AV → Heap → Option β) : evalBody ti0 p n ⟨c75, 17, Go.Proofs.Tryd.f75.results.toList, o75⟩ [a0, a1] H k = f75 p n a0 a1 H k := by
 rw [f75_raw]
 simp only [f75_l0_eq]
 kernel_rfl
noncomputable def f76_l0 (p : Pr β) (n : Nat)  (k : AV → Heap → Option β) : Nat → AV → AV → AV → AV → Heap → Option β
 | 0, _, _, _, _, _ => none
 | m + 1, t0, t3, t4, t5, H => p.lenS t0 fun t9 =>
   p.bin .leq t5 t9 fun t10 =>
   p.cond t10
   (p.lenS t0 fun t15 =>
   p.bin .eql t5 t15 fun t16 =>
   p.guard t16 false H (fun k' => k' t0 H) fun t18 H =>
   p.guard t16 false H (fun k' => k' t5 H) fun t19 H =>
   p.guard t16 false H (fun k' => p.idx t18 t19 fun t' => k' t' H) fun t20 H =>
   p.guard t16 false H (fun k' => p.bin .eql t20 (.sc (.int .u8 47)) fun t' => k' t' H) fun t21 H =>
   p.pick t16 (.sc (.bool true)) t21 fun t22 =>
   p.cond t22
   (p.sliceS t0 (some t4) (some t5) fun t27 =>
   p.fill [(.sc (.string ⟨#[]⟩))] [(0, 1, t27)] fun ct28 => p.newSl 1 1 ct28 true H fun t28 H =>
   p.app 1 16 t3 t28 H fun t29 H =>
   p.bin .add t5 (.sc (.int .i64 1)) fun t31 =>
   p.bin .add t5 (.sc (.int .i64 1)) fun t12 =>
   f76_l0 p n  k m t0 t29 t31 t12 H)
   (p.bin .add t5 (.sc (.int .i64 1)) fun t12 =>
   f76_l0 p n  k m t0 t3 t4 t12 H))
   (k t3 H)
noncomputable def f76 (p : Pr β) (n : Nat) (a0 : AV) (H : Heap) (k : AV → Heap → Option β) : Option β :=
 f76_l0 p n  k n a0 .nl (.sc (.int .i64 0)) (.sc (.int .i64 0)) H
noncomputable def f76_L0 (p : Pr β) (n : Nat)  (k : AV → Heap → Option β) (m : Nat) (tm : Tm) (H : Heap) : Option β :=
 iterC 33 (fun tm H k => evalCode ti0 p o76 33 n (cd c76 [1, 1, 1, 0, 1, 0, 0]) tm H k) (blkK 0 (seqK (fun tm H => evalCode ti0 p o76 33 n (cd c76 [1, 1, 1, 1]) tm H (endK ti0 p Go.Proofs.Tryd.f76.results.toList k)) (endK ti0 p Go.Proofs.Tryd.f76.results.toList k))) m tm H
theorem f76_L0_step (p : Pr β) (n : Nat)  (k : AV → Heap → Option β) (m0 : Nat) (t : Nat → AV) (H : Heap) : f76_L0 p n  k (m0 + 1) (tf 33 0 t) H =
 p.lenS (t 0) fun t9 =>
 p.bin .leq (t 5) t9 fun t10 =>
 p.cond t10
 (p.lenS (t 0) fun t15 =>
 p.bin .eql (t 5) t15 fun t16 =>
 p.guard t16 false H (fun k' => k' (t 0) H) fun t18 H =>
 p.guard t16 false H (fun k' => k' (t 5) H) fun t19 H =>
 p.guard t16 false H (fun k' => p.idx t18 t19 fun t' => k' t' H) fun t20 H =>
 p.guard t16 false H (fun k' => p.bin .eql t20 (.sc (.int .u8 47)) fun t' => k' t' H) fun t21 H =>
 p.pick t16 (.sc (.bool true)) t21 fun t22 =>
 p.cond t22
 (p.sliceS (t 0) (some (t 4)) (some (t 5)) fun t27 =>
 p.fill [(.sc (.string ⟨#[]⟩))] [(0, 1, t27)] fun ct28 => p.newSl 1 1 ct28 true H fun t28 H =>
 p.app 1 16 (t 3) t28 H fun t29 H =>
 p.bin .add (t 5) (.sc (.int .i64 1)) fun t31 =>
 p.bin .add (t 5) (.sc (.int .i64 1)) fun t12 =>
 f76_L0 p n  k m0 (tf 33 0 (ud [(3, t29), (4, t31), (5, t12), (7, (t 5)), (8, (t 0)), (9, t9), (10, t10), (11, (t 5)), (12, t12), (13, (t 5)), (14, (t 0)), (15, t15), (16, t16), (17, t16), (18, t18), (19, t19), (20, t20), (21, t21), (22, t22), (23, (t 3)), (24, (t 0)), (25, (t 4)), (26, (t 5)), (27, t27), (28, t28), (29, t29), (30, (t 5)), (31, t31)] t)) H)
 (p.bin .add (t 5) (.sc (.int .i64 1)) fun t12 =>
 f76_L0 p n  k m0 (tf 33 0 (ud [(5, t12), (7, (t 5)), (8, (t 0)), (9, t9), (10, t10), (11, (t 5)), (12, t12), (13, (t 5)), (14, (t 0)), (15, t15), (16, t16), (17, t16), (18, t18), (19, t19), (20, t20), (21, t21), (22, t22)] t)) H))
 (k (t 3) H) := by kernel_rfl
theorem f76_l0_eq (p : Pr β) (n : Nat)  (k : AV → Heap → Option β)   (m0 : Nat) : ∀ (t : Nat → AV) (H : Heap), f76_L0 p n  k m0 (tf 33 0 t) H = f76_l0 p n  k m0 (t 0) (t 3) (t 4) (t 5) H := by
 induction m0 with
 | zero => intros; rfl
 | succ m0 ih =>
  intro t H
  rw [f76_L0_step]
  simp only [ih]
  kernel_rfl
theorem f76_raw (p : Pr β) (n : Nat) (a0 : AV) (H : Heap) (k : AV → Heap → Option β) : evalBody ti0 p n ⟨c76, 33, Go.Proofs.Tryd.f76.results.toList, o76⟩ [a0] H k =
 f76_L0 p n  k n (tf 33 0 (ud [(0, a0), (2, .nl), (3, .nl), (4, (.sc (.int .i64 0))), (5, (.sc (.int .i64 0))), (6, .nl)] ut)) H := by kernel_rfl
theorem f76_body (p : Pr β) (n : Nat) (a0 : AV) (H : Heap) (k : AV → Heap → Option β) : evalBody ti0 p n ⟨c76, 33, Go.Proofs.Tryd.f76.results.toList, o76⟩ [a0] H k = f76 p n a0 H k := by
 rw [f76_raw]
 simp only [f76_l0_eq]
 kernel_rfl
noncomputable def f52 (p : Pr β) (n : Nat) (a0 : AV) (H : Heap) (k : AV → Heap → Option β) : Option β :=
 p.call 4 (.fn 74 [] []) [a0] H fun t4 H =>
 p.guard t4 true H (fun k' => k' a0 H) fun t6 H =>
 p.guard t4 true H (fun k' => p.bin .neq t6 (.sc (.string ⟨#[]⟩)) fun t' => k' t' H) fun t7 H =>
 p.pick t4 t7 (.sc (.bool false)) fun t8 =>
 p.guard t8 true H (fun k' => k' a0 H) fun t10 H =>
 p.guard t8 true H (fun k' => p.call 4 (.fn 75 [] []) [t10, (.sc (.int .u8 43))] H fun t' H => k' t' H) fun t11 H =>
 p.guard t8 true H (fun k' => p.un .not t11 fun t' => k' t' H) fun t12 H =>
 p.pick t8 t12 (.sc (.bool false)) fun t13 =>
 p.guard t13 true H (fun k' => k' a0 H) fun t15 H =>
 p.guard t13 true H (fun k' => p.call 4 (.fn 75 [] []) [t15, (.sc (.int .u8 35))] H fun t' H => k' t' H) fun t16 H =>
 p.guard t13 true H (fun k' => p.un .not t16 fun t' => k' t' H) fun t17 H =>
 p.pick t13 t17 (.sc (.bool false)) fun t18 =>
 p.guard t18 true H (fun k' => k' a0 H) fun t20 H =>
 p.guard t18 true H (fun k' => p.call 25 (.fn 76 [] []) [t20] H fun t' H => k' t' H) fun t21 H =>
 p.guard t18 true H (fun k' => p.len t21 fun t' => k' t' H) fun t22 H =>
 p.guard t18 true H (fun k' => p.bin .leq t22 (.sc (.int .i64 6)) fun t' => k' t' H) fun t23 H =>
 p.pick t18 t23 (.sc (.bool false)) fun t24 =>
 k t24 H
theorem f52_body (p : Pr β) (n : Nat) (a0 : AV) (H : Heap) (k : AV → Heap → Option β) : evalBody ti0 p n ⟨c52, 25, Go.Proofs.Tryd.f52.results.toList, o52⟩ [a0] H k = f52 p n a0 H k := by kernel_rfl
noncomputable def f80_l0 (p : Pr β) (n : Nat)  (k : AV → Heap → Option β) : Nat → AV → AV → AV → Heap → Option β
 | 0, _, _, _, _ => none
 | m + 1, t0, t3, t4, H => p.len t3 fun t9 =>
   p.bin .lss t4 t9 fun t10 =>
   p.cond t10
   (p.iadr 1 t3 t4 fun t15 =>
   p.load false 1 t15 H fun t16 =>
   p.call 4 (.fn 75 [] []) [t16, (.sc (.int .u8 43))] H fun t17 H =>
   p.guard t17 true H (fun k' => k' t3 H) fun t19 H =>
   p.guard t17 true H (fun k' => k' t4 H) fun t20 H =>
   p.guard t17 true H (fun k' => p.iadr 1 t19 t20 fun t' => k' t' H) fun t21 H =>
   p.guard t17 true H (fun k' => p.load false 1 t21 H fun t' => k' t' H) fun t22 H =>
   p.guard t17 true H (fun k' => p.bin .neq t22 (.sc (.string ⟨#[43]⟩)) fun t' => k' t' H) fun t23 H =>
   p.pick t17 t23 (.sc (.bool false)) fun t24 =>
   p.guard t24 false H (fun k' => k' t3 H) fun t26 H =>
   p.guard t24 false H (fun k' => k' t4 H) fun t27 H =>
   p.guard t24 false H (fun k' => p.iadr 1 t26 t27 fun t' => k' t' H) fun t28 H =>
   p.guard t24 false H (fun k' => p.load false 1 t28 H fun t' => k' t' H) fun t29 H =>
   p.guard t24 false H (fun k' => p.call 4 (.fn 75 [] []) [t29, (.sc (.int .u8 35))] H fun t' H => k' t' H) fun t30 H =>
   p.guard t24 false H (fun k' => k' t30 H) fun t31 H =>
   p.guard t31 true H (fun k' => k' t3 H) fun t32 H =>
   p.guard t31 true H (fun k' => k' t4 H) fun t33 H =>
   p.guard t31 true H (fun k' => p.iadr 1 t32 t33 fun t' => k' t' H) fun t34 H =>
   p.guard t31 true H (fun k' => p.load false 1 t34 H fun t' => k' t' H) fun t35 H =>
   p.guard t31 true H (fun k' => p.bin .neq t35 (.sc (.string ⟨#[35]⟩)) fun t' => k' t' H) fun t36 H =>
   p.guard t31 true H (fun k' => k' t36 H) fun t37 H =>
   p.guard t37 false H (fun k' => k' t4 H) fun t38 H =>
   p.guard t37 false H (fun k' => k' t3 H) fun t39 H =>
   p.guard t37 false H (fun k' => p.len t39 fun t' => k' t' H) fun t40 H =>
   p.guard t37 false H (fun k' => p.bin .sub t40 (.sc (.int .i64 1)) fun t' => k' t' H) fun t41 H =>
   p.guard t37 false H (fun k' => p.bin .lss t38 t41 fun t' => k' t' H) fun t42 H =>
   p.guard t31 true H (fun k' => p.pick t37 (.sc (.bool true)) t42 fun t' => k' t' H) fun t43 H =>
   p.guard t24 false H (fun k' => p.pick t31 t43 (.sc (.bool false)) fun t' => k' t' H) fun t44 H =>
   p.pick t24 (.sc (.bool true)) t44 fun t45 =>
   p.cond t45
   (k (.sc (.bool false)) H)
   (p.bin .add t4 (.sc (.int .i64 1)) fun t12 =>
   f80_l0 p n  k m t0 t3 t12 H))
   (p.call 4 (.fn 74 [] []) [t0] H fun t47 H =>
   p.guard t47 true H (fun k' => k' t0 H) fun t49 H =>
   p.guard t47 true H (fun k' => p.bin .neq t49 (.sc (.string ⟨#[]⟩)) fun t' => k' t' H) fun t50 H =>
   p.pick t47 t50 (.sc (.bool false)) fun t51 =>
   p.guard t51 true H (fun k' => k' t3 H) fun t53 H =>
   p.guard t51 true H (fun k' => p.len t53 fun t' => k' t' H) fun t54 H =>
   p.guard t51 true H (fun k' => p.bin .leq t54 (.sc (.int .i64 6)) fun t' => k' t' H) fun t55 H =>
   p.pick t51 t55 (.sc (.bool false)) fun t56 =>
   k t56 H)
noncomputable def f80 (p : Pr β) (n : Nat) (a0 : AV) (H : Heap) (k : AV → Heap → Option β) : Option β :=
 p.call 25 (.fn 76 [] []) [a0] H fun t6 H =>
 f80_l0 p n  k n a0 t6 (.sc (.int .i64 0)) H
noncomputable def f80_L0 (p : Pr β) (n : Nat)  (k : AV → Heap → Option β) (m : Nat) (tm : Tm) (H : Heap) : Option β :=
 iterC 57 (fun tm H k => evalCode ti0 p o80 57 n (cd c80 [1, 1, 0, 1, 0, 0]) tm H k) (blkK 0 (seqK (fun tm H => evalCode ti0 p o80 57 n (cd c80 [1, 1, 1]) tm H (endK ti0 p Go.Proofs.Tryd.f80.results.toList k)) (endK ti0 p Go.Proofs.Tryd.f80.results.toList k))) m tm H
theorem f80_L0_step (p : Pr β) (n : Nat)  (k : AV → Heap → Option β) (m0 : Nat) (t : Nat → AV) (H : Heap) : f80_L0 p n  k (m0 + 1) (tf 57 0 t) H =
 p.len (t 3) fun t9 =>
 p.bin .lss (t 4) t9 fun t10 =>
 p.cond t10
 (p.iadr 1 (t 3) (t 4) fun t15 =>
 p.load false 1 t15 H fun t16 =>
 p.call 4 (.fn 75 [] []) [t16, (.sc (.int .u8 43))] H fun t17 H =>
 p.guard t17 true H (fun k' => k' (t 3) H) fun t19 H =>
 p.guard t17 true H (fun k' => k' (t 4) H) fun t20 H =>
 p.guard t17 true H (fun k' => p.iadr 1 t19 t20 fun t' => k' t' H) fun t21 H =>
 p.guard t17 true H (fun k' => p.load false 1 t21 H fun t' => k' t' H) fun t22 H =>
 p.guard t17 true H (fun k' => p.bin .neq t22 (.sc (.string ⟨#[43]⟩)) fun t' => k' t' H) fun t23 H =>
 p.pick t17 t23 (.sc (.bool false)) fun t24 =>
 p.guard t24 false H (fun k' => k' (t 3) H) fun t26 H =>
 p.guard t24 false H (fun k' => k' (t 4) H) fun t27 H =>
 p.guard t24 false H (fun k' => p.iadr 1 t26 t27 fun t' => k' t' H) fun t28 H =>
 p.guard t24 false H (fun k' => p.load false 1 t28 H fun t' => k' t' H) fun t29 H =>
 p.guard t24 false H (fun k' => p.call 4 (.fn 75 [] []) [t29, (.sc (.int .u8 35))] H fun t' H => k' t' H) fun t30 H =>
 p.guard t24 false H (fun k' => k' t30 H) fun t31 H =>
 p.guard t31 true H (fun k' => k' (t 3) H) fun t32 H =>
 p.guard t31 true H (fun k' => k' (t 4) H) fun t33 H =>
 p.guard t31 true H (fun k' => p.iadr 1 t32 t33 fun t' => k' t' H) fun t34 H =>
 p.guard t31 true H (fun k' => p.load false 1 t34 H fun t' => k' t' H) fun t35 H =>
 p.guard t31 true H (fun k' => p.bin .neq t35 (.sc (.string ⟨#[35]⟩)) fun t' => k' t' H) fun t36 H =>
 p.guard t31 true H (fun k' => k' t36 H) fun t37 H =>
 p.guard t37 false H (fun k' => k' (t 4) H) fun t38 H =>
 p.guard t37 false H (fun k' => k' (t 3) H) fun t39 H =>
 p.guard t37 false H (fun k' => p.len t39 fun t' => k' t' H) fun t40 H =>
 p.guard t37 false H (fun k' => p.bin .sub t40 (.sc (.int .i64 1)) fun t' => k' t' H) fun t41 H =>
 p.guard t37 false H (fun k' => p.bin .lss t38 t41 fun t' => k' t' H) fun t42 H =>
 p.guard t31 true H (fun k' => p.pick t37 (.sc (.bool true)) t42 fun t' => k' t' H) fun t43 H =>
 p.guard t24 false H (fun k' => p.pick t31 t43 (.sc (.bool false)) fun t' => k' t' H) fun t44 H =>
 p.pick t24 (.sc (.bool true)) t44 fun t45 =>
 p.cond t45
 (k (.sc (.bool false)) H)
 (p.bin .add (t 4) (.sc (.int .i64 1)) fun t12 =>
 f80_L0 p n  k m0 (tf 57 0 (ud [(4, t12), (7, (t 4)), (8, (t 3)), (9, t9), (10, t10), (11, (t 4)), (12, t12), (13, (t 3)), (14, (t 4)), (15, t15), (16, t16), (17, t17), (18, t17), (19, t19), (20, t20), (21, t21), (22, t22), (23, t23), (24, t24), (25, t24), (26, t26), (27, t27), (28, t28), (29, t29), (30, t30), (31, t31), (32, t32), (33, t33), (34, t34), (35, t35), (36, t36), (37, t37), (38, t38), (39, t39), (40, t40), (41, t41), (42, t42), (43, t43), (44, t44), (45, t45)] t)) H))
 (p.call 4 (.fn 74 [] []) [(t 0)] H fun t47 H =>
 p.guard t47 true H (fun k' => k' (t 0) H) fun t49 H =>
 p.guard t47 true H (fun k' => p.bin .neq t49 (.sc (.string ⟨#[]⟩)) fun t' => k' t' H) fun t50 H =>
 p.pick t47 t50 (.sc (.bool false)) fun t51 =>
 p.guard t51 true H (fun k' => k' (t 3) H) fun t53 H =>
 p.guard t51 true H (fun k' => p.len t53 fun t' => k' t' H) fun t54 H =>
 p.guard t51 true H (fun k' => p.bin .leq t54 (.sc (.int .i64 6)) fun t' => k' t' H) fun t55 H =>
 p.pick t51 t55 (.sc (.bool false)) fun t56 =>
 k t56 H) := by kernel_rfl
theorem f80_l0_eq (p : Pr β) (n : Nat)  (k : AV → Heap → Option β)   (m0 : Nat) : ∀ (t : Nat → AV) (H : Heap), f80_L0 p n  k m0 (tf 57 0 t) H = f80_l0 p n  k m0 (t 0) (t 3) (t 4) H := by
 induction m0 with
 | zero => intros; rfl
 | succ m0 ih =>
  intro t H
  rw [f80_L0_step]
  simp only [ih]
  kernel_rfl
theorem f80_raw (p : Pr β) (n : Nat) (a0 : AV) (H : Heap) (k : AV → Heap → Option β) : evalBody ti0 p n ⟨c80, 57, Go.Proofs.Tryd.f80.results.toList, o80⟩ [a0] H k =
 p.call 25 (.fn 76 [] []) [a0] H fun t6 H =>
 f80_L0 p n  k n (tf 57 0 (ud [(0, a0), (2, (.sc (.bool false))), (3, t6), (4, (.sc (.int .i64 0))), (5, a0), (6, t6)] ut)) H := by kernel_rfl
theorem f80_body (p : Pr β) (n : Nat) (a0 : AV) (H : Heap) (k : AV → Heap → Option β) : evalBody ti0 p n ⟨c80, 57, Go.Proofs.Tryd.f80.results.toList, o80⟩ [a0] H k = f80 p n a0 H k := by
 rw [f80_raw]
 simp only [f80_l0_eq]
 kernel_rfl
noncomputable def f56_l0 (p : Pr β) (n : Nat)  (k : AV → Heap → Option β) : Nat → AV → AV → AV → Heap → Option β
 | 0, _, _, _, _ => none
 | m + 1, t1, t3, t4, H => p.fadr 22 t1 fun t105 =>
   p.load false 1 t105 H fun t106 =>
   p.len t106 fun t107 =>
   p.bin .lss t4 t107 fun t108 =>
   p.cond t108
   (p.fadr 22 t1 fun t111 =>
   p.load false 1 t111 H fun t112 =>
   p.iadr 2 t112 t4 fun t114 =>
   p.fadr 0 t114 fun t115 =>
   p.load false 1 t115 H fun t116 =>
   p.call 4 (.fn 80 [] []) [t116] H fun t117 H =>
   p.un .not t117 fun t118 =>
   p.guard t118 false H (fun k' => p.fadr 22 t1 fun t' => k' t' H) fun t120 H =>
   p.guard t118 false H (fun k' => p.load false 1 t120 H fun t' => k' t' H) fun t121 H =>
   p.guard t118 false H (fun k' => k' t4 H) fun t122 H =>
   p.guard t118 false H (fun k' => p.iadr 2 t121 t122 fun t' => k' t' H) fun t123 H =>
   p.guard t118 false H (fun k' => p.fadr 1 t123 fun t' => k' t' H) fun t124 H =>
   p.guard t118 false H (fun k' => p.load false 1 t124 H fun t' => k' t' H) fun t125 H =>
   p.guard t118 false H (fun k' => p.call 4 (.fn 53 [] []) [t125, (.sc (.int .i64 0)), (.sc (.int .i64 2))] H fun t' H => k' t' H) fun t126 H =>
   p.guard t118 false H (fun k' => p.un .not t126 fun t' => k' t' H) fun t127 H =>
   p.pick t118 (.sc (.bool true)) t127 fun t128 =>
   p.cond t128
   (k (.sc (.bool false)) H)
   (p.bin .add t4 (.sc (.int .i64 1)) fun t110 =>
   f56_l0 p n  k m t1 t3 t110 H))
   (p.guard t3 true H (fun k' => p.fadr 22 t1 fun t' => k' t' H) fun t131 H =>
   p.guard t3 true H (fun k' => p.load false 1 t131 H fun t' => k' t' H) fun t132 H =>
   p.guard t3 true H (fun k' => p.len t132 fun t' => k' t' H) fun t133 H =>
   p.guard t3 true H (fun k' => p.call 4 (.fn 53 [] []) [t133, (.sc (.int .i64 1)), (.sc (.int .i64 4))] H fun t' H => k' t' H) fun t134 H =>
   p.pick t3 t134 (.sc (.bool false)) fun t135 =>
   k t135 H)
noncomputable def f56_l1 (p : Pr β) (n : Nat)  (k : AV → Heap → Option β) : Nat → AV → AV → AV → Heap → Option β
 | 0, _, _, _, _ => none
 | m + 1, t1, t3, t5, H => p.fadr 24 t1 fun t139 =>
   p.load false 1 t139 H fun t140 =>
   p.len t140 fun t141 =>
   p.bin .lss t5 t141 fun t142 =>
   p.cond t142
   (p.fadr 24 t1 fun t145 =>
   p.load false 1 t145 H fun t146 =>
   p.iadr 1 t146 t5 fun t148 =>
   p.load false 1 t148 H fun t149 =>
   p.call 4 (.fn 53 [] []) [t149, (.sc (.int .i64 0)), (.sc (.int .i64 2))] H fun t150 H =>
   p.un .not t150 fun t151 =>
   p.guard t151 true H (fun k' => p.fadr 24 t1 fun t' => k' t' H) fun t153 H =>
   p.guard t151 true H (fun k' => p.load false 1 t153 H fun t' => k' t' H) fun t154 H =>
   p.guard t151 true H (fun k' => k' t5 H) fun t155 H =>
   p.guard t151 true H (fun k' => p.iadr 1 t154 t155 fun t' => k' t' H) fun t156 H =>
   p.guard t151 true H (fun k' => p.load false 1 t156 H fun t' => k' t' H) fun t157 H =>
   p.guard t151 true H (fun k' => p.bin .neq t157 (.sc (.int .i64 128)) fun t' => k' t' H) fun t158 H =>
   p.pick t151 t158 (.sc (.bool false)) fun t159 =>
   p.cond t159
   (k (.sc (.bool false)) H)
   (p.bin .add t5 (.sc (.int .i64 1)) fun t144 =>
   f56_l1 p n  k m t1 t3 t144 H))
   (p.guard t3 true H (fun k' => p.fadr 24 t1 fun t' => k' t' H) fun t162 H =>
   p.guard t3 true H (fun k' => p.load false 1 t162 H fun t' => k' t' H) fun t163 H =>
   p.guard t3 true H (fun k' => p.len t163 fun t' => k' t' H) fun t164 H =>
   p.guard t3 true H (fun k' => p.call 4 (.fn 53 [] []) [t164, (.sc (.int .i64 1)), (.sc (.int .i64 4))] H fun t' H => k' t' H) fun t165 H =>
   p.pick t3 t165 (.sc (.bool false)) fun t166 =>
   k t166 H)
noncomputable def f56_l2 (p : Pr β) (n : Nat)  (k : AV → Heap → Option β) : Nat → AV → AV → AV → Heap → Option β
 | 0, _, _, _, _ => none
 | m + 1, t1, t3, t6, H => p.fadr 23 t1 fun t170 =>
   p.load false 1 t170 H fun t171 =>
   p.len t171 fun t172 =>
   p.bin .lss t6 t172 fun t173 =>
   p.cond t173
   (p.fadr 23 t1 fun t176 =>
   p.load false 1 t176 H fun t177 =>
   p.iadr 1 t177 t6 fun t179 =>
   p.load false 1 t179 H fun t180 =>
   p.call 4 (.fn 80 [] []) [t180] H fun t181 H =>
   p.un .not t181 fun t182 =>
   p.cond t182
   (k (.sc (.bool false)) H)
   (p.bin .add t6 (.sc (.int .i64 1)) fun t175 =>
   f56_l2 p n  k m t1 t3 t175 H))
   (p.guard t3 true H (fun k' => p.fadr 23 t1 fun t' => k' t' H) fun t185 H =>
   p.guard t3 true H (fun k' => p.load false 1 t185 H fun t' => k' t' H) fun t186 H =>
   p.guard t3 true H (fun k' => p.len t186 fun t' => k' t' H) fun t187 H =>
   p.guard t3 true H (fun k' => p.call 4 (.fn 53 [] []) [t187, (.sc (.int .i64 1)), (.sc (.int .i64 4))] H fun t' H => k' t' H) fun t188 H =>
   p.pick t3 t188 (.sc (.bool false)) fun t189 =>
   k t189 H)
noncomputable def f56 (p : Pr β) (n : Nat) (a0 : AV) (H : Heap) (k : AV → Heap → Option β) : Option β :=
 p.box a0 H fun t1 H =>
 p.fadr 0 t1 fun t7 =>
 p.load false 1 t7 H fun t8 =>
 p.call 4 (.fn 53 [] []) [t8, (.sc (.int .i64 1)), (.sc (.int .i64 14))] H fun t9 H =>
 p.un .not t9 fun t10 =>
 p.guard t10 false H (fun k' => p.load true 25 t1 H fun t' => k' t' H) fun t13 H =>
 p.both
 (p.guard t10 false H (fun k' => p.load true 25 t1 H fun t' => k' t' H) fun t12 H =>
 p.guard t10 false H (fun k' => p.call 27 (.fn 79 [] []) [t13] H fun t' H => k' t' H) fun t14 H =>
 p.guard t10 false H (fun k' => p.call 4 (.fn 78 [] []) [t12, t14] H fun t' H => k' t' H) fun t15 H =>
 p.guard t10 false H (fun k' => p.un .not t15 fun t' => k' t' H) fun t16 H =>
 p.pick t10 (.sc (.bool true)) t16 fun t17 =>
 p.cond t17
 (k (.sc (.bool false)) H)
 (p.fadr 4 t1 fun t18 =>
 p.load false 1 t18 H fun t19 =>
 p.call 4 (.fn 53 [] []) [t19, (.sc (.int .i64 1)), (.sc (.int .i64 65535))] H fun t20 H =>
 p.fadr 0 t1 fun t21 =>
 p.load false 1 t21 H fun t22 =>
 p.bin .eql t22 (.sc (.int .i64 1)) fun t24 =>
 p.cond t24
 (p.fadr 11 t1 fun t25 =>
 p.load false 1 t25 H fun t26 =>
 p.guard t26 true H (fun k' => p.fadr 12 t1 fun t' => k' t' H) fun t28 H =>
 p.guard t26 true H (fun k' => p.load false 1 t28 H fun t' => k' t' H) fun t29 H =>
 p.guard t26 true H (fun k' => p.call 4 (.fn 52 [] []) [t29] H fun t' H => k' t' H) fun t30 H =>
 p.guard t26 true H (fun k' => p.un .not t30 fun t' => k' t' H) fun t31 H =>
 p.guard t26 true H (fun k' => k' t31 H) fun t32 H =>
 p.guard t32 false H (fun k' => p.fadr 13 t1 fun t' => k' t' H) fun t33 H =>
 p.guard t32 false H (fun k' => p.load false 1 t33 H fun t' => k' t' H) fun t34 H =>
 p.guard t32 false H (fun k' => p.len t34 fun t' => k' t' H) fun t35 H =>
 p.guard t32 false H (fun k' => p.bin .gtr t35 (.sc (.int .i64 40)) fun t' => k' t' H) fun t36 H =>
 p.guard t26 true H (fun k' => p.pick t32 (.sc (.bool true)) t36 fun t' => k' t' H) fun t37 H =>
 p.guard t26 true H (fun k' => k' t37 H) fun t38 H =>
 p.guard t38 false H (fun k' => p.fadr 14 t1 fun t' => k' t' H) fun t39 H =>
 p.guard t38 false H (fun k' => p.load false 1 t39 H fun t' => k' t' H) fun t40 H =>
 p.guard t38 false H (fun k' => p.call 4 (.fn 53 [] []) [t40, (.sc (.int .i64 0)), (.sc (.int .i64 2))] H fun t' H => k' t' H) fun t41 H =>
 p.guard t38 false H (fun k' => p.un .not t41 fun t' => k' t' H) fun t42 H =>
 p.guard t26 true H (fun k' => p.pick t38 (.sc (.bool true)) t42 fun t' => k' t' H) fun t43 H =>
 p.pick t26 t43 (.sc (.bool false)) fun t44 =>
 p.cond t44
 (k (.sc (.bool false)) H)
 (p.fadr 8 t1 fun t45 =>
 p.load false 1 t45 H fun t46 =>
 p.call 4 (.fn 53 [] []) [t46, (.sc (.int .i64 0)), (.sc (.int .i64 255))] H fun t47 H =>
 p.guard t47 true H (fun k' => p.fadr 7 t1 fun t' => k' t' H) fun t49 H =>
 p.guard t47 true H (fun k' => p.load false 1 t49 H fun t' => k' t' H) fun t50 H =>
 p.guard t47 true H (fun k' => p.call 4 (.fn 74 [] []) [t50] H fun t' H => k' t' H) fun t51 H =>
 p.pick t47 t51 (.sc (.bool false)) fun t52 =>
 p.guard t52 true H (fun k' => p.fadr 10 t1 fun t' => k' t' H) fun t54 H =>
 p.guard t52 true H (fun k' => p.load false 1 t54 H fun t' => k' t' H) fun t55 H =>
 p.guard t52 true H (fun k' => p.call 4 (.fn 53 [] []) [t55, (.sc (.int .i64 0)), (.sc (.int .i64 65535))] H fun t' H => k' t' H) fun t56 H =>
 p.pick t52 t56 (.sc (.bool false)) fun t57 =>
 p.guard t57 true H (fun k' => p.fadr 17 t1 fun t' => k' t' H) fun t59 H =>
 p.guard t57 true H (fun k' => p.load false 1 t59 H fun t' => k' t' H) fun t60 H =>
 p.guard t57 true H (fun k' => p.call 4 (.fn 74 [] []) [t60] H fun t' H => k' t' H) fun t61 H =>
 p.pick t57 t61 (.sc (.bool false)) fun t62 =>
 p.guard t62 true H (fun k' => p.fadr 19 t1 fun t' => k' t' H) fun t64 H =>
 p.guard t62 true H (fun k' => p.load false 1 t64 H fun t' => k' t' H) fun t65 H =>
 p.guard t62 true H (fun k' => p.len t65 fun t' => k' t' H) fun t66 H =>
 p.guard t62 true H (fun k' => p.bin .leq t66 (.sc (.int .i64 60)) fun t' => k' t' H) fun t67 H =>
 p.pick t62 t67 (.sc (.bool false)) fun t68 =>
 k t68 H))
 (p.bin .eql t22 (.sc (.int .i64 2)) fun t70 =>
 p.cond t70
 (p.fadr 20 t1 fun t71 =>
 p.load false 1 t71 H fun t72 =>
 p.call 4 (.fn 53 [] []) [t72, (.sc (.int .i64 0)), (.sc (.int .i64 5))] H fun t73 H =>
 k t73 H)
 (p.bin .eql t22 (.sc (.int .i64 3)) fun t75 =>
 p.cond t75
 (p.fadr 2 t1 fun t76 =>
 p.load false 1 t76 H fun t77 =>
 p.call 4 (.fn 53 [] []) [t77, (.sc (.int .i64 0)), (.sc (.int .i64 2))] H fun t78 H =>
 p.guard t78 true H (fun k' => p.fadr 2 t1 fun t' => k' t' H) fun t80 H =>
 p.guard t78 true H (fun k' => p.load false 1 t80 H fun t' => k' t' H) fun t81 H =>
 p.guard t78 true H (fun k' => p.bin .eql t81 (.sc (.int .i64 0)) fun t' => k' t' H) fun t82 H =>
 p.guard t78 true H (fun k' => k' t82 H) fun t83 H =>
 p.guard t83 false H (fun k' => k' t20 H) fun t84 H =>
 p.guard t78 true H (fun k' => p.pick t83 (.sc (.bool true)) t84 fun t' => k' t' H) fun t85 H =>
 p.pick t78 t85 (.sc (.bool false)) fun t86 =>
 p.guard t86 true H (fun k' => p.fadr 5 t1 fun t' => k' t' H) fun t88 H =>
 p.guard t86 true H (fun k' => p.load false 1 t88 H fun t' => k' t' H) fun t89 H =>
 p.guard t86 true H (fun k' => p.call 4 (.fn 52 [] []) [t89] H fun t' H => k' t' H) fun t90 H =>
 p.pick t86 t90 (.sc (.bool false)) fun t91 =>
 p.guard t91 true H (fun k' => p.fadr 6 t1 fun t' => k' t' H) fun t93 H =>
 p.guard t91 true H (fun k' => p.load false 1 t93 H fun t' => k' t' H) fun t94 H =>
 p.guard t91 true H (fun k' => p.len t94 fun t' => k' t' H) fun t95 H =>
 p.guard t91 true H (fun k' => p.bin .leq t95 (.sc (.int .i64 40)) fun t' => k' t' H) fun t96 H =>
 p.pick t91 t96 (.sc (.bool false)) fun t97 =>
 k t97 H)
 (p.bin .eql t22 (.sc (.int .i64 12)) fun t99 =>
 letJ (fun (t1 t3 t22 t98 : AV) (H : Heap) => p.cond t98
 (k (.sc (.bool true)) H)
 (p.bin .eql t22 (.sc (.int .i64 8)) fun t103 =>
 p.cond t103
 (f56_l0 p n  k n t1 t3 (.sc (.int .i64 0)) H)
 (p.bin .eql t22 (.sc (.int .i64 9)) fun t137 =>
 p.cond t137
 (f56_l1 p n  k n t1 t3 (.sc (.int .i64 0)) H)
 (p.bin .eql t22 (.sc (.int .i64 10)) fun t168 =>
 p.cond t168
 (f56_l2 p n  k n t1 t3 (.sc (.int .i64 0)) H)
 (k t3 H))))) fun j1 =>
 p.cond t99
 (j1 t1 t20 t22 t99 H)
 (p.bin .eql t22 (.sc (.int .i64 13)) fun t100 =>
 p.cond t100
 (j1 t1 t20 t22 t100 H)
 (p.bin .eql t22 (.sc (.int .i64 14)) fun t101 =>
 j1 t1 t20 t22 t101 H)))))))
 (p.guard t10 false H (fun k' => p.call 27 (.fn 79 [] []) [t13] H fun t' H => k' t' H) fun t14 H =>
 p.guard t10 false H (fun k' => p.load true 25 t1 H fun t' => k' t' H) fun t12 H =>
 p.guard t10 false H (fun k' => p.call 4 (.fn 78 [] []) [t12, t14] H fun t' H => k' t' H) fun t15 H =>
 p.guard t10 false H (fun k' => p.un .not t15 fun t' => k' t' H) fun t16 H =>
 p.pick t10 (.sc (.bool true)) t16 fun t17 =>
 p.cond t17
 (k (.sc (.bool false)) H)
 (p.fadr 4 t1 fun t18 =>
 p.load false 1 t18 H fun t19 =>
 p.call 4 (.fn 53 [] []) [t19, (.sc (.int .i64 1)), (.sc (.int .i64 65535))] H fun t20 H =>
 p.fadr 0 t1 fun t21 =>
 p.load false 1 t21 H fun t22 =>
 p.bin .eql t22 (.sc (.int .i64 1)) fun t24 =>
 p.cond t24
 (p.fadr 11 t1 fun t25 =>
 p.load false 1 t25 H fun t26 =>
 p.guard t26 true H (fun k' => p.fadr 12 t1 fun t' => k' t' H) fun t28 H =>
 p.guard t26 true H (fun k' => p.load false 1 t28 H fun t' => k' t' H) fun t29 H =>
 p.guard t26 true H (fun k' => p.call 4 (.fn 52 [] []) [t29] H fun t' H => k' t' H) fun t30 H =>
 p.guard t26 true H (fun k' => p.un .not t30 fun t' => k' t' H) fun t31 H =>
 p.guard t26 true H (fun k' => k' t31 H) fun t32 H =>
 p.guard t32 false H (fun k' => p.fadr 13 t1 fun t' => k' t' H) fun t33 H =>
 p.guard t32 false H (fun k' => p.load false 1 t33 H fun t' => k' t' H) fun t34 H =>
 p.guard t32 false H (fun k' => p.len t34 fun t' => k' t' H) fun t35 H =>
 p.guard t32 false H (fun k' => p.bin .gtr t35 (.sc (.int .i64 40)) fun t' => k' t' H) fun t36 H =>
 p.guard t26 true H (fun k' => p.pick t32 (.sc (.bool true)) t36 fun t' => k' t' H) fun t37 H =>
 p.guard t26 true H (fun k' => k' t37 H) fun t38 H =>
 p.guard t38 false H (fun k' => p.fadr 14 t1 fun t' => k' t' H) fun t39 H =>
 p.guard t38 false H (fun k' => p.load false 1 t39 H fun t' => k' t' H) fun t40 H =>
 p.guard t38 false H (fun k' => p.call 4 (.fn 53 [] []) [t40, (.sc (.int .i64 0)), (.sc (.int .i64 2))] H fun t' H => k' t' H) fun t41 H =>
 p.guard t38 false H (fun k' => p.un .not t41 fun t' => k' t' H) fun t42 H =>
 p.guard t26 true H (fun k' => p.pick t38 (.sc (.bool true)) t42 fun t' => k' t' H) fun t43 H =>
 p.pick t26 t43 (.sc (.bool false)) fun t44 =>
 p.cond t44
 (k (.sc (.bool false)) H)
 (p.fadr 8 t1 fun t45 =>
 p.load false 1 t45 H fun t46 =>
 p.call 4 (.fn 53 [] []) [t46, (.sc (.int .i64 0)), (.sc (.int .i64 255))] H fun t47 H =>
 p.guard t47 true H (fun k' => p.fadr 7 t1 fun t' => k' t' H) fun t49 H =>
 p.guard t47 true H (fun k' => p.load false 1 t49 H fun t' => k' t' H) fun t50 H =>
 p.guard t47 true H (fun k' => p.call 4 (.fn 74 [] []) [t50] H fun t' H => k' t' H) fun t51 H =>
 p.pick t47 t51 (.sc (.bool false)) fun t52 =>
 p.guard t52 true H (fun k' => p.fadr 10 t1 fun t' => k' t' H) fun t54 H =>
 p.guard t52 true H (fun k' => p.load false 1 t54 H fun t' => k' t' H) fun t55 H =>
 p.guard t52 true H (fun k' => p.call 4 (.fn 53 [] []) [t55, (.sc (.int .i64 0)), (.sc (.int .i64 65535))] H fun t' H => k' t' H) fun t56 H =>
 p.pick t52 t56 (.sc (.bool false)) fun t57 =>
 p.guard t57 true H (fun k' => p.fadr 17 t1 fun t' => k' t' H) fun t59 H =>
 p.guard t57 true H (fun k' => p.load false 1 t59 H fun t' => k' t' H) fun t60 H =>
 p.guard t57 true H (fun k' => p.call 4 (.fn 74 [] []) [t60] H fun t' H => k' t' H) fun t61 H =>
 p.pick t57 t61 (.sc (.bool false)) fun t62 =>
 p.guard t62 true H (fun k' => p.fadr 19 t1 fun t' => k' t' H) fun t64 H =>
 p.guard t62 true H (fun k' => p.load false 1 t64 H fun t' => k' t' H) fun t65 H =>
 p.guard t62 true H (fun k' => p.len t65 fun t' => k' t' H) fun t66 H =>
 p.guard t62 true H (fun k' => p.bin .leq t66 (.sc (.int .i64 60)) fun t' => k' t' H) fun t67 H =>
 p.pick t62 t67 (.sc (.bool false)) fun t68 =>
 k t68 H))
 (p.bin .eql t22 (.sc (.int .i64 2)) fun t70 =>
 p.cond t70
 (p.fadr 20 t1 fun t71 =>
 p.load false 1 t71 H fun t72 =>
 p.call 4 (.fn 53 [] []) [t72, (.sc (.int .i64 0)), (.sc (.int .i64 5))] H fun t73 H =>
 k t73 H)
 (p.bin .eql t22 (.sc (.int .i64 3)) fun t75 =>
 p.cond t75
 (p.fadr 2 t1 fun t76 =>
 p.load false 1 t76 H fun t77 =>
 p.call 4 (.fn 53 [] []) [t77, (.sc (.int .i64 0)), (.sc (.int .i64 2))] H fun t78 H =>
 p.guard t78 true H (fun k' => p.fadr 2 t1 fun t' => k' t' H) fun t80 H =>
 p.guard t78 true H (fun k' => p.load false 1 t80 H fun t' => k' t' H) fun t81 H =>
 p.guard t78 true H (fun k' => p.bin .eql t81 (.sc (.int .i64 0)) fun t' => k' t' H) fun t82 H =>
 p.guard t78 true H (fun k' => k' t82 H) fun t83 H =>
 p.guard t83 false H (fun k' => k' t20 H) fun t84 H =>
 p.guard t78 true H (fun k' => p.pick t83 (.sc (.bool true)) t84 fun t' => k' t' H) fun t85 H =>
 p.pick t78 t85 (.sc (.bool false)) fun t86 =>
 p.guard t86 true H (fun k' => p.fadr 5 t1 fun t' => k' t' H) fun t88 H =>
 p.guard t86 true H (fun k' => p.load false 1 t88 H fun t' => k' t' H) fun t89 H =>
 p.guard t86 true H (fun k' => p.call 4 (.fn 52 [] []) [t89] H fun t' H => k' t' H) fun t90 H =>
 p.pick t86 t90 (.sc (.bool false)) fun t91 =>
 p.guard t91 true H (fun k' => p.fadr 6 t1 fun t' => k' t' H) fun t93 H =>
 p.guard t91 true H (fun k' => p.load false 1 t93 H fun t' => k' t' H) fun t94 H =>
 p.guard t91 true H (fun k' => p.len t94 fun t' => k' t' H) fun t95 H =>
 p.guard t91 true H (fun k' => p.bin .leq t95 (.sc (.int .i64 40)) fun t' => k' t' H) fun t96 H =>
 p.pick t91 t96 (.sc (.bool false)) fun t97 =>
 k t97 H)
 (p.bin .eql t22 (.sc (.int .i64 12)) fun t99 =>
 letJ (fun (t1 t3 t22 t98 : AV) (H : Heap) => p.cond t98
 (k (.sc (.bool true)) H)
 (p.bin .eql t22 (.sc (.int .i64 8)) fun t103 =>
 p.cond t103
 (f56_l0 p n  k n t1 t3 (.sc (.int .i64 0)) H)
 (p.bin .eql t22 (.sc (.int .i64 9)) fun t137 =>
 p.cond t137
 (f56_l1 p n  k n t1 t3 (.sc (.int .i64 0)) H)
 (p.bin .eql t22 (.sc (.int .i64 10)) fun t168 =>
 p.cond t168
 (f56_l2 p n  k n t1 t3 (.sc (.int .i64 0)) H)
 (k t3 H))))) fun j2 =>
 p.cond t99
 (j2 t1 t20 t22 t99 H)
 (p.bin .eql t22 (.sc (.int .i64 13)) fun t100 =>
 p.cond t100
 (j2 t1 t20 t22 t100 H)
 (p.bin .eql t22 (.sc (.int .i64 14)) fun t101 =>
 j2 t1 t20 t22 t101 H)))))))
noncomputable def f56_L0 (p : Pr β) (n : Nat)  (k : AV → Heap → Option β) (m : Nat) (tm : Tm) (H : Heap) : Option β :=
 iterC 191 (fun tm H k => evalCode ti0 p o56 191 n (cd c56 [1, 1, 1, 0, 1, 0, 1, 2, 1, 2, 1, 2, 1, 2, 1, 1, 0, 1, 0, 0]) tm H k) (blkK 1 (seqK (fun tm H => evalCode ti0 p o56 191 n (cd c56 [1, 1, 1, 0, 1, 0, 1, 2, 1, 2, 1, 2, 1, 2, 1, 1, 1]) tm H (blkK 0 (seqK (fun tm H => evalCode ti0 p o56 191 n (cd c56 [1, 1, 1, 1]) tm H (endK ti0 p Go.Proofs.Tryd.f56.results.toList k)) (endK ti0 p Go.Proofs.Tryd.f56.results.toList k)))) (blkK 0 (seqK (fun tm H => evalCode ti0 p o56 191 n (cd c56 [1, 1, 1, 1]) tm H (endK ti0 p Go.Proofs.Tryd.f56.results.toList k)) (endK ti0 p Go.Proofs.Tryd.f56.results.toList k))))) m tm H
noncomputable def f56_L1 (p : Pr β) (n : Nat)  (k : AV → Heap → Option β) (m : Nat) (tm : Tm) (H : Heap) : Option β :=
 iterC 191 (fun tm H k => evalCode ti0 p o56 191 n (cd c56 [1, 1, 1, 0, 1, 0, 1, 2, 1, 2, 1, 2, 1, 2, 1, 2, 1, 1, 0, 1, 0, 0]) tm H k) (blkK 3 (seqK (fun tm H => evalCode ti0 p o56 191 n (cd c56 [1, 1, 1, 0, 1, 0, 1, 2, 1, 2, 1, 2, 1, 2, 1, 2, 1, 1, 1]) tm H (blkK 0 (seqK (fun tm H => evalCode ti0 p o56 191 n (cd c56 [1, 1, 1, 1]) tm H (endK ti0 p Go.Proofs.Tryd.f56.results.toList k)) (endK ti0 p Go.Proofs.Tryd.f56.results.toList k)))) (blkK 0 (seqK (fun tm H => evalCode ti0 p o56 191 n (cd c56 [1, 1, 1, 1]) tm H (endK ti0 p Go.Proofs.Tryd.f56.results.toList k)) (endK ti0 p Go.Proofs.Tryd.f56.results.toList k))))) m tm H
noncomputable def f56_L2 (p : Pr β) (n : Nat)  (k : AV → Heap → Option β) (m : Nat) (tm : Tm) (H : Heap) : Option β :=
 iterC 191 (fun tm H k => evalCode ti0 p o56 191 n (cd c56 [1, 1, 1, 0, 1, 0, 1, 2, 1, 2, 1, 2, 1, 2, 1, 2, 1, 2, 1, 1, 0, 1, 0, 0]) tm H k) (blkK 5 (seqK (fun tm H => evalCode ti0 p o56 191 n (cd c56 [1, 1, 1, 0, 1, 0, 1, 2, 1, 2, 1, 2, 1, 2, 1, 2, 1, 2, 1, 1, 1]) tm H (blkK 0 (seqK (fun tm H => evalCode ti0 p o56 191 n (cd c56 [1, 1, 1, 1]) tm H (endK ti0 p Go.Proofs.Tryd.f56.results.toList k)) (endK ti0 p Go.Proofs.Tryd.f56.results.toList k)))) (blkK 0 (seqK (fun tm H => evalCode ti0 p o56 191 n (cd c56 [1, 1, 1, 1]) tm H (endK ti0 p Go.Proofs.Tryd.f56.results.toList k)) (endK ti0 p Go.Proofs.Tryd.f56.results.toList k))))) m tm H
theorem f56_L0_step (p : Pr β) (n : Nat)  (k : AV → Heap → Option β) (m0 : Nat) (t : Nat → AV) (H : Heap) : f56_L0 p n  k (m0 + 1) (tf 191 0 t) H =
 p.fadr 22 (t 1) fun t105 =>
 p.load false 1 t105 H fun t106 =>
 p.len t106 fun t107 =>
 p.bin .lss (t 4) t107 fun t108 =>
 p.cond t108
 (p.fadr 22 (t 1) fun t111 =>
 p.load false 1 t111 H fun t112 =>
 p.iadr 2 t112 (t 4) fun t114 =>
 p.fadr 0 t114 fun t115 =>
 p.load false 1 t115 H fun t116 =>
 p.call 4 (.fn 80 [] []) [t116] H fun t117 H =>
 p.un .not t117 fun t118 =>
 p.guard t118 false H (fun k' => p.fadr 22 (t 1) fun t' => k' t' H) fun t120 H =>
 p.guard t118 false H (fun k' => p.load false 1 t120 H fun t' => k' t' H) fun t121 H =>
 p.guard t118 false H (fun k' => k' (t 4) H) fun t122 H =>
 p.guard t118 false H (fun k' => p.iadr 2 t121 t122 fun t' => k' t' H) fun t123 H =>
 p.guard t118 false H (fun k' => p.fadr 1 t123 fun t' => k' t' H) fun t124 H =>
 p.guard t118 false H (fun k' => p.load false 1 t124 H fun t' => k' t' H) fun t125 H =>
 p.guard t118 false H (fun k' => p.call 4 (.fn 53 [] []) [t125, (.sc (.int .i64 0)), (.sc (.int .i64 2))] H fun t' H => k' t' H) fun t126 H =>
 p.guard t118 false H (fun k' => p.un .not t126 fun t' => k' t' H) fun t127 H =>
 p.pick t118 (.sc (.bool true)) t127 fun t128 =>
 p.cond t128
 (k (.sc (.bool false)) H)
 (p.bin .add (t 4) (.sc (.int .i64 1)) fun t110 =>
 f56_L0 p n  k m0 (tf 191 0 (ud [(4, t110), (104, (t 4)), (105, t105), (106, t106), (107, t107), (108, t108), (109, (t 4)), (110, t110), (111, t111), (112, t112), (113, (t 4)), (114, t114), (115, t115), (116, t116), (117, t117), (118, t118), (119, t118), (120, t120), (121, t121), (122, t122), (123, t123), (124, t124), (125, t125), (126, t126), (127, t127), (128, t128)] t)) H))
 (p.guard (t 3) true H (fun k' => p.fadr 22 (t 1) fun t' => k' t' H) fun t131 H =>
 p.guard (t 3) true H (fun k' => p.load false 1 t131 H fun t' => k' t' H) fun t132 H =>
 p.guard (t 3) true H (fun k' => p.len t132 fun t' => k' t' H) fun t133 H =>
 p.guard (t 3) true H (fun k' => p.call 4 (.fn 53 [] []) [t133, (.sc (.int .i64 1)), (.sc (.int .i64 4))] H fun t' H => k' t' H) fun t134 H =>
 p.pick (t 3) t134 (.sc (.bool false)) fun t135 =>
 k t135 H) := by kernel_rfl
theorem f56_l0_eq (p : Pr β) (n : Nat)  (k : AV → Heap → Option β)   (m0 : Nat) : ∀ (t : Nat → AV) (H : Heap), f56_L0 p n  k m0 (tf 191 0 t) H = f56_l0 p n  k m0 (t 1) (t 3) (t 4) H := by
 induction m0 with
 | zero => intros; rfl
 | succ m0 ih =>
  intro t H
  rw [f56_L0_step]
  simp only [ih]
  kernel_rfl
theorem f56_L1_step (p : Pr β) (n : Nat)  (k : AV → Heap → Option β) (m1 : Nat) (t : Nat → AV) (H : Heap) : f56_L1 p n  k (m1 + 1) (tf 191 0 t) H =
 p.fadr 24 (t 1) fun t139 =>
 p.load false 1 t139 H fun t140 =>
 p.len t140 fun t141 =>
 p.bin .lss (t 5) t141 fun t142 =>
 p.cond t142
 (p.fadr 24 (t 1) fun t145 =>
 p.load false 1 t145 H fun t146 =>
 p.iadr 1 t146 (t 5) fun t148 =>
 p.load false 1 t148 H fun t149 =>
 p.call 4 (.fn 53 [] []) [t149, (.sc (.int .i64 0)), (.sc (.int .i64 2))] H fun t150 H =>
 p.un .not t150 fun t151 =>
 p.guard t151 true H (fun k' => p.fadr 24 (t 1) fun t' => k' t' H) fun t153 H =>
 p.guard t151 true H (fun k' => p.load false 1 t153 H fun t' => k' t' H) fun t154 H =>
 p.guard t151 true H (fun k' => k' (t 5) H) fun t155 H =>
 p.guard t151 true H (fun k' => p.iadr 1 t154 t155 fun t' => k' t' H) fun t156 H =>
 p.guard t151 true H (fun k' => p.load false 1 t156 H fun t' => k' t' H) fun t157 H =>
 p.guard t151 true H (fun k' => p.bin .neq t157 (.sc (.int .i64 128)) fun t' => k' t' H) fun t158 H =>
 p.pick t151 t158 (.sc (.bool false)) fun t159 =>
 p.cond t159
 (k (.sc (.bool false)) H)
 (p.bin .add (t 5) (.sc (.int .i64 1)) fun t144 =>
 f56_L1 p n  k m1 (tf 191 0 (ud [(5, t144), (138, (t 5)), (139, t139), (140, t140), (141, t141), (142, t142), (143, (t 5)), (144, t144), (145, t145), (146, t146), (147, (t 5)), (148, t148), (149, t149), (150, t150), (151, t151), (152, t151), (153, t153), (154, t154), (155, t155), (156, t156), (157, t157), (158, t158), (159, t159)] t)) H))
 (p.guard (t 3) true H (fun k' => p.fadr 24 (t 1) fun t' => k' t' H) fun t162 H =>
 p.guard (t 3) true H (fun k' => p.load false 1 t162 H fun t' => k' t' H) fun t163 H =>
 p.guard (t 3) true H (fun k' => p.len t163 fun t' => k' t' H) fun t164 H =>
 p.guard (t 3) true H (fun k' => p.call 4 (.fn 53 [] []) [t164, (.sc (.int .i64 1)), (.sc (.int .i64 4))] H fun t' H => k' t' H) fun t165 H =>
 p.pick (t 3) t165 (.sc (.bool false)) fun t166 =>
 k t166 H) := by kernel_rfl
theorem f56_l1_eq (p : Pr β) (n : Nat)  (k : AV → Heap → Option β)   (m1 : Nat) : ∀ (t : Nat → AV) (H : Heap), f56_L1 p n  k m1 (tf 191 0 t) H = f56_l1 p n  k m1 (t 1) (t 3) (t 5) H := by
 induction m1 with
 | zero => intros; rfl
 | succ m1 ih =>
  intro t H
  rw [f56_L1_step]
  simp only [ih, f56_l0_eq p n  k  ]
  kernel_rfl
theorem f56_L2_step (p : Pr β) (n : Nat)  (k : AV → Heap → Option β) (m2 : Nat) (t : Nat → AV) (H : Heap) : f56_L2 p n  k (m2 + 1) (tf 191 0 t) H =
 p.fadr 23 (t 1) fun t170 =>
 p.load false 1 t170 H fun t171 =>
 p.len t171 fun t172 =>
 p.bin .lss (t 6) t172 fun t173 =>
 p.cond t173
 (p.fadr 23 (t 1) fun t176 =>
 p.load false 1 t176 H fun t177 =>
 p.iadr 1 t177 (t 6) fun t179 =>
 p.load false 1 t179 H fun t180 =>
 p.call 4 (.fn 80 [] []) [t180] H fun t181 H =>
 p.un .not t181 fun t182 =>
 p.cond t182
 (k (.sc (.bool false)) H)
 (p.bin .add (t 6) (.sc (.int .i64 1)) fun t175 =>
 f56_L2 p n  k m2 (tf 191 0 (ud [(6, t175), (169, (t 6)), (170, t170), (171, t171), (172, t172), (173, t173), (174, (t 6)), (175, t175), (176, t176), (177, t177), (178, (t 6)), (179, t179), (180, t180), (181, t181), (182, t182)] t)) H))
 (p.guard (t 3) true H (fun k' => p.fadr 23 (t 1) fun t' => k' t' H) fun t185 H =>
 p.guard (t 3) true H (fun k' => p.load false 1 t185 H fun t' => k' t' H) fun t186 H =>
 p.guard (t 3) true H (fun k' => p.len t186 fun t' => k' t' H) fun t187 H =>
 p.guard (t 3) true H (fun k' => p.call 4 (.fn 53 [] []) [t187, (.sc (.int .i64 1)), (.sc (.int .i64 4))] H fun t' H => k' t' H) fun t188 H =>
 p.pick (t 3) t188 (.sc (.bool false)) fun t189 =>
 k t189 H) := by kernel_rfl
theorem f56_l2_eq (p : Pr β) (n : Nat)  (k : AV → Heap → Option β)   (m2 : Nat) : ∀ (t : Nat → AV) (H : Heap), f56_L2 p n  k m2 (tf 191 0 t) H = f56_l2 p n  k m2 (t 1) (t 3) (t 6) H := by
 induction m2 with
 | zero => intros; rfl
 | succ m2 ih =>
  intro t H
  rw [f56_L2_step]
  simp only [ih, f56_l0_eq p n  k  , f56_l1_eq p n  k  ]
  kernel_rfl
theorem f56_raw (p : Pr β) (n : Nat) (a0 : AV) (H : Heap) (k : AV → Heap → Option β) : evalBody ti0 p n ⟨c56, 191, Go.Proofs.Tryd.f56.results.toList, o56⟩ [a0] H k =
 p.box a0 H fun t1 H =>
 p.fadr 0 t1 fun t7 =>
 p.load false 1 t7 H fun t8 =>
 p.call 4 (.fn 53 [] []) [t8, (.sc (.int .i64 1)), (.sc (.int .i64 14))] H fun t9 H =>
 p.un .not t9 fun t10 =>
 p.guard t10 false H (fun k' => p.load true 25 t1 H fun t' => k' t' H) fun t13 H =>
 p.both
 (p.guard t10 false H (fun k' => p.load true 25 t1 H fun t' => k' t' H) fun t12 H =>
 p.guard t10 false H (fun k' => p.call 27 (.fn 79 [] []) [t13] H fun t' H => k' t' H) fun t14 H =>
 p.guard t10 false H (fun k' => p.call 4 (.fn 78 [] []) [t12, t14] H fun t' H => k' t' H) fun t15 H =>
 p.guard t10 false H (fun k' => p.un .not t15 fun t' => k' t' H) fun t16 H =>
 p.pick t10 (.sc (.bool true)) t16 fun t17 =>
 p.cond t17
 (k (.sc (.bool false)) H)
 (p.fadr 4 t1 fun t18 =>
 p.load false 1 t18 H fun t19 =>
 p.call 4 (.fn 53 [] []) [t19, (.sc (.int .i64 1)), (.sc (.int .i64 65535))] H fun t20 H =>
 p.fadr 0 t1 fun t21 =>
 p.load false 1 t21 H fun t22 =>
 p.bin .eql t22 (.sc (.int .i64 1)) fun t24 =>
 p.cond t24
 (p.fadr 11 t1 fun t25 =>
 p.load false 1 t25 H fun t26 =>
 p.guard t26 true H (fun k' => p.fadr 12 t1 fun t' => k' t' H) fun t28 H =>
 p.guard t26 true H (fun k' => p.load false 1 t28 H fun t' => k' t' H) fun t29 H =>
 p.guard t26 true H (fun k' => p.call 4 (.fn 52 [] []) [t29] H fun t' H => k' t' H) fun t30 H =>
 p.guard t26 true H (fun k' => p.un .not t30 fun t' => k' t' H) fun t31 H =>
 p.guard t26 true H (fun k' => k' t31 H) fun t32 H =>
 p.guard t32 false H (fun k' => p.fadr 13 t1 fun t' => k' t' H) fun t33 H =>
 p.guard t32 false H (fun k' => p.load false 1 t33 H fun t' => k' t' H) fun t34 H =>
 p.guard t32 false H (fun k' => p.len t34 fun t' => k' t' H) fun t35 H =>
 p.guard t32 false H (fun k' => p.bin .gtr t35 (.sc (.int .i64 40)) fun t' => k' t' H) fun t36 H =>
 p.guard t26 true H (fun k' => p.pick t32 (.sc (.bool true)) t36 fun t' => k' t' H) fun t37 H =>
 p.guard t26 true H (fun k' => k' t37 H) fun t38 H =>
 p.guard t38 false H (fun k' => p.fadr 14 t1 fun t' => k' t' H) fun t39 H =>
 p.guard t38 false H (fun k' => p.load false 1 t39 H fun t' => k' t' H) fun t40 H =>
 p.guard t38 false H (fun k' => p.call 4 (.fn 53 [] []) [t40, (.sc (.int .i64 0)), (.sc (.int .i64 2))] H fun t' H => k' t' H) fun t41 H =>
 p.guard t38 false H (fun k' => p.un .not t41 fun t' => k' t' H) fun t42 H =>
 p.guard t26 true H (fun k' => p.pick t38 (.sc (.bool true)) t42 fun t' => k' t' H) fun t43 H =>
 p.pick t26 t43 (.sc (.bool false)) fun t44 =>
 p.cond t44
 (k (.sc (.bool false)) H)
 (p.fadr 8 t1 fun t45 =>
 p.load false 1 t45 H fun t46 =>
 p.call 4 (.fn 53 [] []) [t46, (.sc (.int .i64 0)), (.sc (.int .i64 255))] H fun t47 H =>
 p.guard t47 true H (fun k' => p.fadr 7 t1 fun t' => k' t' H) fun t49 H =>
 p.guard t47 true H (fun k' => p.load false 1 t49 H fun t' => k' t' H) fun t50 H =>
 p.guard t47 true H (fun k' => p.call 4 (.fn 74 [] []) [t50] H fun t' H => k' t' H) fun t51 H =>
 p.pick t47 t51 (.sc (.bool false)) fun t52 =>
 p.guard t52 true H (fun k' => p.fadr 10 t1 fun t' => k' t' H) fun t54 H =>
 p.guard t52 true H (fun k' => p.load false 1 t54 H fun t' => k' t' H) fun t55 H =>
 p.guard t52 true H (fun k' => p.call 4 (.fn 53 [] []) [t55, (.sc (.int .i64 0)), (.sc (.int .i64 65535))] H fun t' H => k' t' H) fun t56 H =>
 p.pick t52 t56 (.sc (.bool false)) fun t57 =>
 p.guard t57 true H (fun k' => p.fadr 17 t1 fun t' => k' t' H) fun t59 H =>
 p.guard t57 true H (fun k' => p.load false 1 t59 H fun t' => k' t' H) fun t60 H =>
 p.guard t57 true H (fun k' => p.call 4 (.fn 74 [] []) [t60] H fun t' H => k' t' H) fun t61 H =>
 p.pick t57 t61 (.sc (.bool false)) fun t62 =>
 p.guard t62 true H (fun k' => p.fadr 19 t1 fun t' => k' t' H) fun t64 H =>
 p.guard t62 true H (fun k' => p.load false 1 t64 H fun t' => k' t' H) fun t65 H =>
 p.guard t62 true H (fun k' => p.len t65 fun t' => k' t' H) fun t66 H =>
 p.guard t62 true H (fun k' => p.bin .leq t66 (.sc (.int .i64 60)) fun t' => k' t' H) fun t67 H =>
 p.pick t62 t67 (.sc (.bool false)) fun t68 =>
 k t68 H))
 (p.bin .eql t22 (.sc (.int .i64 2)) fun t70 =>
 p.cond t70
 (p.fadr 20 t1 fun t71 =>
 p.load false 1 t71 H fun t72 =>
 p.call 4 (.fn 53 [] []) [t72, (.sc (.int .i64 0)), (.sc (.int .i64 5))] H fun t73 H =>
 k t73 H)
 (p.bin .eql t22 (.sc (.int .i64 3)) fun t75 =>
 p.cond t75
 (p.fadr 2 t1 fun t76 =>
 p.load false 1 t76 H fun t77 =>
 p.call 4 (.fn 53 [] []) [t77, (.sc (.int .i64 0)), (.sc (.int .i64 2))] H fun t78 H =>
 p.guard t78 true H (fun k' => p.fadr 2 t1 fun t' => k' t' H) fun t80 H =>
 p.guard t78 true H (fun k' => p.load false 1 t80 H fun t' => k' t' H) fun t81 H =>
 p.guard t78 true H (fun k' => p.bin .eql t81 (.sc (.int .i64 0)) fun t' => k' t' H) fun t82 H =>
 p.guard t78 true H (fun k' => k' t82 H) fun t83 H =>
 p.guard t83 false H (fun k' => k' t20 H) fun t84 H =>
 p.guard t78 true H (fun k' => p.pick t83 (.sc (.bool true)) t84 fun t' => k' t' H) fun t85 H =>
 p.pick t78 t85 (.sc (.bool false)) fun t86 =>
 p.guard t86 true H (fun k' => p.fadr 5 t1 fun t' => k' t' H) fun t88 H =>
 p.guard t86 true H (fun k' => p.load false 1 t88 H fun t' => k' t' H) fun t89 H =>
 p.guard t86 true H (fun k' => p.call 4 (.fn 52 [] []) [t89] H fun t' H => k' t' H) fun t90 H =>
 p.pick t86 t90 (.sc (.bool false)) fun t91 =>
 p.guard t91 true H (fun k' => p.fadr 6 t1 fun t' => k' t' H) fun t93 H =>
 p.guard t91 true H (fun k' => p.load false 1 t93 H fun t' => k' t' H) fun t94 H =>
 p.guard t91 true H (fun k' => p.len t94 fun t' => k' t' H) fun t95 H =>
 p.guard t91 true H (fun k' => p.bin .leq t95 (.sc (.int .i64 40)) fun t' => k' t' H) fun t96 H =>
 p.pick t91 t96 (.sc (.bool false)) fun t97 =>
 k t97 H)
 (p.bin .eql t22 (.sc (.int .i64 12)) fun t99 =>
 letJ (fun (t : Nat → AV) (H : Heap) => p.cond (t 98)
 (k (.sc (.bool true)) H)
 (p.bin .eql (t 22) (.sc (.int .i64 8)) fun t103 =>
 p.cond t103
 (f56_L0 p n  k n (tf 191 0 (ud [(4, (.sc (.int .i64 0))), (102, t103), (103, t103)] t)) H)
 (p.bin .eql (t 22) (.sc (.int .i64 9)) fun t137 =>
 p.cond t137
 (f56_L1 p n  k n (tf 191 0 (ud [(5, (.sc (.int .i64 0))), (102, t103), (103, t103), (136, t137), (137, t137)] t)) H)
 (p.bin .eql (t 22) (.sc (.int .i64 10)) fun t168 =>
 p.cond t168
 (f56_L2 p n  k n (tf 191 0 (ud [(6, (.sc (.int .i64 0))), (102, t103), (103, t103), (136, t137), (137, t137), (167, t168), (168, t168)] t)) H)
 (k (t 3) H))))) fun j1 =>
 p.cond t99
 (j1 (ud [(0, a0), (1, t1), (2, (.sc (.bool false))), (3, t20), (7, t7), (8, t8), (9, t9), (10, t10), (11, t10), (12, t12), (13, t13), (14, t14), (15, t15), (16, t16), (17, t17), (18, t18), (19, t19), (20, t20), (21, t21), (22, t22), (23, t24), (24, t24), (69, t70), (70, t70), (74, t75), (75, t75), (98, t99), (99, t99)] ut) H)
 (p.bin .eql t22 (.sc (.int .i64 13)) fun t100 =>
 p.cond t100
 (j1 (ud [(0, a0), (1, t1), (2, (.sc (.bool false))), (3, t20), (7, t7), (8, t8), (9, t9), (10, t10), (11, t10), (12, t12), (13, t13), (14, t14), (15, t15), (16, t16), (17, t17), (18, t18), (19, t19), (20, t20), (21, t21), (22, t22), (23, t24), (24, t24), (69, t70), (70, t70), (74, t75), (75, t75), (98, t100), (99, t99), (100, t100)] ut) H)
 (p.bin .eql t22 (.sc (.int .i64 14)) fun t101 =>
 j1 (ud [(0, a0), (1, t1), (2, (.sc (.bool false))), (3, t20), (7, t7), (8, t8), (9, t9), (10, t10), (11, t10), (12, t12), (13, t13), (14, t14), (15, t15), (16, t16), (17, t17), (18, t18), (19, t19), (20, t20), (21, t21), (22, t22), (23, t24), (24, t24), (69, t70), (70, t70), (74, t75), (75, t75), (98, t101), (99, t99), (100, t100), (101, t101)] ut) H)))))))
 (p.guard t10 false H (fun k' => p.call 27 (.fn 79 [] []) [t13] H fun t' H => k' t' H) fun t14 H =>
 p.guard t10 false H (fun k' => p.load true 25 t1 H fun t' => k' t' H) fun t12 H =>
 p.guard t10 false H (fun k' => p.call 4 (.fn 78 [] []) [t12, t14] H fun t' H => k' t' H) fun t15 H =>
 p.guard t10 false H (fun k' => p.un .not t15 fun t' => k' t' H) fun t16 H =>
 p.pick t10 (.sc (.bool true)) t16 fun t17 =>
 p.cond t17
 (k (.sc (.bool false)) H)
 (p.fadr 4 t1 fun t18 =>
 p.load false 1 t18 H fun t19 =>
 p.call 4 (.fn 53 [] []) [t19, (.sc (.int .i64 1)), (.sc (.int .i64 65535))] H fun t20 H =>
 p.fadr 0 t1 fun t21 =>
 p.load false 1 t21 H fun t22 =>
 p.bin .eql t22 (.sc (.int .i64 1)) fun t24 =>
 p.cond t24
 (p.fadr 11 t1 fun t25 =>
 p.load false 1 t25 H fun t26 =>
 p.guard t26 true H (fun k' => p.fadr 12 t1 fun t' => k' t' H) fun t28 H =>
 p.guard t26 true H (fun k' => p.load false 1 t28 H fun t' => k' t' H) fun t29 H =>
 p.guard t26 true H (fun k' => p.call 4 (.fn 52 [] []) [t29] H fun t' H => k' t' H) fun t30 H =>
 p.guard t26 true H (fun k' => p.un .not t30 fun t' => k' t' H) fun t31 H =>
 p.guard t26 true H (fun k' => k' t31 H) fun t32 H =>
 p.guard t32 false H (fun k' => p.fadr 13 t1 fun t' => k' t' H) fun t33 H =>
 p.guard t32 false H (fun k' => p.load false 1 t33 H fun t' => k' t' H) fun t34 H =>
 p.guard t32 false H (fun k' => p.len t34 fun t' => k' t' H) fun t35 H =>
 p.guard t32 false H (fun k' => p.bin .gtr t35 (.sc (.int .i64 40)) fun t' => k' t' H) fun t36 H =>
 p.guard t26 true H (fun k' => p.pick t32 (.sc (.bool true)) t36 fun t' => k' t' H) fun t37 H =>
 p.guard t26 true H (fun k' => k' t37 H) fun t38 H =>
 p.guard t38 false H (fun k' => p.fadr 14 t1 fun t' => k' t' H) fun t39 H =>
 p.guard t38 false H (fun k' => p.load false 1 t39 H fun t' => k' t' H) fun t40 H =>
 p.guard t38 false H (fun k' => p.call 4 (.fn 53 [] []) [t40, (.sc (.int .i64 0)), (.sc (.int .i64 2))] H fun t' H => k' t' H) fun t41 H =>
 p.guard t38 false H (fun k' => p.un .not t41 fun t' => k' t' H) fun t42 H =>
 p.guard t26 true H (fun k' => p.pick t38 (.sc (.bool true)) t42 fun t' => k' t' H) fun t43 H =>
 p.pick t26 t43 (.sc (.bool false)) fun t44 =>
 p.cond t44
 (k (.sc (.bool false)) H)
 (p.fadr 8 t1 fun t45 =>
 p.load false 1 t45 H fun t46 =>
 p.call 4 (.fn 53 [] []) [t46, (.sc (.int .i64 0)), (.sc (.int .i64 255))] H fun t47 H =>
 p.guard t47 true H (fun k' => p.fadr 7 t1 fun t' => k' t' H) fun t49 H =>
 p.guard t47 true H (fun k' => p.load false 1 t49 H fun t' => k' t' H) fun t50 H =>
 p.guard t47 true H (fun k' => p.call 4 (.fn 74 [] []) [t50] H fun t' H => k' t' H) fun t51 H =>
 p.pick t47 t51 (.sc (.bool false)) fun t52 =>
 p.guard t52 true H (fun k' => p.fadr 10 t1 fun t' => k' t' H) fun t54 H =>
 p.guard t52 true H (fun k' => p.load false 1 t54 H fun t' => k' t' H) fun t55 H =>
 p.guard t52 true H (fun k' => p.call 4 (.fn 53 [] []) [t55, (.sc (.int .i64 0)), (.sc (.int .i64 65535))] H fun t' H => k' t' H) fun t56 H =>
 p.pick t52 t56 (.sc (.bool false)) fun t57 =>
 p.guard t57 true H (fun k' => p.fadr 17 t1 fun t' => k' t' H) fun t59 H =>
 p.guard t57 true H (fun k' => p.load false 1 t59 H fun t' => k' t' H) fun t60 H =>
 p.guard t57 true H (fun k' => p.call 4 (.fn 74 [] []) [t60] H fun t' H => k' t' H) fun t61 H =>
 p.pick t57 t61 (.sc (.bool false)) fun t62 =>
 p.guard t62 true H (fun k' => p.fadr 19 t1 fun t' => k' t' H) fun t64 H =>
 p.guard t62 true H (fun k' => p.load false 1 t64 H fun t' => k' t' H) fun t65 H =>
 p.guard t62 true H (fun k' => p.len t65 fun t' => k' t' H) fun t66 H =>
 p.guard t62 true H (fun k' => p.bin .leq t66 (.sc (.int .i64 60)) fun t' => k' t' H) fun t67 H =>
 p.pick t62 t67 (.sc (.bool false)) fun t68 =>
 k t68 H))
 (p.bin .eql t22 (.sc (.int .i64 2)) fun t70 =>
 p.cond t70
 (p.fadr 20 t1 fun t71 =>
 p.load false 1 t71 H fun t72 =>
 p.call 4 (.fn 53 [] []) [t72, (.sc (.int .i64 0)), (.sc (.int .i64 5))] H fun t73 H =>
 k t73 H)
 (p.bin .eql t22 (.sc (.int .i64 3)) fun t75 =>
 p.cond t75
 (p.fadr 2 t1 fun t76 =>
 p.load false 1 t76 H fun t77 =>
 p.call 4 (.fn 53 [] []) [t77, (.sc (.int .i64 0)), (.sc (.int .i64 2))] H fun t78 H =>
 p.guard t78 true H (fun k' => p.fadr 2 t1 fun t' => k' t' H) fun t80 H =>
 p.guard t78 true H (fun k' => p.load false 1 t80 H fun t' => k' t' H) fun t81 H =>
 p.guard t78 true H (fun k' => p.bin .eql t81 (.sc (.int .i64 0)) fun t' => k' t' H) fun t82 H =>
 p.guard t78 true H (fun k' => k' t82 H) fun t83 H =>
 p.guard t83 false H (fun k' => k' t20 H) fun t84 H =>
 p.guard t78 true H (fun k' => p.pick t83 (.sc (.bool true)) t84 fun t' => k' t' H) fun t85 H =>
 p.pick t78 t85 (.sc (.bool false)) fun t86 =>
 p.guard t86 true H (fun k' => p.fadr 5 t1 fun t' => k' t' H) fun t88 H =>
 p.guard t86 true H (fun k' => p.load false 1 t88 H fun t' => k' t' H) fun t89 H =>
 p.guard t86 true H (fun k' => p.call 4 (.fn 52 [] []) [t89] H fun t' H => k' t' H) fun t90 H =>
 p.pick t86 t90 (.sc (.bool false)) fun t91 =>
 p.guard t91 true H (fun k' => p.fadr 6 t1 fun t' => k' t' H) fun t93 H =>
 p.guard t91 true H (fun k' => p.load false 1 t93 H fun t' => k' t' H) fun t94 H =>
 p.guard t91 true H (fun k' => p.len t94 fun t' => k' t' H) fun t95 H =>
 p.guard t91 true H (fun k' => p.bin .leq t95 (.sc (.int .i64 40)) fun t' => k' t' H) fun t96 H =>
 p.pick t91 t96 (.sc (.bool false)) fun t97 =>
 k t97 H)
 (p.bin .eql t22 (.sc (.int .i64 12)) fun t99 =>
 letJ (fun (t : Nat → AV) (H : Heap) => p.cond (t 98)
 (k (.sc (.bool true)) H)
 (p.bin .eql (t 22) (.sc (.int .i64 8)) fun t103 =>
 p.cond t103
 (f56_L0 p n  k n (tf 191 0 (ud [(4, (.sc (.int .i64 0))), (102, t103), (103, t103)] t)) H)
 (p.bin .eql (t 22) (.sc (.int .i64 9)) fun t137 =>
 p.cond t137
 (f56_L1 p n  k n (tf 191 0 (ud [(5, (.sc (.int .i64 0))), (102, t103), (103, t103), (136, t137), (137, t137)] t)) H)
 (p.bin .eql (t 22) (.sc (.int .i64 10)) fun t168 =>
 p.cond t168
 (f56_L2 p n  k n (tf 191 0 (ud [(6, (.sc (.int .i64 0))), (102, t103), (103, t103), (136, t137), (137, t137), (167, t168), (168, t168)] t)) H)
 (k (t 3) H))))) fun j2 =>
 p.cond t99
 (j2 (ud [(0, a0), (1, t1), (2, (.sc (.bool false))), (3, t20), (7, t7), (8, t8), (9, t9), (10, t10), (11, t10), (12, t12), (13, t13), (14, t14), (15, t15), (16, t16), (17, t17), (18, t18), (19, t19), (20, t20), (21, t21), (22, t22), (23, t24), (24, t24), (69, t70), (70, t70), (74, t75), (75, t75), (98, t99), (99, t99)] ut) H)
 (p.bin .eql t22 (.sc (.int .i64 13)) fun t100 =>
 p.cond t100
 (j2 (ud [(0, a0), (1, t1), (2, (.sc (.bool false))), (3, t20), (7, t7), (8, t8), (9, t9), (10, t10), (11, t10), (12, t12), (13, t13), (14, t14), (15, t15), (16, t16), (17, t17), (18, t18), (19, t19), (20, t20), (21, t21), (22, t22), (23, t24), (24, t24), (69, t70), (70, t70), (74, t75), (75, t75), (98, t100), (99, t99), (100, t100)] ut) H)
 (p.bin .eql t22 (.sc (.int .i64 14)) fun t101 =>
 j2 (ud [(0, a0), (1, t1), (2, (.sc (.bool false))), (3, t20), (7, t7), (8, t8), (9, t9), (10, t10), (11, t10), (12, t12), (13, t13), (14, t14), (15, t15), (16, t16), (17, t17), (18, t18), (19, t19), (20, t20), (21, t21), (22, t22), (23, t24), (24, t24), (69, t70), (70, t70), (74, t75), (75, t75), (98, t101), (99, t99), (100, t100), (101, t101)] ut) H))))))) := by kernel_rfl
theorem f56_body (p : Pr β) (n : Nat) (a0 : AV) (H : Heap) (k : AV → Heap → Option β) : evalBody ti0 p n ⟨c56, 191, Go.Proofs.Tryd.f56.results.toList, o56⟩ [a0] H k = f56 p n a0 H k := by
 rw [f56_raw]
 simp only [f56_l0_eq, f56_l1_eq, f56_l2_eq]
 kernel_rfl
noncomputable def f27 (p : Pr β) (n : Nat) (a0 a1 : AV) (H : Heap) (k : AV → Heap → Option β) : Option β :=
 p.new [(.sc (.int .i64 0)), (.sc (.bool false)), (.sc (.int .i64 0)), (.sc (.bool false)), (.sc (.int .i64 0)), (.sc (.string ⟨#[]⟩)), .nl, (.sc (.string ⟨#[]⟩)), (.sc (.int .i64 0)), (.sc (.bool false)), (.sc (.int .i64 0)), (.sc (.bool false)), (.sc (.string ⟨#[]⟩)), .nl, (.sc (.int .i64 0)), (.sc (.bool false)), (.sc (.bool false)), (.sc (.string ⟨#[]⟩)), (.sc (.bool false)), .nl, (.sc (.int .i64 0)), (.sc (.bool false)), .nl, .nl, .nl] H fun t4 H =>
 p.fill [(.sc (.int .i64 0)), (.sc (.bool false)), (.sc (.int .i64 0)), (.sc (.bool false)), (.sc (.int .i64 0)), (.sc (.string ⟨#[]⟩)), .nl, (.sc (.string ⟨#[]⟩)), (.sc (.int .i64 0)), (.sc (.bool false)), (.sc (.int .i64 0)), (.sc (.bool false)), (.sc (.string ⟨#[]⟩)), .nl, (.sc (.int .i64 0)), (.sc (.bool false)), (.sc (.bool false)), (.sc (.string ⟨#[]⟩)), (.sc (.bool false)), .nl, (.sc (.int .i64 0)), (.sc (.bool false)), .nl, .nl, .nl] [(0, 1, a0), (4, 1, a1)] fun ct8 =>
 p.new [(.sc (.int .i64 0)), (.sc (.bool false)), (.sc (.int .i64 0)), (.sc (.bool false)), (.sc (.int .i64 0)), (.sc (.string ⟨#[]⟩)), .nl, (.sc (.string ⟨#[]⟩)), (.sc (.int .i64 0)), (.sc (.bool false)), (.sc (.int .i64 0)), (.sc (.bool false)), (.sc (.string ⟨#[]⟩)), .nl, (.sc (.int .i64 0)), (.sc (.bool false)), (.sc (.bool false)), (.sc (.string ⟨#[]⟩)), (.sc (.bool false)), .nl, (.sc (.int .i64 0)), (.sc (.bool false)), .nl, .nl, .nl] H fun t5 H =>
 p.store 25 t5 (.agg ct8) H fun H =>
 p.call 4 (.fn 53 [] []) [a0, (.sc (.int .i64 4)), (.sc (.int .i64 7))] H fun t10 H =>
 p.un .not t10 fun t11 =>
 p.guard t11 true H (fun k' => k' a0 H) fun t13 H =>
 p.guard t11 true H (fun k' => p.bin .neq t13 (.sc (.int .i64 11)) fun t' => k' t' H) fun t14 H =>
 p.pick t11 t14 (.sc (.bool false)) fun t15 =>
 p.guard t15 false H (fun k' => p.load true 25 t5 H fun t' => k' t' H) fun t17 H =>
 p.guard t15 false H (fun k' => p.call 4 (.fn 56 [] []) [t17] H fun t' H => k' t' H) fun t18 H =>
 p.guard t15 false H (fun k' => p.un .not t18 fun t' => k' t' H) fun t19 H =>
 p.pick t15 (.sc (.bool true)) t19 fun t20 =>
 p.cond t20
 (p.fill [(.sc (.int .i64 0)), (.sc (.bool false)), (.sc (.int .i64 0)), (.sc (.bool false)), (.sc (.int .i64 0)), (.sc (.string ⟨#[]⟩)), .nl, (.sc (.string ⟨#[]⟩)), (.sc (.int .i64 0)), (.sc (.bool false)), (.sc (.int .i64 0)), (.sc (.bool false)), (.sc (.string ⟨#[]⟩)), .nl, (.sc (.int .i64 0)), (.sc (.bool false)), (.sc (.bool false)), (.sc (.string ⟨#[]⟩)), (.sc (.bool false)), .nl, (.sc (.int .i64 0)), (.sc (.bool false)), .nl, .nl, .nl] [] fun ct21 =>
 p.store 25 t4 (.agg ct21) H fun H =>
 p.load true 25 t4 H fun r0 =>
 k r0 H)
 (p.load true 25 t5 H fun t22 =>
 p.store 25 t4 t22 H fun H =>
 p.load true 25 t4 H fun r0 =>
 k r0 H)
theorem f27_body (p : Pr β) (n : Nat) (a0 a1 : AV) (H : Heap) (k : AV → Heap → Option β) : evalBody ti0 p n ⟨c27, 23, Go.Proofs.Tryd.f27.results.toList, o27⟩ [a0, a1] H k = f27 p n a0 a1 H k := by kernel_rfl
noncomputable def f5_l0 (p : Pr β) (n : Nat)  (k : AV → Heap → Option β) : Nat → AV → AV → AV → AV → AV → Heap → Option β
 | 0, _, _, _, _, _, _ => none
 | m + 1, t0, t1, t5, t6, t7, H => p.len t0 fun t19 =>
   p.bin .lss t7 t19 fun t20 =>
   p.cond t20
   (p.iadr 1 t0 t7 fun t25 =>
   p.load false 1 t25 H fun t26 =>
   p.bin .neq t26 t1 fun t28 =>
   p.cond t28
   (p.iadr 1 t0 t7 fun t32 =>
   p.load false 1 t32 H fun t33 =>
   p.fill [(.sc (.int .i64 0))] [(0, 1, t33)] fun ct34 => p.newSl 1 1 ct34 true H fun t34 H =>
   p.app 1 8 t6 t34 H fun t35 H =>
   p.bin .add t7 (.sc (.int .i64 1)) fun t22 =>
   f5_l0 p n  k m t0 t1 t5 t35 t22 H)
   (p.bin .add t7 (.sc (.int .i64 1)) fun t22 =>
   f5_l0 p n  k m t0 t1 t5 t6 t22 H))
   (p.call 27 (.fn 27 [] []) [(.sc (.int .i64 7)), t1] H fun t38 H =>
   p.store 25 t5 t38 H fun H =>
   p.load true 25 t5 H fun r1 =>
   k (packA [t6, r1]) H)
noncomputable def f5 (p : Pr β) (n : Nat) (a0 a1 : AV) (H : Heap) (k : AV → Heap → Option β) : Option β :=
 p.new [(.sc (.int .i64 0)), (.sc (.bool false)), (.sc (.int .i64 0)), (.sc (.bool false)), (.sc (.int .i64 0)), (.sc (.string ⟨#[]⟩)), .nl, (.sc (.string ⟨#[]⟩)), (.sc (.int .i64 0)), (.sc (.bool false)), (.sc (.int .i64 0)), (.sc (.bool false)), (.sc (.string ⟨#[]⟩)), .nl, (.sc (.int .i64 0)), (.sc (.bool false)), (.sc (.bool false)), (.sc (.string ⟨#[]⟩)), (.sc (.bool false)), .nl, (.sc (.int .i64 0)), (.sc (.bool false)), .nl, .nl, .nl] H fun t5 H =>
 p.call 4 (.fn 26 [] []) [a0] H fun t10 H =>
 p.un .not t10 fun t11 =>
 p.cond t11
 (p.app 1 8 .nl a0 H fun t14 H =>
 p.call 27 (.fn 27 [] []) [(.sc (.int .i64 7)), a1] H fun t16 H =>
 p.store 25 t5 t16 H fun H =>
 p.load true 25 t5 H fun r1 =>
 k (packA [t14, r1]) H)
 (f5_l0 p n  k n a0 a1 t5 .nl (.sc (.int .i64 0)) H)
noncomputable def f5_L0 (p : Pr β) (n : Nat)  (k : AV → Heap → Option β) (m : Nat) (tm : Tm) (H : Heap) : Option β :=
 iterC 39 (fun tm H k => evalCode ti0 p o5 39 n (cd c5 [1, 1, 1, 0, 1, 0, 0]) tm H k) (blkK 0 (seqK (fun tm H => evalCode ti0 p o5 39 n (cd c5 [1, 1, 1, 1]) tm H (endK ti0 p Go.Proofs.Tryd.f5.results.toList k)) (endK ti0 p Go.Proofs.Tryd.f5.results.toList k))) m tm H
theorem f5_L0_step (p : Pr β) (n : Nat)  (k : AV → Heap → Option β) (m0 : Nat) (t : Nat → AV) (H : Heap) : f5_L0 p n  k (m0 + 1) (tf 39 0 t) H =
 p.len (t 0) fun t19 =>
 p.bin .lss (t 7) t19 fun t20 =>
 p.cond t20
 (p.iadr 1 (t 0) (t 7) fun t25 =>
 p.load false 1 t25 H fun t26 =>
 p.bin .neq t26 (t 1) fun t28 =>
 p.cond t28
 (p.iadr 1 (t 0) (t 7) fun t32 =>
 p.load false 1 t32 H fun t33 =>
 p.fill [(.sc (.int .i64 0))] [(0, 1, t33)] fun ct34 => p.newSl 1 1 ct34 true H fun t34 H =>
 p.app 1 8 (t 6) t34 H fun t35 H =>
 p.bin .add (t 7) (.sc (.int .i64 1)) fun t22 =>
 f5_L0 p n  k m0 (tf 39 0 (ud [(6, t35), (7, t22), (17, (t 7)), (18, (t 0)), (19, t19), (20, t20), (21, (t 7)), (22, t22), (23, (t 0)), (24, (t 7)), (25, t25), (26, t26), (27, (t 1)), (28, t28), (29, (t 6)), (30, (t 0)), (31, (t 7)), (32, t32), (33, t33), (34, t34), (35, t35)] t)) H)
 (p.bin .add (t 7) (.sc (.int .i64 1)) fun t22 =>
 f5_L0 p n  k m0 (tf 39 0 (ud [(7, t22), (17, (t 7)), (18, (t 0)), (19, t19), (20, t20), (21, (t 7)), (22, t22), (23, (t 0)), (24, (t 7)), (25, t25), (26, t26), (27, (t 1)), (28, t28)] t)) H))
 (p.call 27 (.fn 27 [] []) [(.sc (.int .i64 7)), (t 1)] H fun t38 H =>
 p.store 25 (t 5) t38 H fun H =>
 p.load true 25 (t 5) H fun r1 =>
 k (packA [(t 6), r1]) H) := by kernel_rfl
theorem f5_l0_eq (p : Pr β) (n : Nat)  (k : AV → Heap → Option β)   (m0 : Nat) : ∀ (t : Nat → AV) (H : Heap), f5_L0 p n  k m0 (tf 39 0 t) H = f5_l0 p n  k m0 (t 0) (t 1) (t 5) (t 6) (t 7) H := by
 induction m0 with
 | zero => intros; rfl
 | succ m0 ih =>
  intro t H
  rw [f5_L0_step]
  simp only [ih]
  kernel_rfl
theorem f5_raw (p : Pr β) (n : Nat) (a0 a1 : AV) (H : Heap) (k : AV → Heap → Option β) : evalBody ti0 p n ⟨c5, 39, Go.Proofs.Tryd.f5.results.toList, o5⟩ [a0, a1] H k =
 p.new [(.sc (.int .i64 0)), (.sc (.bool false)), (.sc (.int .i64 0)), (.sc (.bool false)), (.sc (.int .i64 0)), (.sc (.string ⟨#[]⟩)), .nl, (.sc (.string ⟨#[]⟩)), (.sc (.int .i64 0)), (.sc (.bool false)), (.sc (.int .i64 0)), (.sc (.bool false)), (.sc (.string ⟨#[]⟩)), .nl, (.sc (.int .i64 0)), (.sc (.bool false)), (.sc (.bool false)), (.sc (.string ⟨#[]⟩)), (.sc (.bool false)), .nl, (.sc (.int .i64 0)), (.sc (.bool false)), .nl, .nl, .nl] H fun t5 H =>
 p.call 4 (.fn 26 [] []) [a0] H fun t10 H =>
 p.un .not t10 fun t11 =>
 p.cond t11
 (p.app 1 8 .nl a0 H fun t14 H =>
 p.call 27 (.fn 27 [] []) [(.sc (.int .i64 7)), a1] H fun t16 H =>
 p.store 25 t5 t16 H fun H =>
 p.load true 25 t5 H fun r1 =>
 k (packA [t14, r1]) H)
 (f5_L0 p n  k n (tf 39 0 (ud [(0, a0), (1, a1), (4, .nl), (5, t5), (6, .nl), (7, (.sc (.int .i64 0))), (8, .nl), (9, a0), (10, t10), (11, t11)] ut)) H) := by kernel_rfl
theorem f5_body (p : Pr β) (n : Nat) (a0 a1 : AV) (H : Heap) (k : AV → Heap → Option β) : evalBody ti0 p n ⟨c5, 39, Go.Proofs.Tryd.f5.results.toList, o5⟩ [a0, a1] H k = f5 p n a0 a1 H k := by
 rw [f5_raw]
 simp only [f5_l0_eq]
 kernel_rfl
noncomputable def f28 (p : Pr β) (n : Nat) (a0 : AV) (H : Heap) (k : AV → Heap → Option β) : Option β :=
 p.app 1 8 .nl a0 H fun t5 H =>
 k t5 H
theorem f28_body (p : Pr β) (n : Nat) (a0 : AV) (H : Heap) (k : AV → Heap → Option β) : evalBody ti0 p n ⟨c28, 6, Go.Proofs.Tryd.f28.results.toList, o28⟩ [a0] H k = f28 p n a0 H k := by kernel_rfl
noncomputable def f59 (p : Pr β) (n : Nat) (a0 a1 a2 : AV) (H : Heap) (k : AV → Heap → Option β) : Option β :=
 p.bin .geq a0 a1 fun t9 =>
 p.guard t9 true H (fun k' => k' a0 H) fun t11 H =>
 p.guard t9 true H (fun k' => k' a2 H) fun t12 H =>
 p.guard t9 true H (fun k' => p.bin .leq t11 t12 fun t' => k' t' H) fun t13 H =>
 p.pick t9 t13 (.sc (.bool false)) fun t14 =>
 k t14 H
theorem f59_body (p : Pr β) (n : Nat) (a0 a1 a2 : AV) (H : Heap) (k : AV → Heap → Option β) : evalBody ti0 p n ⟨c59, 15, Go.Proofs.Tryd.f59.results.toList, o59⟩ [a0, a1, a2] H k = f59 p n a0 a1 a2 H k := by kernel_rfl
noncomputable def f57 (p : Pr β) (n : Nat) (a0 : AV) (H : Heap) (k : AV → Heap → Option β) : Option β :=
 p.call 4 (.fn 59 [] []) [a0, (.sc (.int .i64 1)), (.sc (.int .i64 65535))] H fun t4 H =>
 k t4 H
theorem f57_body (p : Pr β) (n : Nat) (a0 : AV) (H : Heap) (k : AV → Heap → Option β) : evalBody ti0 p n ⟨c57, 5, Go.Proofs.Tryd.f57.results.toList, o57⟩ [a0] H k = f57 p n a0 H k := by kernel_rfl
noncomputable def f29_l0 (p : Pr β) (n : Nat)  (k : AV → Heap → Option β) : Nat → AV → AV → AV → AV → Heap → Option β
 | 0, _, _, _, _, _ => none
 | m + 1, t0, t5, t6, t7, H => p.bin .lss t7 t6 fun t8 =>
   p.cond t8
   (p.iadr 1 t5 t7 fun t10 =>
   p.load false 1 t10 H fun t11 =>
   p.call 4 (.fn 57 [] []) [t11] H fun t13 H =>
   p.un .not t13 fun t14 =>
   p.guard t14 false H (fun k' => k' t7 H) fun t16 H =>
   p.guard t14 false H (fun k' => p.bin .gtr t16 (.sc (.int .i64 0)) fun t' => k' t' H) fun t17 H =>
   p.guard t14 false H (fun k' => k' t17 H) fun t18 H =>
   p.guard t18 true H (fun k' => k' t0 H) fun t19 H =>
   p.guard t18 true H (fun k' => k' t7 H) fun t20 H =>
   p.guard t18 true H (fun k' => p.bin .sub t20 (.sc (.int .i64 1)) fun t' => k' t' H) fun t21 H =>
   p.guard t18 true H (fun k' => p.iadr 1 t19 t21 fun t' => k' t' H) fun t22 H =>
   p.guard t18 true H (fun k' => p.load false 1 t22 H fun t' => k' t' H) fun t23 H =>
   p.guard t18 true H (fun k' => k' t11 H) fun t24 H =>
   p.guard t18 true H (fun k' => p.bin .geq t23 t24 fun t' => k' t' H) fun t25 H =>
   p.guard t14 false H (fun k' => p.pick t18 t25 (.sc (.bool false)) fun t' => k' t' H) fun t26 H =>
   p.pick t14 (.sc (.bool true)) t26 fun t27 =>
   p.cond t27
   (k (.sc (.bool false)) H)
   (p.bin .add t7 (.sc (.int .i64 1)) fun t28 =>
   f29_l0 p n  k m t0 t5 t6 t28 H))
   (p.len t0 fun t30 =>
   p.bin .leq t30 (.sc (.int .i64 4)) fun t31 =>
   k t31 H)
noncomputable def f29 (p : Pr β) (n : Nat) (a0 : AV) (H : Heap) (k : AV → Heap → Option β) : Option β :=
 p.len a0 fun t6 =>
 f29_l0 p n  k n a0 a0 t6 (.sc (.int .i64 0)) H
noncomputable def f29_L0 (p : Pr β) (n : Nat)  (k : AV → Heap → Option β) (m : Nat) (tm : Tm) (H : Heap) : Option β :=
 iterC 32 (fun tm H k => evalCode ti0 p o29 32 n (cd c29 [1, 0, 1, 0, 0]) tm H k) (blkK 0 (seqK (fun tm H => evalCode ti0 p o29 32 n (cd c29 [1, 1]) tm H (endK ti0 p Go.Proofs.Tryd.f29.results.toList k)) (endK ti0 p Go.Proofs.Tryd.f29.results.toList k))) m tm H
theorem f29_L0_step (p : Pr β) (n : Nat)  (k : AV → Heap → Option β) (m0 : Nat) (t : Nat → AV) (H : Heap) : f29_L0 p n  k (m0 + 1) (tf 32 0 t) H =
 p.bin .lss (t 7) (t 6) fun t8 =>
 p.cond t8
 (p.iadr 1 (t 5) (t 7) fun t10 =>
 p.load false 1 t10 H fun t11 =>
 p.call 4 (.fn 57 [] []) [t11] H fun t13 H =>
 p.un .not t13 fun t14 =>
 p.guard t14 false H (fun k' => k' (t 7) H) fun t16 H =>
 p.guard t14 false H (fun k' => p.bin .gtr t16 (.sc (.int .i64 0)) fun t' => k' t' H) fun t17 H =>
 p.guard t14 false H (fun k' => k' t17 H) fun t18 H =>
 p.guard t18 true H (fun k' => k' (t 0) H) fun t19 H =>
 p.guard t18 true H (fun k' => k' (t 7) H) fun t20 H =>
 p.guard t18 true H (fun k' => p.bin .sub t20 (.sc (.int .i64 1)) fun t' => k' t' H) fun t21 H =>
 p.guard t18 true H (fun k' => p.iadr 1 t19 t21 fun t' => k' t' H) fun t22 H =>
 p.guard t18 true H (fun k' => p.load false 1 t22 H fun t' => k' t' H) fun t23 H =>
 p.guard t18 true H (fun k' => k' t11 H) fun t24 H =>
 p.guard t18 true H (fun k' => p.bin .geq t23 t24 fun t' => k' t' H) fun t25 H =>
 p.guard t14 false H (fun k' => p.pick t18 t25 (.sc (.bool false)) fun t' => k' t' H) fun t26 H =>
 p.pick t14 (.sc (.bool true)) t26 fun t27 =>
 p.cond t27
 (k (.sc (.bool false)) H)
 (p.bin .add (t 7) (.sc (.int .i64 1)) fun t28 =>
 f29_L0 p n  k m0 (tf 32 0 (ud [(3, (t 7)), (4, t11), (7, t28), (8, t8), (9, (t 7)), (10, t10), (11, t11), (12, t11), (13, t13), (14, t14), (15, t14), (16, t16), (17, t17), (18, t18), (19, t19), (20, t20), (21, t21), (22, t22), (23, t23), (24, t24), (25, t25), (26, t26), (27, t27), (28, t28)] t)) H))
 (p.len (t 0) fun t30 =>
 p.bin .leq t30 (.sc (.int .i64 4)) fun t31 =>
 k t31 H) := by kernel_rfl
theorem f29_l0_eq (p : Pr β) (n : Nat)  (k : AV → Heap → Option β)   (m0 : Nat) : ∀ (t : Nat → AV) (H : Heap), f29_L0 p n  k m0 (tf 32 0 t) H = f29_l0 p n  k m0 (t 0) (t 5) (t 6) (t 7) H := by
 induction m0 with
 | zero => intros; rfl
 | succ m0 ih =>
  intro t H
  rw [f29_L0_step]
  simp only [ih]
  kernel_rfl
theorem f29_raw (p : Pr β) (n : Nat) (a0 : AV) (H : Heap) (k : AV → Heap → Option β) : evalBody ti0 p n ⟨c29, 32, Go.Proofs.Tryd.f29.results.toList, o29⟩ [a0] H k =
 p.len a0 fun t6 =>
 f29_L0 p n  k n (tf 32 0 (ud [(0, a0), (2, (.sc (.bool false))), (5, a0), (6, t6), (7, (.sc (.int .i64 0)))] ut)) H := by kernel_rfl
theorem f29_body (p : Pr β) (n : Nat) (a0 : AV) (H : Heap) (k : AV → Heap → Option β) : evalBody ti0 p n ⟨c29, 32, Go.Proofs.Tryd.f29.results.toList, o29⟩ [a0] H k = f29 p n a0 H k := by
 rw [f29_raw]
 simp only [f29_l0_eq]
 kernel_rfl
noncomputable def f31 (p : Pr β) (n : Nat) (a0 a1 : AV) (H : Heap) (k : AV → Heap → Option β) : Option β :=
 p.load false 1 a1 H fun t5 =>
 p.bin .eql a0 t5 fun t6 =>
 k t6 H
theorem f31_body (p : Pr β) (n : Nat) (a0 a1 : AV) (H : Heap) (k : AV → Heap → Option β) : evalBody ti0 p n ⟨c31, 7, Go.Proofs.Tryd.f31.results.toList, o31⟩ [a0, a1] H k = f31 p n a0 a1 H k := by kernel_rfl
noncomputable def f58_l0 (p : Pr β) (n : Nat)  (k : AV → Heap → Option β) : Nat → AV → AV → AV → AV → Heap → Option β
 | 0, _, _, _, _, _ => none
 | m + 1, t0, t1, t7, t8, H => p.bin .lss t8 t7 fun t9 =>
   p.cond t9
   (p.iadr 1 t0 t8 fun t14 =>
   p.load false 1 t14 H fun t15 =>
   p.call 4 t1 [t15] H fun t16 H =>
   p.cond t16
   (k t8 H)
   (p.bin .add t8 (.sc (.int .i64 1)) fun t18 =>
   f58_l0 p n  k m t0 t1 t7 t18 H))
   (k (.sc (.int .i64 (-1))) H)
noncomputable def f58 (p : Pr β) (n : Nat) (a0 a1 : AV) (H : Heap) (k : AV → Heap → Option β) : Option β :=
 p.len a0 fun t7 =>
 f58_l0 p n  k n a0 a1 t7 (.sc (.int .i64 0)) H
noncomputable def f58_L0 (p : Pr β) (n : Nat)  (k : AV → Heap → Option β) (m : Nat) (tm : Tm) (H : Heap) : Option β :=
 iterC 19 (fun tm H k => evalCode ti0 p o58 19 n (cd c58 [1, 0, 1, 0, 0]) tm H k) (blkK 0 (seqK (fun tm H => evalCode ti0 p o58 19 n (cd c58 [1, 1]) tm H (endK ti0 p Go.Proofs.Tryd.f58.results.toList k)) (endK ti0 p Go.Proofs.Tryd.f58.results.toList k))) m tm H
theorem f58_L0_step (p : Pr β) (n : Nat)  (k : AV → Heap → Option β) (m0 : Nat) (t : Nat → AV) (H : Heap) : f58_L0 p n  k (m0 + 1) (tf 19 0 t) H =
 p.bin .lss (t 8) (t 7) fun t9 =>
 p.cond t9
 (p.iadr 1 (t 0) (t 8) fun t14 =>
 p.load false 1 t14 H fun t15 =>
 p.call 4 (t 1) [t15] H fun t16 H =>
 p.cond t16
 (k (t 8) H)
 (p.bin .add (t 8) (.sc (.int .i64 1)) fun t18 =>
 f58_L0 p n  k m0 (tf 19 0 (ud [(5, (t 8)), (8, t18), (9, t9), (10, (t 8)), (11, (t 1)), (12, (t 0)), (13, (t 8)), (14, t14), (15, t15), (16, t16), (18, t18)] t)) H))
 (k (.sc (.int .i64 (-1))) H) := by kernel_rfl
theorem f58_l0_eq (p : Pr β) (n : Nat)  (k : AV → Heap → Option β)   (m0 : Nat) : ∀ (t : Nat → AV) (H : Heap), f58_L0 p n  k m0 (tf 19 0 t) H = f58_l0 p n  k m0 (t 0) (t 1) (t 7) (t 8) H := by
 induction m0 with
 | zero => intros; rfl
 | succ m0 ih =>
  intro t H
  rw [f58_L0_step]
  simp only [ih]
  kernel_rfl
theorem f58_raw (p : Pr β) (n : Nat) (a0 a1 : AV) (H : Heap) (k : AV → Heap → Option β) : evalBody ti0 p n ⟨c58, 19, Go.Proofs.Tryd.f58.results.toList, o58⟩ [a0, a1] H k =
 p.len a0 fun t7 =>
 f58_L0 p n  k n (tf 19 0 (ud [(0, a0), (1, a1), (4, (.sc (.int .i64 0))), (6, a0), (7, t7), (8, (.sc (.int .i64 0)))] ut)) H := by kernel_rfl
theorem f58_body (p : Pr β) (n : Nat) (a0 a1 : AV) (H : Heap) (k : AV → Heap → Option β) : evalBody ti0 p n ⟨c58, 19, Go.Proofs.Tryd.f58.results.toList, o58⟩ [a0, a1] H k = f58 p n a0 a1 H k := by
 rw [f58_raw]
 simp only [f58_l0_eq]
 kernel_rfl
noncomputable def f30_l0 (p : Pr β) (n : Nat)  (k : AV → Heap → Option β) : Nat → AV → AV → AV → AV → Heap → Option β
 | 0, _, _, _, _, _ => none
 | m + 1, t0, t1, t5, t6, H => p.len t0 fun t18 =>
   p.bin .lss t6 t18 fun t19 =>
   p.cond t19
   (p.iadr 1 t0 t6 fun t24 =>
   p.load false 1 t24 H fun t25 =>
   p.call 4 t1 [t25] H fun t28 H =>
   p.un .not t28 fun t29 =>
   p.cond t29
   (p.iadr 1 t0 t5 fun t33 =>
   p.store 1 t33 t25 H fun H =>
   p.bin .add t5 (.sc (.int .i64 1)) fun t35 =>
   p.bin .add t6 (.sc (.int .i64 1)) fun t21 =>
   f30_l0 p n  k m t0 t1 t35 t21 H)
   (p.bin .add t6 (.sc (.int .i64 1)) fun t21 =>
   f30_l0 p n  k m t0 t1 t5 t21 H))
   (p.slice 1 t0 (some t5) none fun t38 =>
   p.clear 1 [(.sc (.int .i64 0))] t38 H fun H =>
   p.slice 1 t0 none (some t5) fun t41 =>
   k t41 H)
noncomputable def f30 (p : Pr β) (n : Nat) (a0 a1 : AV) (H : Heap) (k : AV → Heap → Option β) : Option β :=
 p.call 3 (.fn 58 [] []) [a0, a1] H fun t10 H =>
 p.bin .eql t10 (.sc (.int .i64 (-1))) fun t12 =>
 p.cond t12
 (k a0 H)
 (p.bin .add t10 (.sc (.int .i64 1)) fun t15 =>
 f30_l0 p n  k n a0 a1 t10 t15 H)
noncomputable def f30_L0 (p : Pr β) (n : Nat)  (k : AV → Heap → Option β) (m : Nat) (tm : Tm) (H : Heap) : Option β :=
 iterC 42 (fun tm H k => evalCode ti0 p o30 42 n (cd c30 [1, 1, 1, 0, 1, 0, 0]) tm H k) (blkK 0 (seqK (fun tm H => evalCode ti0 p o30 42 n (cd c30 [1, 1, 1, 1]) tm H (endK ti0 p Go.Proofs.Tryd.f30.results.toList k)) (endK ti0 p Go.Proofs.Tryd.f30.results.toList k))) m tm H
theorem f30_L0_step (p : Pr β) (n : Nat)  (k : AV → Heap → Option β) (m0 : Nat) (t : Nat → AV) (H : Heap) : f30_L0 p n  k (m0 + 1) (tf 42 0 t) H =
 p.len (t 0) fun t18 =>
 p.bin .lss (t 6) t18 fun t19 =>
 p.cond t19
 (p.iadr 1 (t 0) (t 6) fun t24 =>
 p.load false 1 t24 H fun t25 =>
 p.call 4 (t 1) [t25] H fun t28 H =>
 p.un .not t28 fun t29 =>
 p.cond t29
 (p.iadr 1 (t 0) (t 5) fun t33 =>
 p.store 1 t33 t25 H fun H =>
 p.bin .add (t 5) (.sc (.int .i64 1)) fun t35 =>
 p.bin .add (t 6) (.sc (.int .i64 1)) fun t21 =>
 f30_L0 p n  k m0 (tf 42 0 (ud [(5, t35), (6, t21), (7, t25), (16, (t 6)), (17, (t 0)), (18, t18), (19, t19), (20, (t 6)), (21, t21), (22, (t 0)), (23, (t 6)), (24, t24), (25, t25), (26, (t 1)), (27, t25), (28, t28), (29, t29), (30, (t 0)), (31, (t 5)), (32, t25), (33, t33), (34, (t 5)), (35, t35)] t)) H)
 (p.bin .add (t 6) (.sc (.int .i64 1)) fun t21 =>
 f30_L0 p n  k m0 (tf 42 0 (ud [(6, t21), (7, t25), (16, (t 6)), (17, (t 0)), (18, t18), (19, t19), (20, (t 6)), (21, t21), (22, (t 0)), (23, (t 6)), (24, t24), (25, t25), (26, (t 1)), (27, t25), (28, t28), (29, t29)] t)) H))
 (p.slice 1 (t 0) (some (t 5)) none fun t38 =>
 p.clear 1 [(.sc (.int .i64 0))] t38 H fun H =>
 p.slice 1 (t 0) none (some (t 5)) fun t41 =>
 k t41 H) := by kernel_rfl
theorem f30_l0_eq (p : Pr β) (n : Nat)  (k : AV → Heap → Option β)   (m0 : Nat) : ∀ (t : Nat → AV) (H : Heap), f30_L0 p n  k m0 (tf 42 0 t) H = f30_l0 p n  k m0 (t 0) (t 1) (t 5) (t 6) H := by
 induction m0 with
 | zero => intros; rfl
 | succ m0 ih =>
  intro t H
  rw [f30_L0_step]
  simp only [ih]
  kernel_rfl
theorem f30_raw (p : Pr β) (n : Nat) (a0 a1 : AV) (H : Heap) (k : AV → Heap → Option β) : evalBody ti0 p n ⟨c30, 42, Go.Proofs.Tryd.f30.results.toList, o30⟩ [a0, a1] H k =
 p.call 3 (.fn 58 [] []) [a0, a1] H fun t10 H =>
 p.bin .eql t10 (.sc (.int .i64 (-1))) fun t12 =>
 p.cond t12
 (k a0 H)
 (p.bin .add t10 (.sc (.int .i64 1)) fun t15 =>
 f30_L0 p n  k n (tf 42 0 (ud [(0, a0), (1, a1), (4, .nl), (5, t10), (6, t15), (8, a0), (9, a1), (10, t10), (11, t10), (12, t12), (14, t10), (15, t15)] ut)) H) := by kernel_rfl
theorem f30_body (p : Pr β) (n : Nat) (a0 a1 : AV) (H : Heap) (k : AV → Heap → Option β) : evalBody ti0 p n ⟨c30, 42, Go.Proofs.Tryd.f30.results.toList, o30⟩ [a0, a1] H k = f30 p n a0 a1 H k := by
 rw [f30_raw]
 simp only [f30_l0_eq]
 kernel_rfl
noncomputable def f82 (p : Pr β) (n : Nat) (a0 : AV) (H : Heap) (k : AV → Heap → Option β) : Option β :=
 p.box a0 H fun t1 H =>
 p.new [(.sc (.int .i64 0)), (.sc (.bool false)), (.sc (.int .i64 0)), (.sc (.bool false)), (.sc (.int .i64 0)), (.sc (.string ⟨#[]⟩)), .nl, (.sc (.string ⟨#[]⟩)), (.sc (.int .i64 0)), (.sc (.bool false)), (.sc (.int .i64 0)), (.sc (.bool false)), (.sc (.string ⟨#[]⟩)), .nl, (.sc (.int .i64 0)), (.sc (.bool false)), (.sc (.bool false)), (.sc (.string ⟨#[]⟩)), (.sc (.bool false)), .nl, (.sc (.int .i64 0)), (.sc (.bool false)), .nl, .nl, .nl] H fun t2 H =>
 p.fadr 0 t1 fun t4 =>
 p.load false 1 t4 H fun t5 =>
 p.fill [(.sc (.int .i64 0)), (.sc (.bool false)), (.sc (.int .i64 0)), (.sc (.bool false)), (.sc (.int .i64 0)), (.sc (.string ⟨#[]⟩)), .nl, (.sc (.string ⟨#[]⟩)), (.sc (.int .i64 0)), (.sc (.bool false)), (.sc (.int .i64 0)), (.sc (.bool false)), (.sc (.string ⟨#[]⟩)), .nl, (.sc (.int .i64 0)), (.sc (.bool false)), (.sc (.bool false)), (.sc (.string ⟨#[]⟩)), (.sc (.bool false)), .nl, (.sc (.int .i64 0)), (.sc (.bool false)), .nl, .nl, .nl] [(0, 1, t5)] fun ct6 =>
 p.new [(.sc (.int .i64 0)), (.sc (.bool false)), (.sc (.int .i64 0)), (.sc (.bool false)), (.sc (.int .i64 0)), (.sc (.string ⟨#[]⟩)), .nl, (.sc (.string ⟨#[]⟩)), (.sc (.int .i64 0)), (.sc (.bool false)), (.sc (.int .i64 0)), (.sc (.bool false)), (.sc (.string ⟨#[]⟩)), .nl, (.sc (.int .i64 0)), (.sc (.bool false)), (.sc (.bool false)), (.sc (.string ⟨#[]⟩)), (.sc (.bool false)), .nl, (.sc (.int .i64 0)), (.sc (.bool false)), .nl, .nl, .nl] H fun t3 H =>
 p.store 25 t3 (.agg ct6) H fun H =>
 p.fadr 0 t1 fun t7 =>
 p.load false 1 t7 H fun t8 =>
 p.bin .eql t8 (.sc (.int .i64 1)) fun t10 =>
 p.cond t10
 (p.fadr 7 t1 fun t11 =>
 p.load false 1 t11 H fun t12 =>
 p.fadr 8 t1 fun t13 =>
 p.fadr 9 t1 fun t15 =>
 p.fadr 10 t1 fun t17 =>
 p.fadr 11 t1 fun t19 =>
 p.fadr 16 t1 fun t21 =>
 p.fadr 7 t3 fun t23 =>
 p.apart t13 [t3] H
 (p.load false 1 t13 H fun t14 =>
 p.apart t15 [t3] H
 (p.load false 1 t15 H fun t16 =>
 p.apart t17 [t3] H
 (p.load false 1 t17 H fun t18 =>
 p.apart t19 [t3] H
 (p.load false 1 t19 H fun t20 =>
 p.apart t21 [t3] H
 (p.load false 1 t21 H fun t22 =>
 p.same t23 t3
 (p.store 1 t23 t12 H fun H =>
 p.fadr 8 t3 fun t24 =>
 p.same t24 t3
 (p.store 1 t24 t14 H fun H =>
 p.fadr 9 t3 fun t25 =>
 p.same t25 t3
 (p.store 1 t25 t16 H fun H =>
 p.fadr 10 t3 fun t26 =>
 p.same t26 t3
 (p.store 1 t26 t18 H fun H =>
 p.fadr 11 t3 fun t27 =>
 p.same t27 t3
 (p.store 1 t27 t20 H fun H =>
 p.fadr 16 t3 fun t28 =>
 p.store 1 t28 t22 H fun H =>
 p.fadr 11 t1 fun t29 =>
 p.load false 1 t29 H fun t30 =>
 letJ (fun (t1 t2 t3 : AV) (H : Heap) => p.fadr 16 t1 fun t43 =>
 p.load false 1 t43 H fun t44 =>
 letJ (fun (t1 t2 t3 : AV) (H : Heap) => p.fadr 18 t3 fun t51 =>
 p.load false 1 t51 H fun t52 =>
 p.cond t52
 (p.fadr 19 t1 fun t53 =>
 p.load false 1 t53 H fun t54 =>
 p.fadr 19 t3 fun t55 =>
 p.store 1 t55 t54 H fun H =>
 p.load true 25 t3 H fun t120 =>
 p.store 25 t2 t120 H fun H =>
 p.load true 25 t2 H fun r0 =>
 k r0 H)
 (p.load true 25 t3 H fun t120 =>
 p.store 25 t2 t120 H fun H =>
 p.load true 25 t2 H fun r0 =>
 k r0 H)) fun j2 =>
 p.cond t44
 (p.fadr 17 t1 fun t45 =>
 p.load false 1 t45 H fun t46 =>
 p.fadr 18 t1 fun t47 =>
 p.fadr 17 t3 fun t49 =>
 p.apart t47 [t3] H
 (p.load false 1 t47 H fun t48 =>
 p.same t49 t3
 (p.store 1 t49 t46 H fun H =>
 p.fadr 18 t3 fun t50 =>
 p.store 1 t50 t48 H fun H =>
 j2 t1 t2 t3 H)))
 (j2 t1 t2 t3 H)) fun j1 =>
 p.cond t30
 (p.fadr 12 t1 fun t31 =>
 p.load false 1 t31 H fun t32 =>
 p.fadr 13 t1 fun t33 =>
 p.fadr 14 t1 fun t35 =>
 p.fadr 15 t1 fun t37 =>
 p.fadr 12 t3 fun t39 =>
 p.apart t33 [t3] H
 (p.load false 1 t33 H fun t34 =>
 p.apart t35 [t3] H
 (p.load false 1 t35 H fun t36 =>
 p.apart t37 [t3] H
 (p.load false 1 t37 H fun t38 =>
 p.same t39 t3
 (p.store 1 t39 t32 H fun H =>
 p.fadr 13 t3 fun t40 =>
 p.same t40 t3
 (p.store 1 t40 t34 H fun H =>
 p.fadr 14 t3 fun t41 =>
 p.same t41 t3
 (p.store 1 t41 t36 H fun H =>
 p.fadr 15 t3 fun t42 =>
 p.store 1 t42 t38 H fun H =>
 j1 t1 t2 t3 H)))))))
 (j1 t1 t2 t3 H))))))))))))
 (p.bin .eql t8 (.sc (.int .i64 2)) fun t57 =>
 p.cond t57
 (p.fadr 20 t1 fun t58 =>
 p.load false 1 t58 H fun t59 =>
 p.fadr 21 t1 fun t60 =>
 p.fadr 20 t3 fun t62 =>
 p.apart t60 [t3] H
 (p.load false 1 t60 H fun t61 =>
 p.same t62 t3
 (p.store 1 t62 t59 H fun H =>
 p.fadr 21 t3 fun t63 =>
 p.store 1 t63 t61 H fun H =>
 p.load true 25 t3 H fun t120 =>
 p.store 25 t2 t120 H fun H =>
 p.load true 25 t2 H fun r0 =>
 k r0 H)))
 (p.bin .eql t8 (.sc (.int .i64 3)) fun t65 =>
 p.cond t65
 (p.fadr 2 t1 fun t66 =>
 p.load false 1 t66 H fun t67 =>
 p.fadr 3 t1 fun t68 =>
 p.fadr 5 t1 fun t70 =>
 p.fadr 6 t1 fun t72 =>
 p.fadr 2 t3 fun t74 =>
 p.apart t68 [t3] H
 (p.load false 1 t68 H fun t69 =>
 p.apart t70 [t3] H
 (p.load false 1 t70 H fun t71 =>
 p.apart t72 [t3] H
 (p.load false 1 t72 H fun t73 =>
 p.same t74 t3
 (p.store 1 t74 t67 H fun H =>
 p.fadr 3 t3 fun t75 =>
 p.same t75 t3
 (p.store 1 t75 t69 H fun H =>
 p.fadr 5 t3 fun t76 =>
 p.same t76 t3
 (p.store 1 t76 t71 H fun H =>
 p.fadr 6 t3 fun t77 =>
 p.store 1 t77 t73 H fun H =>
 p.fadr 2 t1 fun t78 =>
 p.load false 1 t78 H fun t79 =>
 p.bin .gtr t79 (.sc (.int .i64 0)) fun t80 =>
 p.cond t80
 (p.fadr 1 t1 fun t81 =>
 p.load false 1 t81 H fun t82 =>
 p.fadr 4 t1 fun t83 =>
 p.fadr 1 t3 fun t85 =>
 p.apart t83 [t3] H
 (p.load false 1 t83 H fun t84 =>
 p.same t85 t3
 (p.store 1 t85 t82 H fun H =>
 p.fadr 4 t3 fun t86 =>
 p.store 1 t86 t84 H fun H =>
 p.load true 25 t3 H fun t120 =>
 p.store 25 t2 t120 H fun H =>
 p.load true 25 t2 H fun r0 =>
 k r0 H)))
 (p.load true 25 t3 H fun t120 =>
 p.store 25 t2 t120 H fun H =>
 p.load true 25 t2 H fun r0 =>
 k r0 H))))))))
 (p.bin .eql t8 (.sc (.int .i64 4)) fun t88 =>
 letJ (fun (t1 t2 t3 t8 t87 : AV) (H : Heap) => p.cond t87
 (p.fadr 4 t1 fun t93 =>
 p.load false 1 t93 H fun t94 =>
 p.fadr 4 t3 fun t95 =>
 p.store 1 t95 t94 H fun H =>
 p.load true 25 t3 H fun t120 =>
 p.store 25 t2 t120 H fun H =>
 p.load true 25 t2 H fun r0 =>
 k r0 H)
 (p.bin .eql t8 (.sc (.int .i64 8)) fun t97 =>
 p.cond t97
 (p.fadr 4 t1 fun t98 =>
 p.load false 1 t98 H fun t99 =>
 p.fadr 22 t1 fun t100 =>
 p.fadr 4 t3 fun t102 =>
 p.apart t100 [t3] H
 (p.load false 1 t100 H fun t101 =>
 p.same t102 t3
 (p.store 1 t102 t99 H fun H =>
 p.fadr 22 t3 fun t103 =>
 p.store 1 t103 t101 H fun H =>
 p.load true 25 t3 H fun t120 =>
 p.store 25 t2 t120 H fun H =>
 p.load true 25 t2 H fun r0 =>
 k r0 H)))
 (p.bin .eql t8 (.sc (.int .i64 9)) fun t105 =>
 p.cond t105
 (p.fadr 4 t1 fun t106 =>
 p.load false 1 t106 H fun t107 =>
 p.fadr 24 t1 fun t108 =>
 p.fadr 4 t3 fun t110 =>
 p.apart t108 [t3] H
 (p.load false 1 t108 H fun t109 =>
 p.same t110 t3
 (p.store 1 t110 t107 H fun H =>
 p.fadr 24 t3 fun t111 =>
 p.store 1 t111 t109 H fun H =>
 p.load true 25 t3 H fun t120 =>
 p.store 25 t2 t120 H fun H =>
 p.load true 25 t2 H fun r0 =>
 k r0 H)))
 (p.bin .eql t8 (.sc (.int .i64 10)) fun t113 =>
 p.cond t113
 (p.fadr 4 t1 fun t114 =>
 p.load false 1 t114 H fun t115 =>
 p.fadr 23 t1 fun t116 =>
 p.fadr 4 t3 fun t118 =>
 p.apart t116 [t3] H
 (p.load false 1 t116 H fun t117 =>
 p.same t118 t3
 (p.store 1 t118 t115 H fun H =>
 p.fadr 23 t3 fun t119 =>
 p.store 1 t119 t117 H fun H =>
 p.load true 25 t3 H fun t120 =>
 p.store 25 t2 t120 H fun H =>
 p.load true 25 t2 H fun r0 =>
 k r0 H)))
 (p.load true 25 t3 H fun t120 =>
 p.store 25 t2 t120 H fun H =>
 p.load true 25 t2 H fun r0 =>
 k r0 H))))) fun j3 =>
 p.cond t88
 (j3 t1 t2 t3 t8 t88 H)
 (p.bin .eql t8 (.sc (.int .i64 5)) fun t89 =>
 p.cond t89
 (j3 t1 t2 t3 t8 t89 H)
 (p.bin .eql t8 (.sc (.int .i64 6)) fun t90 =>
 p.cond t90
 (j3 t1 t2 t3 t8 t90 H)
 (p.bin .eql t8 (.sc (.int .i64 7)) fun t91 =>
 p.cond t91
 (j3 t1 t2 t3 t8 t91 H)
 (p.bin .eql t8 (.sc (.int .i64 11)) fun t92 =>
 j3 t1 t2 t3 t8 t92 H)))))))
theorem f82_body (p : Pr β) (n : Nat) (a0 : AV) (H : Heap) (k : AV → Heap → Option β) : evalBody ti0 p n ⟨c82, 121, Go.Proofs.Tryd.f82.results.toList, o82⟩ [a0] H k = f82 p n a0 H k := by kernel_rfl
noncomputable def f54 (p : Pr β) (n : Nat) (a0 a1 : AV) (H : Heap) (k : AV → Heap → Option β) : Option β :=
 p.cvBS a0 H fun t6 =>
 p.cvBS a1 H fun t8 =>
 p.bin .eql t6 t8 fun t9 =>
 k t9 H
theorem f54_body (p : Pr β) (n : Nat) (a0 a1 : AV) (H : Heap) (k : AV → Heap → Option β) : evalBody ti0 p n ⟨c54, 10, Go.Proofs.Tryd.f54.results.toList, o54⟩ [a0, a1] H k = f54 p n a0 a1 H k := by kernel_rfl
noncomputable def f94_l0 (p : Pr β) (n : Nat)  (k : AV → Heap → Option β) : Nat → AV → AV → AV → AV → Heap → Option β
 | 0, _, _, _, _, _ => none
 | m + 1, t0, t1, t12, t13, H => p.bin .lss t13 t12 fun t14 =>
   p.cond t14
   (p.iadr 2 t0 t13 fun t18 =>
   p.load true 2 t18 H fun t19 =>
   p.iadr 2 t1 t13 fun t22 =>
   p.load true 2 t22 H fun t23 =>
   p.binA .neq [1, 0] t19 t23 fun t24 =>
   p.cond t24
   (k (.sc (.bool false)) H)
   (p.bin .add t13 (.sc (.int .i64 1)) fun t25 =>
   f94_l0 p n  k m t0 t1 t12 t25 H))
   (k (.sc (.bool true)) H)
noncomputable def f94 (p : Pr β) (n : Nat) (a0 a1 : AV) (H : Heap) (k : AV → Heap → Option β) : Option β :=
 p.len a0 fun t7 =>
 p.len a1 fun t9 =>
 p.bin .neq t7 t9 fun t10 =>
 p.cond t10
 (k (.sc (.bool false)) H)
 (p.len a0 fun t12 =>
 f94_l0 p n  k n a0 a1 t12 (.sc (.int .i64 0)) H)
noncomputable def f94_L0 (p : Pr β) (n : Nat)  (k : AV → Heap → Option β) (m : Nat) (tm : Tm) (H : Heap) : Option β :=
 iterC 26 (fun tm H k => evalCode ti0 p o94 26 n (cd c94 [1, 1, 0, 1, 0, 0]) tm H k) (blkK 0 (seqK (fun tm H => evalCode ti0 p o94 26 n (cd c94 [1, 1, 1]) tm H (endK ti0 p Go.Proofs.Tryd.f94.results.toList k)) (endK ti0 p Go.Proofs.Tryd.f94.results.toList k))) m tm H
theorem f94_L0_step (p : Pr β) (n : Nat)  (k : AV → Heap → Option β) (m0 : Nat) (t : Nat → AV) (H : Heap) : f94_L0 p n  k (m0 + 1) (tf 26 0 t) H =
 p.bin .lss (t 13) (t 12) fun t14 =>
 p.cond t14
 (p.iadr 2 (t 0) (t 13) fun t18 =>
 p.load true 2 t18 H fun t19 =>
 p.iadr 2 (t 1) (t 13) fun t22 =>
 p.load true 2 t22 H fun t23 =>
 p.binA .neq [1, 0] t19 t23 fun t24 =>
 p.cond t24
 (k (.sc (.bool false)) H)
 (p.bin .add (t 13) (.sc (.int .i64 1)) fun t25 =>
 f94_L0 p n  k m0 (tf 26 0 (ud [(5, (t 13)), (13, t25), (14, t14), (15, (t 13)), (16, (t 0)), (17, (t 13)), (18, t18), (19, t19), (20, (t 1)), (21, (t 13)), (22, t22), (23, t23), (24, t24), (25, t25)] t)) H))
 (k (.sc (.bool true)) H) := by kernel_rfl
theorem f94_l0_eq (p : Pr β) (n : Nat)  (k : AV → Heap → Option β)   (m0 : Nat) : ∀ (t : Nat → AV) (H : Heap), f94_L0 p n  k m0 (tf 26 0 t) H = f94_l0 p n  k m0 (t 0) (t 1) (t 12) (t 13) H := by
 induction m0 with
 | zero => intros; rfl
 | succ m0 ih =>
  intro t H
  rw [f94_L0_step]
  simp only [ih]
  kernel_rfl
theorem f94_raw (p : Pr β) (n : Nat) (a0 a1 : AV) (H : Heap) (k : AV → Heap → Option β) : evalBody ti0 p n ⟨c94, 26, Go.Proofs.Tryd.f94.results.toList, o94⟩ [a0, a1] H k =
 p.len a0 fun t7 =>
 p.len a1 fun t9 =>
 p.bin .neq t7 t9 fun t10 =>
 p.cond t10
 (k (.sc (.bool false)) H)
 (p.len a0 fun t12 =>
 f94_L0 p n  k n (tf 26 0 (ud [(0, a0), (1, a1), (4, (.sc (.bool false))), (6, a0), (7, t7), (8, a1), (9, t9), (10, t10), (11, a0), (12, t12), (13, (.sc (.int .i64 0)))] ut)) H) := by kernel_rfl
theorem f94_body (p : Pr β) (n : Nat) (a0 a1 : AV) (H : Heap) (k : AV → Heap → Option β) : evalBody ti0 p n ⟨c94, 26, Go.Proofs.Tryd.f94.results.toList, o94⟩ [a0, a1] H k = f94 p n a0 a1 H k := by
 rw [f94_raw]
 simp only [f94_l0_eq]
 kernel_rfl
noncomputable def f95_l0 (p : Pr β) (n : Nat)  (k : AV → Heap → Option β) : Nat → AV → AV → AV → AV → Heap → Option β
 | 0, _, _, _, _, _ => none
 | m + 1, t0, t1, t12, t13, H => p.bin .lss t13 t12 fun t14 =>
   p.cond t14
   (p.iadr 1 t0 t13 fun t18 =>
   p.load false 1 t18 H fun t19 =>
   p.iadr 1 t1 t13 fun t22 =>
   p.load false 1 t22 H fun t23 =>
   p.bin .neq t19 t23 fun t24 =>
   p.cond t24
   (k (.sc (.bool false)) H)
   (p.bin .add t13 (.sc (.int .i64 1)) fun t25 =>
   f95_l0 p n  k m t0 t1 t12 t25 H))
   (k (.sc (.bool true)) H)
noncomputable def f95 (p : Pr β) (n : Nat) (a0 a1 : AV) (H : Heap) (k : AV → Heap → Option β) : Option β :=
 p.len a0 fun t7 =>
 p.len a1 fun t9 =>
 p.bin .neq t7 t9 fun t10 =>
 p.cond t10
 (k (.sc (.bool false)) H)
 (p.len a0 fun t12 =>
 f95_l0 p n  k n a0 a1 t12 (.sc (.int .i64 0)) H)
noncomputable def f95_L0 (p : Pr β) (n : Nat)  (k : AV → Heap → Option β) (m : Nat) (tm : Tm) (H : Heap) : Option β :=
 iterC 26 (fun tm H k => evalCode ti0 p o95 26 n (cd c95 [1, 1, 0, 1, 0, 0]) tm H k) (blkK 0 (seqK (fun tm H => evalCode ti0 p o95 26 n (cd c95 [1, 1, 1]) tm H (endK ti0 p Go.Proofs.Tryd.f95.results.toList k)) (endK ti0 p Go.Proofs.Tryd.f95.results.toList k))) m tm H
theorem f95_L0_step (p : Pr β) (n : Nat)  (k : AV → Heap → Option β) (m0 : Nat) (t : Nat → AV) (H : Heap) : f95_L0 p n  k (m0 + 1) (tf 26 0 t) H =
 p.bin .lss (t 13) (t 12) fun t14 =>
 p.cond t14
 (p.iadr 1 (t 0) (t 13) fun t18 =>
 p.load false 1 t18 H fun t19 =>
 p.iadr 1 (t 1) (t 13) fun t22 =>
 p.load false 1 t22 H fun t23 =>
 p.bin .neq t19 t23 fun t24 =>
 p.cond t24
 (k (.sc (.bool false)) H)
 (p.bin .add (t 13) (.sc (.int .i64 1)) fun t25 =>
 f95_L0 p n  k m0 (tf 26 0 (ud [(5, (t 13)), (13, t25), (14, t14), (15, (t 13)), (16, (t 0)), (17, (t 13)), (18, t18), (19, t19), (20, (t 1)), (21, (t 13)), (22, t22), (23, t23), (24, t24), (25, t25)] t)) H))
 (k (.sc (.bool true)) H) := by kernel_rfl
theorem f95_l0_eq (p : Pr β) (n : Nat)  (k : AV → Heap → Option β)   (m0 : Nat) : ∀ (t : Nat → AV) (H : Heap), f95_L0 p n  k m0 (tf 26 0 t) H = f95_l0 p n  k m0 (t 0) (t 1) (t 12) (t 13) H := by
 induction m0 with
 | zero => intros; rfl
 | succ m0 ih =>
  intro t H
  rw [f95_L0_step]
  simp only [ih]
  kernel_rfl
theorem f95_raw (p : Pr β) (n : Nat) (a0 a1 : AV) (H : Heap) (k : AV → Heap → Option β) : evalBody ti0 p n ⟨c95, 26, Go.Proofs.Tryd.f95.results.toList, o95⟩ [a0, a1] H k =
 p.len a0 fun t7 =>
 p.len a1 fun t9 =>
 p.bin .neq t7 t9 fun t10 =>
 p.cond t10
 (k (.sc (.bool false)) H)
 (p.len a0 fun t12 =>
 f95_L0 p n  k n (tf 26 0 (ud [(0, a0), (1, a1), (4, (.sc (.bool false))), (6, a0), (7, t7), (8, a1), (9, t9), (10, t10), (11, a0), (12, t12), (13, (.sc (.int .i64 0)))] ut)) H) := by kernel_rfl
theorem f95_body (p : Pr β) (n : Nat) (a0 a1 : AV) (H : Heap) (k : AV → Heap → Option β) : evalBody ti0 p n ⟨c95, 26, Go.Proofs.Tryd.f95.results.toList, o95⟩ [a0, a1] H k = f95 p n a0 a1 H k := by
 rw [f95_raw]
 simp only [f95_l0_eq]
 kernel_rfl
noncomputable def f96_l0 (p : Pr β) (n : Nat)  (k : AV → Heap → Option β) : Nat → AV → AV → AV → AV → Heap → Option β
 | 0, _, _, _, _, _ => none
 | m + 1, t0, t1, t12, t13, H => p.bin .lss t13 t12 fun t14 =>
   p.cond t14
   (p.iadr 1 t0 t13 fun t18 =>
   p.load false 1 t18 H fun t19 =>
   p.iadr 1 t1 t13 fun t22 =>
   p.load false 1 t22 H fun t23 =>
   p.bin .neq t19 t23 fun t24 =>
   p.cond t24
   (k (.sc (.bool false)) H)
   (p.bin .add t13 (.sc (.int .i64 1)) fun t25 =>
   f96_l0 p n  k m t0 t1 t12 t25 H))
   (k (.sc (.bool true)) H)
noncomputable def f96 (p : Pr β) (n : Nat) (a0 a1 : AV) (H : Heap) (k : AV → Heap → Option β) : Option β :=
 p.len a0 fun t7 =>
 p.len a1 fun t9 =>
 p.bin .neq t7 t9 fun t10 =>
 p.cond t10
 (k (.sc (.bool false)) H)
 (p.len a0 fun t12 =>
 f96_l0 p n  k n a0 a1 t12 (.sc (.int .i64 0)) H)
noncomputable def f96_L0 (p : Pr β) (n : Nat)  (k : AV → Heap → Option β) (m : Nat) (tm : Tm) (H : Heap) : Option β :=
 iterC 26 (fun tm H k => evalCode ti0 p o96 26 n (cd c96 [1, 1, 0, 1, 0, 0]) tm H k) (blkK 0 (seqK (fun tm H => evalCode ti0 p o96 26 n (cd c96 [1, 1, 1]) tm H (endK ti0 p Go.Proofs.Tryd.f96.results.toList k)) (endK ti0 p Go.Proofs.Tryd.f96.results.toList k))) m tm H
theorem f96_L0_step (p : Pr β) (n : Nat)  (k : AV → Heap → Option β) (m0 : Nat) (t : Nat → AV) (H : Heap) : f96_L0 p n  k (m0 + 1) (tf 26 0 t) H =
 p.bin .lss (t 13) (t 12) fun t14 =>
 p.cond t14
 (p.iadr 1 (t 0) (t 13) fun t18 =>
 p.load false 1 t18 H fun t19 =>
 p.iadr 1 (t 1) (t 13) fun t22 =>
 p.load false 1 t22 H fun t23 =>
 p.bin .neq t19 t23 fun t24 =>
 p.cond t24
 (k (.sc (.bool false)) H)
 (p.bin .add (t 13) (.sc (.int .i64 1)) fun t25 =>
 f96_L0 p n  k m0 (tf 26 0 (ud [(5, (t 13)), (13, t25), (14, t14), (15, (t 13)), (16, (t 0)), (17, (t 13)), (18, t18), (19, t19), (20, (t 1)), (21, (t 13)), (22, t22), (23, t23), (24, t24), (25, t25)] t)) H))
 (k (.sc (.bool true)) H) := by kernel_rfl
theorem f96_l0_eq (p : Pr β) (n : Nat)  (k : AV → Heap → Option β)   (m0 : Nat) : ∀ (t : Nat → AV) (H : Heap), f96_L0 p n  k m0 (tf 26 0 t) H = f96_l0 p n  k m0 (t 0) (t 1) (t 12) (t 13) H := by
 induction m0 with
 | zero => intros; rfl
 | succ m0 ih =>
  intro t H
  rw [f96_L0_step]
  simp only [ih]
  kernel_rfl
theorem f96_raw (p : Pr β) (n : Nat) (a0 a1 : AV) (H : Heap) (k : AV → Heap → Option β) : evalBody ti0 p n ⟨c96, 26, Go.Proofs.Tryd.f96.results.toList, o96⟩ [a0, a1] H k =
 p.len a0 fun t7 =>
 p.len a1 fun t9 =>
 p.bin .neq t7 t9 fun t10 =>
 p.cond t10
 (k (.sc (.bool false)) H)
 (p.len a0 fun t12 =>
 f96_L0 p n  k n (tf 26 0 (ud [(0, a0), (1, a1), (4, (.sc (.bool false))), (6, a0), (7, t7), (8, a1), (9, t9), (10, t10), (11, a0), (12, t12), (13, (.sc (.int .i64 0)))] ut)) H) := by kernel_rfl
theorem f96_body (p : Pr β) (n : Nat) (a0 a1 : AV) (H : Heap) (k : AV → Heap → Option β) : evalBody ti0 p n ⟨c96, 26, Go.Proofs.Tryd.f96.results.toList, o96⟩ [a0, a1] H k = f96 p n a0 a1 H k := by
 rw [f96_raw]
 simp only [f96_l0_eq]
 kernel_rfl
noncomputable def f81 (p : Pr β) (n : Nat) (a0 a1 : AV) (H : Heap) (k : AV → Heap → Option β) : Option β :=
 p.box a0 H fun t2 H =>
 p.box a1 H fun t3 H =>
 p.fadr 0 t2 fun t9 =>
 p.load false 1 t9 H fun t10 =>
 p.fadr 0 t3 fun t11 =>
 p.load false 1 t11 H fun t12 =>
 p.bin .eql t10 t12 fun t13 =>
 p.guard t13 true H (fun k' => p.fadr 1 t2 fun t' => k' t' H) fun t15 H =>
 p.guard t13 true H (fun k' => p.load false 1 t15 H fun t' => k' t' H) fun t16 H =>
 p.guard t13 true H (fun k' => p.fadr 1 t3 fun t' => k' t' H) fun t17 H =>
 p.guard t13 true H (fun k' => p.load false 1 t17 H fun t' => k' t' H) fun t18 H =>
 p.guard t13 true H (fun k' => p.binB .eql t16 t18 fun t' => k' t' H) fun t19 H =>
 p.pick t13 t19 (.sc (.bool false)) fun t20 =>
 p.guard t20 true H (fun k' => p.fadr 2 t2 fun t' => k' t' H) fun t22 H =>
 p.guard t20 true H (fun k' => p.load false 1 t22 H fun t' => k' t' H) fun t23 H =>
 p.guard t20 true H (fun k' => p.fadr 2 t3 fun t' => k' t' H) fun t24 H =>
 p.guard t20 true H (fun k' => p.load false 1 t24 H fun t' => k' t' H) fun t25 H =>
 p.guard t20 true H (fun k' => p.bin .eql t23 t25 fun t' => k' t' H) fun t26 H =>
 p.pick t20 t26 (.sc (.bool false)) fun t27 =>
 p.guard t27 true H (fun k' => p.fadr 3 t2 fun t' => k' t' H) fun t29 H =>
 p.guard t27 true H (fun k' => p.load false 1 t29 H fun t' => k' t' H) fun t30 H =>
 p.guard t27 true H (fun k' => p.fadr 3 t3 fun t' => k' t' H) fun t31 H =>
 p.guard t27 true H (fun k' => p.load false 1 t31 H fun t' => k' t' H) fun t32 H =>
 p.guard t27 true H (fun k' => p.binB .eql t30 t32 fun t' => k' t' H) fun t33 H =>
 p.pick t27 t33 (.sc (.bool false)) fun t34 =>
 p.guard t34 true H (fun k' => p.fadr 4 t2 fun t' => k' t' H) fun t36 H =>
 p.guard t34 true H (fun k' => p.load false 1 t36 H fun t' => k' t' H) fun t37 H =>
 p.guard t34 true H (fun k' => p.fadr 4 t3 fun t' => k' t' H) fun t38 H =>
 p.guard t34 true H (fun k' => p.load false 1 t38 H fun t' => k' t' H) fun t39 H =>
 p.guard t34 true H (fun k' => p.bin .eql t37 t39 fun t' => k' t' H) fun t40 H =>
 p.pick t34 t40 (.sc (.bool false)) fun t41 =>
 p.guard t41 true H (fun k' => p.fadr 5 t2 fun t' => k' t' H) fun t43 H =>
 p.guard t41 true H (fun k' => p.load false 1 t43 H fun t' => k' t' H) fun t44 H =>
 p.guard t41 true H (fun k' => p.fadr 5 t3 fun t' => k' t' H) fun t45 H =>
 p.guard t41 true H (fun k' => p.load false 1 t45 H fun t' => k' t' H) fun t46 H =>
 p.guard t41 true H (fun k' => p.bin .eql t44 t46 fun t' => k' t' H) fun t47 H =>
 p.pick t41 t47 (.sc (.bool false)) fun t48 =>
 p.guard t48 true H (fun k' => p.fadr 6 t2 fun t' => k' t' H) fun t50 H =>
 p.guard t48 true H (fun k' => p.load false 1 t50 H fun t' => k' t' H) fun t51 H =>
 p.guard t48 true H (fun k' => p.fadr 6 t3 fun t' => k' t' H) fun t52 H =>
 p.guard t48 true H (fun k' => p.load false 1 t52 H fun t' => k' t' H) fun t53 H =>
 p.guard t48 true H (fun k' => p.call 4 (.fn 54 [] []) [t51, t53] H fun t' H => k' t' H) fun t54 H =>
 p.pick t48 t54 (.sc (.bool false)) fun t55 =>
 p.fadr 7 t2 fun t56 =>
 p.load false 1 t56 H fun t57 =>
 p.fadr 7 t3 fun t58 =>
 p.load false 1 t58 H fun t59 =>
 p.bin .eql t57 t59 fun t60 =>
 p.guard t60 true H (fun k' => p.fadr 8 t2 fun t' => k' t' H) fun t62 H =>
 p.guard t60 true H (fun k' => p.load false 1 t62 H fun t' => k' t' H) fun t63 H =>
 p.guard t60 true H (fun k' => p.fadr 8 t3 fun t' => k' t' H) fun t64 H =>
 p.guard t60 true H (fun k' => p.load false 1 t64 H fun t' => k' t' H) fun t65 H =>
 p.guard t60 true H (fun k' => p.bin .eql t63 t65 fun t' => k' t' H) fun t66 H =>
 p.pick t60 t66 (.sc (.bool false)) fun t67 =>
 p.guard t67 true H (fun k' => p.fadr 9 t2 fun t' => k' t' H) fun t69 H =>
 p.guard t67 true H (fun k' => p.load false 1 t69 H fun t' => k' t' H) fun t70 H =>
 p.guard t67 true H (fun k' => p.fadr 9 t3 fun t' => k' t' H) fun t71 H =>
 p.guard t67 true H (fun k' => p.load false 1 t71 H fun t' => k' t' H) fun t72 H =>
 p.guard t67 true H (fun k' => p.binB .eql t70 t72 fun t' => k' t' H) fun t73 H =>
 p.pick t67 t73 (.sc (.bool false)) fun t74 =>
 p.guard t74 true H (fun k' => p.fadr 10 t2 fun t' => k' t' H) fun t76 H =>
 p.guard t74 true H (fun k' => p.load false 1 t76 H fun t' => k' t' H) fun t77 H =>
 p.guard t74 true H (fun k' => p.fadr 10 t3 fun t' => k' t' H) fun t78 H =>
 p.guard t74 true H (fun k' => p.load false 1 t78 H fun t' => k' t' H) fun t79 H =>
 p.guard t74 true H (fun k' => p.bin .eql t77 t79 fun t' => k' t' H) fun t80 H =>
 p.pick t74 t80 (.sc (.bool false)) fun t81 =>
 p.guard t81 true H (fun k' => p.fadr 16 t2 fun t' => k' t' H) fun t83 H =>
 p.guard t81 true H (fun k' => p.load false 1 t83 H fun t' => k' t' H) fun t84 H =>
 p.guard t81 true H (fun k' => p.fadr 16 t3 fun t' => k' t' H) fun t85 H =>
 p.guard t81 true H (fun k' => p.load false 1 t85 H fun t' => k' t' H) fun t86 H =>
 p.guard t81 true H (fun k' => p.binB .eql t84 t86 fun t' => k' t' H) fun t87 H =>
 p.pick t81 t87 (.sc (.bool false)) fun t88 =>
 p.guard t88 true H (fun k' => p.fadr 17 t2 fun t' => k' t' H) fun t90 H =>
 p.guard t88 true H (fun k' => p.load false 1 t90 H fun t' => k' t' H) fun t91 H =>
 p.guard t88 true H (fun k' => p.fadr 17 t3 fun t' => k' t' H) fun t92 H =>
 p.guard t88 true H (fun k' => p.load false 1 t92 H fun t' => k' t' H) fun t93 H =>
 p.guard t88 true H (fun k' => p.bin .eql t91 t93 fun t' => k' t' H) fun t94 H =>
 p.pick t88 t94 (.sc (.bool false)) fun t95 =>
 p.guard t95 true H (fun k' => p.fadr 18 t2 fun t' => k' t' H) fun t97 H =>
 p.guard t95 true H (fun k' => p.load false 1 t97 H fun t' => k' t' H) fun t98 H =>
 p.guard t95 true H (fun k' => p.fadr 18 t3 fun t' => k' t' H) fun t99 H =>
 p.guard t95 true H (fun k' => p.load false 1 t99 H fun t' => k' t' H) fun t100 H =>
 p.guard t95 true H (fun k' => p.binB .eql t98 t100 fun t' => k' t' H) fun t101 H =>
 p.pick t95 t101 (.sc (.bool false)) fun t102 =>
 p.guard t102 true H (fun k' => p.fadr 19 t2 fun t' => k' t' H) fun t104 H =>
 p.guard t102 true H (fun k' => p.load false 1 t104 H fun t' => k' t' H) fun t105 H =>
 p.guard t102 true H (fun k' => p.fadr 19 t3 fun t' => k' t' H) fun t106 H =>
 p.guard t102 true H (fun k' => p.load false 1 t106 H fun t' => k' t' H) fun t107 H =>
 p.guard t102 true H (fun k' => p.call 4 (.fn 54 [] []) [t105, t107] H fun t' H => k' t' H) fun t108 H =>
 p.pick t102 t108 (.sc (.bool false)) fun t109 =>
 p.fadr 11 t2 fun t110 =>
 p.load false 1 t110 H fun t111 =>
 p.fadr 11 t3 fun t112 =>
 p.load false 1 t112 H fun t113 =>
 p.binB .eql t111 t113 fun t114 =>
 p.guard t114 true H (fun k' => p.fadr 12 t2 fun t' => k' t' H) fun t116 H =>
 p.guard t114 true H (fun k' => p.load false 1 t116 H fun t' => k' t' H) fun t117 H =>
 p.guard t114 true H (fun k' => p.fadr 12 t3 fun t' => k' t' H) fun t118 H =>
 p.guard t114 true H (fun k' => p.load false 1 t118 H fun t' => k' t' H) fun t119 H =>
 p.guard t114 true H (fun k' => p.bin .eql t117 t119 fun t' => k' t' H) fun t120 H =>
 p.pick t114 t120 (.sc (.bool false)) fun t121 =>
 p.guard t121 true H (fun k' => p.fadr 13 t2 fun t' => k' t' H) fun t123 H =>
 p.guard t121 true H (fun k' => p.load false 1 t123 H fun t' => k' t' H) fun t124 H =>
 p.guard t121 true H (fun k' => p.fadr 13 t3 fun t' => k' t' H) fun t125 H =>
 p.guard t121 true H (fun k' => p.load false 1 t125 H fun t' => k' t' H) fun t126 H =>
 p.guard t121 true H (fun k' => p.call 4 (.fn 54 [] []) [t124, t126] H fun t' H => k' t' H) fun t127 H =>
 p.pick t121 t127 (.sc (.bool false)) fun t128 =>
 p.guard t128 true H (fun k' => p.fadr 14 t2 fun t' => k' t' H) fun t130 H =>
 p.guard t128 true H (fun k' => p.load false 1 t130 H fun t' => k' t' H) fun t131 H =>
 p.guard t128 true H (fun k' => p.fadr 14 t3 fun t' => k' t' H) fun t132 H =>
 p.guard t128 true H (fun k' => p.load false 1 t132 H fun t' => k' t' H) fun t133 H =>
 p.guard t128 true H (fun k' => p.bin .eql t131 t133 fun t' => k' t' H) fun t134 H =>
 p.pick t128 t134 (.sc (.bool false)) fun t135 =>
 p.guard t135 true H (fun k' => p.fadr 15 t2 fun t' => k' t' H) fun t137 H =>
 p.guard t135 true H (fun k' => p.load false 1 t137 H fun t' => k' t' H) fun t138 H =>
 p.guard t135 true H (fun k' => p.fadr 15 t3 fun t' => k' t' H) fun t139 H =>
 p.guard t135 true H (fun k' => p.load false 1 t139 H fun t' => k' t' H) fun t140 H =>
 p.guard t135 true H (fun k' => p.binB .eql t138 t140 fun t' => k' t' H) fun t141 H =>
 p.pick t135 t141 (.sc (.bool false)) fun t142 =>
 p.fadr 22 t2 fun t143 =>
 p.load false 1 t143 H fun t144 =>
 p.fadr 22 t3 fun t145 =>
 p.load false 1 t145 H fun t146 =>
 p.call 4 (.fn 94 [] []) [t144, t146] H fun t147 H =>
 p.guard t147 true H (fun k' => p.fadr 23 t2 fun t' => k' t' H) fun t149 H =>
 p.guard t147 true H (fun k' => p.load false 1 t149 H fun t' => k' t' H) fun t150 H =>
 p.guard t147 true H (fun k' => p.fadr 23 t3 fun t' => k' t' H) fun t151 H =>
 p.guard t147 true H (fun k' => p.load false 1 t151 H fun t' => k' t' H) fun t152 H =>
 p.guard t147 true H (fun k' => p.call 4 (.fn 95 [] []) [t150, t152] H fun t' H => k' t' H) fun t153 H =>
 p.pick t147 t153 (.sc (.bool false)) fun t154 =>
 p.guard t154 true H (fun k' => p.fadr 24 t2 fun t' => k' t' H) fun t156 H =>
 p.guard t154 true H (fun k' => p.load false 1 t156 H fun t' => k' t' H) fun t157 H =>
 p.guard t154 true H (fun k' => p.fadr 24 t3 fun t' => k' t' H) fun t158 H =>
 p.guard t154 true H (fun k' => p.load false 1 t158 H fun t' => k' t' H) fun t159 H =>
 p.guard t154 true H (fun k' => p.call 4 (.fn 96 [] []) [t157, t159] H fun t' H => k' t' H) fun t160 H =>
 p.pick t154 t160 (.sc (.bool false)) fun t161 =>
 p.guard t55 true H (fun k' => k' t109 H) fun t164 H =>
 p.pick t55 t164 (.sc (.bool false)) fun t165 =>
 p.guard t165 true H (fun k' => k' t142 H) fun t167 H =>
 p.pick t165 t167 (.sc (.bool false)) fun t168 =>
 p.guard t168 true H (fun k' => k' t161 H) fun t170 H =>
 p.pick t168 t170 (.sc (.bool false)) fun t171 =>
 p.guard t171 true H (fun k' => p.fadr 20 t2 fun t' => k' t' H) fun t173 H =>
 p.guard t171 true H (fun k' => p.load false 1 t173 H fun t' => k' t' H) fun t174 H =>
 p.guard t171 true H (fun k' => p.fadr 20 t3 fun t' => k' t' H) fun t175 H =>
 p.guard t171 true H (fun k' => p.load false 1 t175 H fun t' => k' t' H) fun t176 H =>
 p.guard t171 true H (fun k' => p.bin .eql t174 t176 fun t' => k' t' H) fun t177 H =>
 p.pick t171 t177 (.sc (.bool false)) fun t178 =>
 p.guard t178 true H (fun k' => p.fadr 21 t2 fun t' => k' t' H) fun t180 H =>
 p.guard t178 true H (fun k' => p.load false 1 t180 H fun t' => k' t' H) fun t181 H =>
 p.guard t178 true H (fun k' => p.fadr 21 t3 fun t' => k' t' H) fun t182 H =>
 p.guard t178 true H (fun k' => p.load false 1 t182 H fun t' => k' t' H) fun t183 H =>
 p.guard t178 true H (fun k' => p.binB .eql t181 t183 fun t' => k' t' H) fun t184 H =>
 p.pick t178 t184 (.sc (.bool false)) fun t185 =>
 k t185 H
theorem f81_body (p : Pr β) (n : Nat) (a0 a1 : AV) (H : Heap) (k : AV → Heap → Option β) : evalBody ti0 p n ⟨c81, 186, Go.Proofs.Tryd.f81.results.toList, o81⟩ [a0, a1] H k = f81 p n a0 a1 H k := by kernel_rfl
noncomputable def f73 (p : Pr β) (n : Nat) (a0 : AV) (H : Heap) (k : AV → Heap → Option β) : Option β :=
 p.call 25 (.fn 91 [] []) [a0, (.sc (.string ⟨#[47]⟩))] H fun t4 H =>
 k t4 H
theorem f73_body (p : Pr β) (n : Nat) (a0 : AV) (H : Heap) (k : AV → Heap → Option β) : evalBody ti0 p n ⟨c73, 5, Go.Proofs.Tryd.f73.results.toList, o73⟩ [a0] H k = f73 p n a0 H k := by kernel_rfl
noncomputable def f50 (p : Pr β) (n : Nat) (a0 : AV) (H : Heap) (k : AV → Heap → Option β) : Option β :=
 p.call 4 (.fn 71 [] []) [a0] H fun t4 H =>
 p.guard t4 true H (fun k' => k' a0 H) fun t6 H =>
 p.guard t4 true H (fun k' => p.bin .neq t6 (.sc (.string ⟨#[]⟩)) fun t' => k' t' H) fun t7 H =>
 p.pick t4 t7 (.sc (.bool false)) fun t8 =>
 p.guard t8 true H (fun k' => k' a0 H) fun t10 H =>
 p.guard t8 true H (fun k' => p.call 4 (.fn 72 [] []) [t10, (.sc (.string ⟨#[43, 35]⟩))] H fun t' H => k' t' H) fun t11 H =>
 p.guard t8 true H (fun k' => p.un .not t11 fun t' => k' t' H) fun t12 H =>
 p.pick t8 t12 (.sc (.bool false)) fun t13 =>
 p.guard t13 true H (fun k' => k' a0 H) fun t15 H =>
 p.guard t13 true H (fun k' => p.call 25 (.fn 73 [] []) [t15] H fun t' H => k' t' H) fun t16 H =>
 p.guard t13 true H (fun k' => p.len t16 fun t' => k' t' H) fun t17 H =>
 p.guard t13 true H (fun k' => p.bin .leq t17 (.sc (.int .i64 6)) fun t' => k' t' H) fun t18 H =>
 p.pick t13 t18 (.sc (.bool false)) fun t19 =>
 k t19 H
theorem f50_body (p : Pr β) (n : Nat) (a0 : AV) (H : Heap) (k : AV → Heap → Option β) : evalBody ti0 p n ⟨c50, 20, Go.Proofs.Tryd.f50.results.toList, o50⟩ [a0] H k = f50 p n a0 H k := by kernel_rfl
noncomputable def f51 (p : Pr β) (n : Nat) (a0 : AV) (H : Heap) (k : AV → Heap → Option β) : Option β :=
 p.call 4 (.fn 59 [] []) [a0, (.sc (.int .i64 0)), (.sc (.int .i64 2))] H fun t4 H =>
 k t4 H
theorem f51_body (p : Pr β) (n : Nat) (a0 : AV) (H : Heap) (k : AV → Heap → Option β) : evalBody ti0 p n ⟨c51, 5, Go.Proofs.Tryd.f51.results.toList, o51⟩ [a0] H k = f51 p n a0 H k := by kernel_rfl
noncomputable def f97 (p : Pr β) (n : Nat) (a0 : AV) (H : Heap) (k : AV → Heap → Option β) : Option β :=
 p.call 4 (.fn 59 [] []) [a0, (.sc (.int .i64 0)), (.sc (.int .i64 65535))] H fun t4 H =>
 k t4 H
theorem f97_body (p : Pr β) (n : Nat) (a0 : AV) (H : Heap) (k : AV → Heap → Option β) : evalBody ti0 p n ⟨c97, 5, Go.Proofs.Tryd.f97.results.toList, o97⟩ [a0] H k = f97 p n a0 H k := by kernel_rfl
noncomputable def f83 (p : Pr β) (n : Nat) (a0 : AV) (H : Heap) (k : AV → Heap → Option β) : Option β :=
 p.box a0 H fun t1 H =>
 p.fadr 11 t1 fun t4 =>
 p.load false 1 t4 H fun t5 =>
 p.un .not t5 fun t6 =>
 p.guard t6 false H (fun k' => p.fadr 12 t1 fun t' => k' t' H) fun t8 H =>
 p.guard t6 false H (fun k' => p.load false 1 t8 H fun t' => k' t' H) fun t9 H =>
 p.guard t6 false H (fun k' => p.call 4 (.fn 50 [] []) [t9] H fun t' H => k' t' H) fun t10 H =>
 p.guard t6 false H (fun k' => k' t10 H) fun t11 H =>
 p.guard t11 true H (fun k' => p.fadr 13 t1 fun t' => k' t' H) fun t12 H =>
 p.guard t11 true H (fun k' => p.load false 1 t12 H fun t' => k' t' H) fun t13 H =>
 p.guard t11 true H (fun k' => p.len t13 fun t' => k' t' H) fun t14 H =>
 p.guard t11 true H (fun k' => p.bin .leq t14 (.sc (.int .i64 40)) fun t' => k' t' H) fun t15 H =>
 p.guard t6 false H (fun k' => p.pick t11 t15 (.sc (.bool false)) fun t' => k' t' H) fun t16 H =>
 p.guard t6 false H (fun k' => k' t16 H) fun t17 H =>
 p.guard t17 true H (fun k' => p.fadr 14 t1 fun t' => k' t' H) fun t18 H =>
 p.guard t17 true H (fun k' => p.load false 1 t18 H fun t' => k' t' H) fun t19 H =>
 p.guard t17 true H (fun k' => p.call 4 (.fn 51 [] []) [t19] H fun t' H => k' t' H) fun t20 H =>
 p.guard t6 false H (fun k' => p.pick t17 t20 (.sc (.bool false)) fun t' => k' t' H) fun t21 H =>
 p.pick t6 (.sc (.bool true)) t21 fun t22 =>
 p.fadr 8 t1 fun t23 =>
 p.load false 1 t23 H fun t24 =>
 p.call 4 (.fn 59 [] []) [t24, (.sc (.int .i64 0)), (.sc (.int .i64 255))] H fun t25 H =>
 p.guard t25 true H (fun k' => p.fadr 7 t1 fun t' => k' t' H) fun t27 H =>
 p.guard t25 true H (fun k' => p.load false 1 t27 H fun t' => k' t' H) fun t28 H =>
 p.guard t25 true H (fun k' => p.call 4 (.fn 71 [] []) [t28] H fun t' H => k' t' H) fun t29 H =>
 p.pick t25 t29 (.sc (.bool false)) fun t30 =>
 p.guard t30 true H (fun k' => p.fadr 10 t1 fun t' => k' t' H) fun t32 H =>
 p.guard t30 true H (fun k' => p.load false 1 t32 H fun t' => k' t' H) fun t33 H =>
 p.guard t30 true H (fun k' => p.call 4 (.fn 97 [] []) [t33] H fun t' H => k' t' H) fun t34 H =>
 p.pick t30 t34 (.sc (.bool false)) fun t35 =>
 p.guard t35 true H (fun k' => k' t22 H) fun t37 H =>
 p.pick t35 t37 (.sc (.bool false)) fun t38 =>
 p.guard t38 true H (fun k' => p.fadr 17 t1 fun t' => k' t' H) fun t40 H =>
 p.guard t38 true H (fun k' => p.load false 1 t40 H fun t' => k' t' H) fun t41 H =>
 p.guard t38 true H (fun k' => p.call 4 (.fn 71 [] []) [t41] H fun t' H => k' t' H) fun t42 H =>
 p.pick t38 t42 (.sc (.bool false)) fun t43 =>
 p.guard t43 true H (fun k' => p.fadr 19 t1 fun t' => k' t' H) fun t45 H =>
 p.guard t43 true H (fun k' => p.load false 1 t45 H fun t' => k' t' H) fun t46 H =>
 p.guard t43 true H (fun k' => p.len t46 fun t' => k' t' H) fun t47 H =>
 p.guard t43 true H (fun k' => p.bin .leq t47 (.sc (.int .i64 60)) fun t' => k' t' H) fun t48 H =>
 p.pick t43 t48 (.sc (.bool false)) fun t49 =>
 k t49 H
theorem f83_body (p : Pr β) (n : Nat) (a0 : AV) (H : Heap) (k : AV → Heap → Option β) : evalBody ti0 p n ⟨c83, 50, Go.Proofs.Tryd.f83.results.toList, o83⟩ [a0] H k = f83 p n a0 H k := by kernel_rfl
noncomputable def f106 (p : Pr β) (n : Nat) (a0 a1 : AV) (H : Heap) (k : AV → Heap → Option β) : Option β :=
 p.call 4 (.fn 72 [] []) [a0, (.sc (.string ⟨#[43, 35]⟩))] H fun t6 H =>
 p.un .not t6 fun t7 =>
 p.guard t7 false H (fun k' => k' a0 H) fun t9 H =>
 p.guard t7 false H (fun k' => p.bin .eql t9 (.sc (.string ⟨#[43]⟩)) fun t' => k' t' H) fun t10 H =>
 p.pick t7 (.sc (.bool true)) t10 fun t11 =>
 p.guard t11 false H (fun k' => k' a0 H) fun t13 H =>
 p.guard t11 false H (fun k' => p.bin .eql t13 (.sc (.string ⟨#[35]⟩)) fun t' => k' t' H) fun t14 H =>
 p.guard t11 false H (fun k' => k' t14 H) fun t15 H =>
 p.guard t15 true H (fun k' => k' a1 H) fun t16 H =>
 p.guard t11 false H (fun k' => p.pick t15 t16 (.sc (.bool false)) fun t' => k' t' H) fun t17 H =>
 p.pick t11 (.sc (.bool true)) t17 fun t18 =>
 k t18 H
theorem f106_body (p : Pr β) (n : Nat) (a0 a1 : AV) (H : Heap) (k : AV → Heap → Option β) : evalBody ti0 p n ⟨c106, 19, Go.Proofs.Tryd.f106.results.toList, o106⟩ [a0, a1] H k = f106 p n a0 a1 H k := by kernel_rfl
noncomputable def f98_l0 (p : Pr β) (n : Nat)  (k : AV → Heap → Option β) : Nat → AV → AV → AV → AV → AV → Heap → Option β
 | 0, _, _, _, _, _, _ => none
 | m + 1, t0, t3, t8, t9, t10, H => p.bin .lss t10 t9 fun t11 =>
   p.cond t11
   (p.iadr 1 t8 t10 fun t13 =>
   p.load false 1 t13 H fun t14 =>
   p.len t3 fun t18 =>
   p.bin .sub t18 (.sc (.int .i64 1)) fun t19 =>
   p.bin .eql t10 t19 fun t20 =>
   p.call 4 (.fn 106 [] []) [t14, t20] H fun t21 H =>
   p.un .not t21 fun t22 =>
   p.cond t22
   (k (.sc (.bool false)) H)
   (p.bin .add t10 (.sc (.int .i64 1)) fun t23 =>
   f98_l0 p n  k m t0 t3 t8 t9 t23 H))
   (p.call 4 (.fn 71 [] []) [t0] H fun t25 H =>
   p.guard t25 true H (fun k' => k' t0 H) fun t27 H =>
   p.guard t25 true H (fun k' => p.bin .neq t27 (.sc (.string ⟨#[]⟩)) fun t' => k' t' H) fun t28 H =>
   p.pick t25 t28 (.sc (.bool false)) fun t29 =>
   p.guard t29 true H (fun k' => k' t3 H) fun t31 H =>
   p.guard t29 true H (fun k' => p.len t31 fun t' => k' t' H) fun t32 H =>
   p.guard t29 true H (fun k' => p.bin .leq t32 (.sc (.int .i64 6)) fun t' => k' t' H) fun t33 H =>
   p.pick t29 t33 (.sc (.bool false)) fun t34 =>
   k t34 H)
noncomputable def f98 (p : Pr β) (n : Nat) (a0 : AV) (H : Heap) (k : AV → Heap → Option β) : Option β :=
 p.call 25 (.fn 73 [] []) [a0] H fun t7 H =>
 p.len t7 fun t9 =>
 f98_l0 p n  k n a0 t7 t7 t9 (.sc (.int .i64 0)) H
noncomputable def f98_L0 (p : Pr β) (n : Nat)  (k : AV → Heap → Option β) (m : Nat) (tm : Tm) (H : Heap) : Option β :=
 iterC 35 (fun tm H k => evalCode ti0 p o98 35 n (cd c98 [1, 1, 0, 1, 0, 0]) tm H k) (blkK 0 (seqK (fun tm H => evalCode ti0 p o98 35 n (cd c98 [1, 1, 1]) tm H (endK ti0 p Go.Proofs.Tryd.f98.results.toList k)) (endK ti0 p Go.Proofs.Tryd.f98.results.toList k))) m tm H
theorem f98_L0_step (p : Pr β) (n : Nat)  (k : AV → Heap → Option β) (m0 : Nat) (t : Nat → AV) (H : Heap) : f98_L0 p n  k (m0 + 1) (tf 35 0 t) H =
 p.bin .lss (t 10) (t 9) fun t11 =>
 p.cond t11
 (p.iadr 1 (t 8) (t 10) fun t13 =>
 p.load false 1 t13 H fun t14 =>
 p.len (t 3) fun t18 =>
 p.bin .sub t18 (.sc (.int .i64 1)) fun t19 =>
 p.bin .eql (t 10) t19 fun t20 =>
 p.call 4 (.fn 106 [] []) [t14, t20] H fun t21 H =>
 p.un .not t21 fun t22 =>
 p.cond t22
 (k (.sc (.bool false)) H)
 (p.bin .add (t 10) (.sc (.int .i64 1)) fun t23 =>
 f98_L0 p n  k m0 (tf 35 0 (ud [(4, (t 10)), (5, t14), (10, t23), (11, t11), (12, (t 10)), (13, t13), (14, t14), (15, t14), (16, (t 10)), (17, (t 3)), (18, t18), (19, t19), (20, t20), (21, t21), (22, t22), (23, t23)] t)) H))
 (p.call 4 (.fn 71 [] []) [(t 0)] H fun t25 H =>
 p.guard t25 true H (fun k' => k' (t 0) H) fun t27 H =>
 p.guard t25 true H (fun k' => p.bin .neq t27 (.sc (.string ⟨#[]⟩)) fun t' => k' t' H) fun t28 H =>
 p.pick t25 t28 (.sc (.bool false)) fun t29 =>
 p.guard t29 true H (fun k' => k' (t 3) H) fun t31 H =>
 p.guard t29 true H (fun k' => p.len t31 fun t' => k' t' H) fun t32 H =>
 p.guard t29 true H (fun k' => p.bin .leq t32 (.sc (.int .i64 6)) fun t' => k' t' H) fun t33 H =>
 p.pick t29 t33 (.sc (.bool false)) fun t34 =>
 k t34 H) := by kernel_rfl
theorem f98_l0_eq (p : Pr β) (n : Nat)  (k : AV → Heap → Option β)   (m0 : Nat) : ∀ (t : Nat → AV) (H : Heap), f98_L0 p n  k m0 (tf 35 0 t) H = f98_l0 p n  k m0 (t 0) (t 3) (t 8) (t 9) (t 10) H := by
 induction m0 with
 | zero => intros; rfl
 | succ m0 ih =>
  intro t H
  rw [f98_L0_step]
  simp only [ih]
  kernel_rfl
theorem f98_raw (p : Pr β) (n : Nat) (a0 : AV) (H : Heap) (k : AV → Heap → Option β) : evalBody ti0 p n ⟨c98, 35, Go.Proofs.Tryd.f98.results.toList, o98⟩ [a0] H k =
 p.call 25 (.fn 73 [] []) [a0] H fun t7 H =>
 p.len t7 fun t9 =>
 f98_L0 p n  k n (tf 35 0 (ud [(0, a0), (2, (.sc (.bool false))), (3, t7), (6, a0), (7, t7), (8, t7), (9, t9), (10, (.sc (.int .i64 0)))] ut)) H := by kernel_rfl
theorem f98_body (p : Pr β) (n : Nat) (a0 : AV) (H : Heap) (k : AV → Heap → Option β) : evalBody ti0 p n ⟨c98, 35, Go.Proofs.Tryd.f98.results.toList, o98⟩ [a0] H k = f98 p n a0 H k := by
 rw [f98_raw]
 simp only [f98_l0_eq]
 kernel_rfl
noncomputable def f84_l2 (p : Pr β) (n : Nat)  (k : AV → Heap → Option β) : Nat → AV → AV → AV → AV → Heap → Option β
 | 0, _, _, _, _, _ => none
 | m + 1, t1, t39, t40, t41, H => p.bin .lss t41 t40 fun t42 =>
   p.cond t42
   (p.iadr 1 t39 t41 fun t43 =>
   p.load false 1 t43 H fun t44 =>
   p.call 4 (.fn 51 [] []) [t44] H fun t46 H =>
   p.un .not t46 fun t47 =>
   p.guard t47 true H (fun k' => k' t44 H) fun t49 H =>
   p.guard t47 true H (fun k' => p.bin .neq t49 (.sc (.int .i64 128)) fun t' => k' t' H) fun t50 H =>
   p.pick t47 t50 (.sc (.bool false)) fun t51 =>
   p.cond t51
   (k (.sc (.bool false)) H)
   (p.bin .add t41 (.sc (.int .i64 1)) fun t52 =>
   f84_l2 p n  k m t1 t39 t40 t52 H))
   (p.fadr 22 t1 fun t53 =>
   p.load false 1 t53 H fun t54 =>
   p.len t54 fun t55 =>
   p.fadr 23 t1 fun t56 =>
   p.load false 1 t56 H fun t57 =>
   p.len t57 fun t58 =>
   p.bin .add t55 t58 fun t59 =>
   p.fadr 24 t1 fun t60 =>
   p.load false 1 t60 H fun t61 =>
   p.len t61 fun t62 =>
   p.bin .add t59 t62 fun t63 =>
   p.call 4 (.fn 59 [] []) [t63, (.sc (.int .i64 1)), (.sc (.int .i64 4))] H fun t64 H =>
   k t64 H)
noncomputable def f84_l1 (p : Pr β) (n : Nat)  (k : AV → Heap → Option β) : Nat → AV → AV → AV → AV → Heap → Option β
 | 0, _, _, _, _, _ => none
 | m + 1, t1, t28, t29, t30, H => p.bin .lss t30 t29 fun t31 =>
   p.cond t31
   (p.iadr 1 t28 t30 fun t32 =>
   p.load false 1 t32 H fun t33 =>
   p.call 4 (.fn 98 [] []) [t33] H fun t35 H =>
   p.un .not t35 fun t36 =>
   p.cond t36
   (k (.sc (.bool false)) H)
   (p.bin .add t30 (.sc (.int .i64 1)) fun t37 =>
   f84_l1 p n  k m t1 t28 t29 t37 H))
   (p.fadr 24 t1 fun t38 =>
   p.load false 1 t38 H fun t39 =>
   p.len t39 fun t40 =>
   f84_l2 p n  k n t1 t39 t40 (.sc (.int .i64 0)) H)
noncomputable def f84_l0 (p : Pr β) (n : Nat)  (k : AV → Heap → Option β) : Nat → AV → AV → AV → AV → Heap → Option β
 | 0, _, _, _, _, _ => none
 | m + 1, t1, t10, t11, t12, H => p.bin .lss t12 t11 fun t13 =>
   p.cond t13
   (p.iadr 2 t10 t12 fun t14 =>
   p.load true 2 t14 H fun t15 =>
   p.new [(.sc (.string ⟨#[]⟩)), (.sc (.int .i64 0))] H fun t4 H =>
   p.store 2 t4 t15 H fun H =>
   p.fadr 0 t4 fun t16 =>
   p.load false 1 t16 H fun t17 =>
   p.call 4 (.fn 98 [] []) [t17] H fun t18 H =>
   p.un .not t18 fun t19 =>
   p.guard t19 false H (fun k' => p.fadr 1 t4 fun t' => k' t' H) fun t21 H =>
   p.guard t19 false H (fun k' => p.load false 1 t21 H fun t' => k' t' H) fun t22 H =>
   p.guard t19 false H (fun k' => p.call 4 (.fn 51 [] []) [t22] H fun t' H => k' t' H) fun t23 H =>
   p.guard t19 false H (fun k' => p.un .not t23 fun t' => k' t' H) fun t24 H =>
   p.pick t19 (.sc (.bool true)) t24 fun t25 =>
   p.cond t25
   (k (.sc (.bool false)) H)
   (p.bin .add t12 (.sc (.int .i64 1)) fun t26 =>
   f84_l0 p n  k m t1 t10 t11 t26 H))
   (p.fadr 23 t1 fun t27 =>
   p.load false 1 t27 H fun t28 =>
   p.len t28 fun t29 =>
   f84_l1 p n  k n t1 t28 t29 (.sc (.int .i64 0)) H)
noncomputable def f84 (p : Pr β) (n : Nat) (a0 : AV) (H : Heap) (k : AV → Heap → Option β) : Option β :=
 p.box a0 H fun t1 H =>
 p.fadr 22 t1 fun t9 =>
 p.load false 1 t9 H fun t10 =>
 p.len t10 fun t11 =>
 f84_l0 p n  k n t1 t10 t11 (.sc (.int .i64 0)) H
noncomputable def f84_L2 (p : Pr β) (n : Nat)  (k : AV → Heap → Option β) (m : Nat) (tm : Tm) (H : Heap) : Option β :=
 iterC 65 (fun tm H k => evalCode ti0 p o84 65 n (cd c84 [1, 1, 1, 0, 1, 0, 0]) tm H k) (blkK 4 (seqK (fun tm H => evalCode ti0 p o84 65 n (cd c84 [1, 1, 1, 1]) tm H (endK ti0 p Go.Proofs.Tryd.f84.results.toList k)) (endK ti0 p Go.Proofs.Tryd.f84.results.toList k))) m tm H
noncomputable def f84_L1 (p : Pr β) (n : Nat)  (k : AV → Heap → Option β) (m : Nat) (tm : Tm) (H : Heap) : Option β :=
 iterC 65 (fun tm H k => evalCode ti0 p o84 65 n (cd c84 [1, 1, 0, 1, 0, 0]) tm H k) (blkK 2 (seqK (fun tm H => evalCode ti0 p o84 65 n (cd c84 [1, 1, 1]) tm H (endK ti0 p Go.Proofs.Tryd.f84.results.toList k)) (endK ti0 p Go.Proofs.Tryd.f84.results.toList k))) m tm H
noncomputable def f84_L0 (p : Pr β) (n : Nat)  (k : AV → Heap → Option β) (m : Nat) (tm : Tm) (H : Heap) : Option β :=
 iterC 65 (fun tm H k => evalCode ti0 p o84 65 n (cd c84 [1, 0, 1, 0, 0]) tm H k) (blkK 0 (seqK (fun tm H => evalCode ti0 p o84 65 n (cd c84 [1, 1]) tm H (endK ti0 p Go.Proofs.Tryd.f84.results.toList k)) (endK ti0 p Go.Proofs.Tryd.f84.results.toList k))) m tm H
theorem f84_L2_step (p : Pr β) (n : Nat)  (k : AV → Heap → Option β) (m2 : Nat) (t : Nat → AV) (H : Heap) : f84_L2 p n  k (m2 + 1) (tf 65 0 t) H =
 p.bin .lss (t 41) (t 40) fun t42 =>
 p.cond t42
 (p.iadr 1 (t 39) (t 41) fun t43 =>
 p.load false 1 t43 H fun t44 =>
 p.call 4 (.fn 51 [] []) [t44] H fun t46 H =>
 p.un .not t46 fun t47 =>
 p.guard t47 true H (fun k' => k' t44 H) fun t49 H =>
 p.guard t47 true H (fun k' => p.bin .neq t49 (.sc (.int .i64 128)) fun t' => k' t' H) fun t50 H =>
 p.pick t47 t50 (.sc (.bool false)) fun t51 =>
 p.cond t51
 (k (.sc (.bool false)) H)
 (p.bin .add (t 41) (.sc (.int .i64 1)) fun t52 =>
 f84_L2 p n  k m2 (tf 65 0 (ud [(8, t44), (41, t52), (42, t42), (43, t43), (44, t44), (45, t44), (46, t46), (47, t47), (48, t47), (49, t49), (50, t50), (51, t51), (52, t52)] t)) H))
 (p.fadr 22 (t 1) fun t53 =>
 p.load false 1 t53 H fun t54 =>
 p.len t54 fun t55 =>
 p.fadr 23 (t 1) fun t56 =>
 p.load false 1 t56 H fun t57 =>
 p.len t57 fun t58 =>
 p.bin .add t55 t58 fun t59 =>
 p.fadr 24 (t 1) fun t60 =>
 p.load false 1 t60 H fun t61 =>
 p.len t61 fun t62 =>
 p.bin .add t59 t62 fun t63 =>
 p.call 4 (.fn 59 [] []) [t63, (.sc (.int .i64 1)), (.sc (.int .i64 4))] H fun t64 H =>
 k t64 H) := by kernel_rfl
theorem f84_l2_eq (p : Pr β) (n : Nat)  (k : AV → Heap → Option β)   (m2 : Nat) : ∀ (t : Nat → AV) (H : Heap), f84_L2 p n  k m2 (tf 65 0 t) H = f84_l2 p n  k m2 (t 1) (t 39) (t 40) (t 41) H := by
 induction m2 with
 | zero => intros; rfl
 | succ m2 ih =>
  intro t H
  rw [f84_L2_step]
  simp only [ih]
  kernel_rfl
theorem f84_L1_step (p : Pr β) (n : Nat)  (k : AV → Heap → Option β) (m1 : Nat) (t : Nat → AV) (H : Heap) : f84_L1 p n  k (m1 + 1) (tf 65 0 t) H =
 p.bin .lss (t 30) (t 29) fun t31 =>
 p.cond t31
 (p.iadr 1 (t 28) (t 30) fun t32 =>
 p.load false 1 t32 H fun t33 =>
 p.call 4 (.fn 98 [] []) [t33] H fun t35 H =>
 p.un .not t35 fun t36 =>
 p.cond t36
 (k (.sc (.bool false)) H)
 (p.bin .add (t 30) (.sc (.int .i64 1)) fun t37 =>
 f84_L1 p n  k m1 (tf 65 0 (ud [(6, t33), (30, t37), (31, t31), (32, t32), (33, t33), (34, t33), (35, t35), (36, t36), (37, t37)] t)) H))
 (p.fadr 24 (t 1) fun t38 =>
 p.load false 1 t38 H fun t39 =>
 p.len t39 fun t40 =>
 f84_L2 p n  k n (tf 65 0 (ud [(31, t31), (38, t38), (39, t39), (40, t40), (41, (.sc (.int .i64 0)))] t)) H) := by kernel_rfl
theorem f84_l1_eq (p : Pr β) (n : Nat)  (k : AV → Heap → Option β)   (m1 : Nat) : ∀ (t : Nat → AV) (H : Heap), f84_L1 p n  k m1 (tf 65 0 t) H = f84_l1 p n  k m1 (t 1) (t 28) (t 29) (t 30) H := by
 induction m1 with
 | zero => intros; rfl
 | succ m1 ih =>
  intro t H
  rw [f84_L1_step]
  simp only [ih, f84_l2_eq p n  k  ]
  kernel_rfl
theorem f84_L0_step (p : Pr β) (n : Nat)  (k : AV → Heap → Option β) (m0 : Nat) (t : Nat → AV) (H : Heap) : f84_L0 p n  k (m0 + 1) (tf 65 0 t) H =
 p.bin .lss (t 12) (t 11) fun t13 =>
 p.cond t13
 (p.iadr 2 (t 10) (t 12) fun t14 =>
 p.load true 2 t14 H fun t15 =>
 p.new [(.sc (.string ⟨#[]⟩)), (.sc (.int .i64 0))] H fun t4 H =>
 p.store 2 t4 t15 H fun H =>
 p.fadr 0 t4 fun t16 =>
 p.load false 1 t16 H fun t17 =>
 p.call 4 (.fn 98 [] []) [t17] H fun t18 H =>
 p.un .not t18 fun t19 =>
 p.guard t19 false H (fun k' => p.fadr 1 t4 fun t' => k' t' H) fun t21 H =>
 p.guard t19 false H (fun k' => p.load false 1 t21 H fun t' => k' t' H) fun t22 H =>
 p.guard t19 false H (fun k' => p.call 4 (.fn 51 [] []) [t22] H fun t' H => k' t' H) fun t23 H =>
 p.guard t19 false H (fun k' => p.un .not t23 fun t' => k' t' H) fun t24 H =>
 p.pick t19 (.sc (.bool true)) t24 fun t25 =>
 p.cond t25
 (k (.sc (.bool false)) H)
 (p.bin .add (t 12) (.sc (.int .i64 1)) fun t26 =>
 f84_L0 p n  k m0 (tf 65 0 (ud [(4, t4), (12, t26), (13, t13), (14, t14), (15, t15), (16, t16), (17, t17), (18, t18), (19, t19), (20, t19), (21, t21), (22, t22), (23, t23), (24, t24), (25, t25), (26, t26)] t)) H))
 (p.fadr 23 (t 1) fun t27 =>
 p.load false 1 t27 H fun t28 =>
 p.len t28 fun t29 =>
 f84_L1 p n  k n (tf 65 0 (ud [(13, t13), (27, t27), (28, t28), (29, t29), (30, (.sc (.int .i64 0)))] t)) H) := by kernel_rfl
theorem f84_l0_eq (p : Pr β) (n : Nat)  (k : AV → Heap → Option β)   (m0 : Nat) : ∀ (t : Nat → AV) (H : Heap), f84_L0 p n  k m0 (tf 65 0 t) H = f84_l0 p n  k m0 (t 1) (t 10) (t 11) (t 12) H := by
 induction m0 with
 | zero => intros; rfl
 | succ m0 ih =>
  intro t H
  rw [f84_L0_step]
  simp only [ih, f84_l2_eq p n  k  , f84_l1_eq p n  k  ]
  kernel_rfl
theorem f84_raw (p : Pr β) (n : Nat) (a0 : AV) (H : Heap) (k : AV → Heap → Option β) : evalBody ti0 p n ⟨c84, 65, Go.Proofs.Tryd.f84.results.toList, o84⟩ [a0] H k =
 p.box a0 H fun t1 H =>
 p.fadr 22 t1 fun t9 =>
 p.load false 1 t9 H fun t10 =>
 p.len t10 fun t11 =>
 f84_L0 p n  k n (tf 65 0 (ud [(0, a0), (1, t1), (2, (.sc (.bool false))), (9, t9), (10, t10), (11, t11), (12, (.sc (.int .i64 0)))] ut)) H := by kernel_rfl
theorem f84_body (p : Pr β) (n : Nat) (a0 : AV) (H : Heap) (k : AV → Heap → Option β) : evalBody ti0 p n ⟨c84, 65, Go.Proofs.Tryd.f84.results.toList, o84⟩ [a0] H k = f84 p n a0 H k := by
 rw [f84_raw]
 simp only [f84_l2_eq, f84_l1_eq, f84_l0_eq]
 kernel_rfl
end Go.Proofs.YtejjggnchdldoaaDoor.Abs
