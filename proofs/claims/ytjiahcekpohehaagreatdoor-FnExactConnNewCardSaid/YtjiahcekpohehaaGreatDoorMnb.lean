/- What the proof needs, part 2: a sound evaluator over trees, the program's functions on it, and what they come to. -/
import Derived.Test.YtjiahcekpohehaaGreatDoorMna
import Derived.Lib.SplitLaws
import Derived.Lib.IndexAny
import Derived.Lib.ValidLaws
import Derived.Test.YtjiahcekpohehaaGreatDoorProg
import Derived.KernelRfl
import Derived.Shelf.Strings.IndexAnyAll
import Derived.Shelf.Small.Utf8
import Derived.Lib.TrimUEq
import Derived.Lib.QuoteLoop
import Derived.Laws.RangeAny
import Derived.Laws.Runes
import Derived.WalkKit
import Derived.WalkMore
import Derived.Below
import Derived.LoopTactic
import Derived.Shelf.RegionOpenPlain
import Derived.Test.YtjiahcekpohehaaGreatDoorChecked
import Derived.Shelf.Unicode.ValidAny
import Derived.Shelf.Strings.Split
import Derived.Shelf.Vars
set_option linter.unusedVariables false
set_option linter.unusedSimpArgs false
namespace Go.Proofs.YtjiahcekpohehaaGreatDoor.Abs
section
open Go
def lvL : List UInt8 → List UInt8 → List (List UInt8)
 | cur, [] => [cur]
 | cur, b :: l => if b = 47 then cur :: lvL [] l else lvL (cur ++ [b]) l
def ofL (l : List UInt8) : ByteArray := ⟨l.toArray⟩
def Ds (s : ByteArray) : List ByteArray := (lvL [] s.data.toList).map ofL
def Aax (s : ByteArray) (b : UInt8) : Bool := s.data.toList.any fun c => c == b
def vPH (s : ByteArray) : Bool := Aax s 43 || Aax s 35
def K0 : ByteArray := ⟨#[47]⟩
def phB : ByteArray := ⟨#[43, 35]⟩
def F6 (c : List UInt8) : List (List UInt8) → List (List UInt8)
 | [] => [c]
 | h :: t => (c ++ h) :: t
theorem Lg {X : List (List UInt8)} (h : X ≠ []) : F6 [] X = X := by
 cases X with
 | nil => exact absurd rfl h
 | cons h t => rfl
theorem Nd (a b : List UInt8) {X : List (List UInt8)} (h : X ≠ []) : F6 a (F6 b X) = F6 (a ++ b) X := by
 cases X with
 | nil => exact absurd rfl h
 | cons h t => simp [F6]
theorem Iw (sep : List UInt8) (k : Nat) (l : List UInt8) : Lib.splitK sep 0 k l ≠ [] := by
 cases k with
 | zero => simp [Lib.splitK]
 | succ k =>
  unfold Lib.splitK
  split <;> simp
theorem Ux (l : List UInt8) : Lib.index (47 :: l) [47] = 0 := by
 unfold Lib.index
 simp
theorem Uy (b : UInt8) (l : List UInt8) (h : b ≠ 47) : Lib.index (b :: l) [47] = if Lib.index l [47] == -1 then -1 else Lib.index l [47] + 1 := by
 rw [Lib.index]
 rw [if_neg]
 simpa using fun h' => h h'.symm
theorem K3 (b : UInt8) (h : b ≠ 47) (k : Nat) (l : List UInt8) : Lib.splitK [47] 0 k (b :: l) = F6 [b] (Lib.splitK [47] 0 k l) := by
 cases k with
 | zero => rfl
 | succ k =>
  have hge := Lib.index_ge l [47]
  unfold Lib.splitK
  rw [Uy b l h]
  by_cases hi : Lib.index l [47] = -1
  ·simp [hi, F6]
  ·have e1 : (Lib.index l [47] == -1) = false := by simpa using hi
   have e2 : (Lib.index l [47] + 1 == -1) = false := by simp; omega
   have e3 : (Lib.index l [47] + 1).toNat = (Lib.index l [47]).toNat + 1 := by omega
   simp only [e1, e2, e3, Bool.false_eq_true, if_false, F6, Nat.add_zero, List.length_singleton]
   rw [show (Lib.index l [47]).toNat + 1 + 1 = ((Lib.index l [47]).toNat + 1) + 1 from rfl, List.drop_succ_cons, List.take_succ_cons]
   rfl
theorem Iq : ∀ (l cur : List UInt8), lvL cur l = F6 cur (Lib.splitK [47] 0 (Lib.count l [47]) l)
 | [], cur => by
  have e : Lib.count [] [47] = 0 := by rw [Lib.count_one]; rfl
  rw [e]
  simp [lvL, Lib.splitK, F6]
 | b :: l, cur => by
  rw [lvL]
  by_cases h : b = 47
  ·subst h
   rw [if_pos rfl, Iq l [], Lib.count_cons_eq, Nat.add_comm, Lib.splitK, Ux]
   rw [Lg (Iw _ _ _)]
   simp [F6]
  ·rw [if_neg h, Iq l (cur ++ [b]), Lib.count_cons_ne _ _ _ h, K3 b h, Nd _ _ (Iw _ _ _)]
theorem Vf (s : ByteArray) : ofL s.data.toList = s := by
 cases s
 rfl
theorem Xx (l : List ByteArray) : (l.map (·.data.toList)).map ofL = l := by
 rw [List.map_map]
 conv => rhs; rw [← List.map_id l]
 exact List.map_congr_left fun s _ => Vf s
theorem Ij (s : ByteArray) : Lib.splitB K0 0 (Lib.countB s K0) s = Ds s := by
 have h := Lib.splitB_data K0 0 (Lib.countB s K0) s
 rw [← Xx (Lib.splitB K0 0 (Lib.countB s K0) s), h, Ds, Iq, Lg (Iw _ _ _)]
 rfl
theorem Pw (s : ByteArray) : (Ds s).length = Lib.countB s K0 + 1 := by
 rw [← Ij]
 exact Lib.splitB_all K0 (Nat.le_refl _) 0 _ s rfl
theorem Hz (chars : List UInt8) : ∀ l : List UInt8, decide (0 ≤ Lib.indexAny l chars) = l.any fun c => chars.contains c
 | [] => rfl
 | b :: l => by
  have ih := Hz chars l
  have hge := Lib.indexAny_ge chars l
  rw [Lib.indexAny, List.any_cons, ← ih]
  by_cases h : chars.contains b = true
  ·rw [if_pos h, h]
   simp
  ·rw [if_neg h]
   have h' : chars.contains b = false := by simpa using h
   rw [h', Bool.false_or]
   by_cases hi : Lib.indexAny l chars = -1
   ·rw [hi]
    rfl
   ·rw [if_neg (by simpa using hi)]
    congr 1
    simp
    omega
theorem Oo {α : Type} (p q : α → Bool) : ∀ l : List α, (l.any fun c => p c || q c) = (l.any p || l.any q)
 | [] => rfl
 | x :: l => by
  rw [List.any_cons, List.any_cons, List.any_cons, Oo p q l]
  cases p x <;> cases q x <;> simp
theorem Aad (s : ByteArray) : Lib.containsAny s.data.toList phB.data.toList = vPH s := by
 unfold Lib.containsAny vPH Aax
 rw [Hz, ← Oo]
 congr 1
 funext c
 simp [phB]
 rfl
end
section
open Go
def Mr : Nat → List UInt8 → Bool
 | 0, _ => true
 | n + 1, l => if l = [] then true else if (Lib.decodeL l).1 = 65533 ∧ (Lib.decodeL l).2 = 1 then false else if (Lib.decodeL l).1 = 0 then false else Mr n (l.drop (Lib.decodeL l).2)
def Ms (s : ByteArray) : Bool := decide (s.size ≤ 60) && Mr s.size s.data.toList
def O1 (ty : Nat) (vs : List AV) : Option AV :=
 match vs with
 | [.sc (.string s)] => if s.size ≤ maxLen then some (.sc (.bool (Ms s))) else none
 | _ => none
def O2 (ty : Nat) (vs : List AV) : Option AV :=
 match vs with
 | [.sc (.string s), .sc (.string c)] => if c.data.toList = [43, 35] ∧ s.size < 4294967281 then some (.sc (.bool (vPH s))) else none
 | _ => none
def O3 (ty : Nat) (vs : List AV) : Option AV :=
 match vs with
 | [.sc (.string s), .sc (.string c)] => if ty = 33 ∧ c.data.toList = [47] ∧ s.size < 4294967281 then some (.ro (Ds s).length ((Ds s).map fun x => .sc (.string x))) else none
 | _ => none
end
end Go.Proofs.YtjiahcekpohehaaGreatDoor.Abs
set_option maxRecDepth 100000
namespace Go.Proofs.YtjiahcekpohehaaGreatDoor.Abs
section
open Go
variable {β : Type}
noncomputable def tis : List (Option TI) := [none,
 none,
 some ⟨false, false, 1, 8, [(.int .i64 0)], 0, [], some .i64, false, false, [2], false⟩,
 some ⟨false, false, 1, 8, [(.int .i64 0)], 0, [], some .i64, false, false, [3], false⟩,
 some ⟨false, false, 1, 1, [(.bool false)], 0, [], none, false, true, [4], false⟩,
 some ⟨false, false, 1, 1, [(.int .u8 0)], 0, [], some .u8, false, false, [5], false⟩,
 some ⟨false, false, 1, 1, [(.int .u8 0)], 0, [], some .u8, false, false, [6], false⟩,
 none,
 none,
 some ⟨false, false, 1, 16, [(.string ⟨#[]⟩)], 0, [], none, true, false, [9], false⟩,
 some ⟨false, false, 1, 16, [(.string ⟨#[]⟩)], 0, [], none, true, false, [10], false⟩,
 some ⟨false, false, 1, 16, [(.string ⟨#[]⟩)], 0, [], none, true, false, [11], false⟩,
 some ⟨false, false, 1, 8, [(.int .u64 0)], 0, [], some .u64, false, false, [12], false⟩,
 none,
 none,
 none,
 none,
 none,
 none,
 none,
 none,
 some ⟨false, false, 1, 4, [(.int .i32 0)], 0, [], some .i32, false, false, [21], false⟩,
 none,
 none,
 none,
 none,
 none,
 none,
 some ⟨false, true, 1, 24, [(.slice none 0 0)], 85, [], none, false, false, [28], false⟩,
 none,
 none,
 some ⟨false, true, 1, 24, [(.slice none 0 0)], 5, [], none, false, false, [31], false⟩,
 some ⟨false, true, 1, 24, [(.slice none 0 0)], 231, [], none, false, false, [32], false⟩,
 some ⟨false, true, 1, 24, [(.slice none 0 0)], 9, [], none, false, false, [33], false⟩,
 some ⟨false, true, 1, 24, [(.slice none 0 0)], 3, [], none, false, false, [34], false⟩,
 none,
 some ⟨true, false, 25, 320, [(.int .i64 0), (.bool false), (.int .i64 0), (.bool false), (.int .i64 0), (.string ⟨#[]⟩), (.slice none 0 0), (.string ⟨#[]⟩), (.int .i64 0), (.bool false), (.int .i64 0), (.bool false), (.string ⟨#[]⟩), (.slice none 0 0), (.int .i64 0), (.bool false), (.bool false), (.string ⟨#[]⟩), (.bool false), (.slice none 0 0), (.int .i64 0), (.bool false), (.slice none 0 0), (.slice none 0 0), (.slice none 0 0)], 0, [(0, 3), (1, 4), (2, 3), (3, 4), (4, 3), (5, 9), (6, 31), (7, 9), (8, 3), (9, 4), (10, 3), (11, 4), (12, 9), (13, 31), (14, 3), (15, 4), (16, 4), (17, 9), (18, 4), (19, 31), (20, 3), (21, 4), (22, 32), (23, 33), (24, 34)], none, false, false, [3, 4, 3, 4, 3, 9, 31, 9, 3, 4, 3, 4, 9, 31, 3, 4, 4, 9, 4, 31, 3, 4, 32, 33, 34], false⟩,
 none,
 none,
 none,
 none,
 none,
 none,
 none,
 none,
 none,
 none,
 none,
 none,
 none,
 none,
 none,
 none,
 none,
 none,
 none,
 none,
 none,
 none,
 none,
 none,
 none,
 none,
 none,
 none,
 none,
 none,
 none,
 none,
 none,
 none,
 none,
 none,
 none,
 none,
 none,
 none,
 none,
 none,
 none,
 none,
 none,
 none,
 none,
 none,
 some ⟨true, false, 4, 56, [(.string ⟨#[]⟩), (.slice none 0 0), (.int .i64 0), (.bool false)], 0, [(0, 9), (1, 31), (2, 3), (3, 4)], none, false, false, [9, 31, 3, 4], false⟩,
 none,
 none,
 none,
 none,
 none,
 none,
 some ⟨true, false, 2, 32, [(.slice none 0 0), (.bool false)], 0, [(0, 31), (1, 4)], none, false, false, [31, 4], false⟩,
 some ⟨false, true, 1, 24, [(.slice none 0 0)], 36, [], none, false, false, [93], false⟩,
 none,
 some ⟨true, false, 16, 208, [(.bool false), (.int .i64 0), (.slice none 0 0), (.bool false), (.slice none 0 0), (.bool false), (.string ⟨#[]⟩), (.int .i64 0), (.int .i64 0), (.bool false), (.string ⟨#[]⟩), (.slice none 0 0), (.int .i64 0), (.bool false), (.bool false), (.slice none 0 0)], 0, [(0, 4), (1, 3), (2, 92), (4, 93), (5, 4), (6, 9), (7, 3), (8, 3), (9, 4), (10, 85), (14, 4), (15, 31)], none, false, false, [4, 3, 31, 4, 93, 4, 9, 3, 3, 4, 9, 31, 3, 4, 4, 31], false⟩,
 none,
 none,
 none,
 none,
 none,
 none,
 none,
 none,
 none,
 none,
 none,
 none,
 none,
 none,
 none,
 none,
 none,
 none,
 none,
 none,
 none,
 none,
 none,
 none,
 none,
 none,
 none,
 none,
 none,
 none,
 none,
 none,
 none,
 none,
 none,
 none,
 none,
 none,
 none,
 none,
 none,
 none,
 none,
 none,
 none,
 none,
 none,
 none,
 none,
 none,
 none,
 none,
 none,
 none,
 none,
 none,
 none,
 none,
 none,
 none,
 none,
 none,
 none,
 none,
 none,
 none,
 none,
 none,
 none,
 none,
 none,
 none,
 none,
 none,
 none,
 none,
 none,
 none,
 none,
 none,
 none,
 none,
 none,
 none,
 none,
 none,
 none,
 none,
 none,
 none,
 none,
 none,
 none,
 none,
 none,
 none,
 none,
 none,
 none,
 none,
 none,
 none,
 none,
 none,
 none,
 none,
 none,
 none,
 none,
 none,
 none,
 none,
 none,
 none,
 none,
 none,
 none,
 none,
 none,
 none,
 none,
 none,
 none,
 none,
 none,
 none,
 none,
 none,
 none,
 none,
 none,
 none,
 none,
 none,
 none,
 some ⟨true, false, 2, 24, [(.string ⟨#[]⟩), (.int .i64 0)], 0, [(0, 9), (1, 3)], none, false, false, [9, 3], false⟩,
 none,
 none,
 none,
 none,
 none,
 none,
 none,
 none,
 none,
 none,
 none,
 none,
 none,
 none,
 none,
 none,
 none,
 none,
 none,
 none,
 none,
 none,
 none,
 none,
 none,
 none,
 none,
 none,
 none,
 none,
 none,
 none,
 none,
 none,
 none,
 none,
 none,
 none,
 none,
 none,
 none,
 none,
 none,
 none,
 none,
 none,
 none,
 none,
 none,
 none,
 none,
 none,
 none,
 none,
 none,
 none,
 none,
 none,
 none,
 none,
 none,
 none,
 none,
 none,
 none,
 none,
 none,
 none,
 none,
 none,
 none,
 none,
 none,
 none,
 none,
 none,
 some ⟨false, true, 1, 24, [(.slice none 0 0)], 31, [], none, false, false, [308], false⟩]
noncomputable def Ak (f : Func) : Code := match f.body with | some c => c | none => .skip
noncomputable def Abi : Code := Ak Tryz.f142
noncomputable def Abr : Code := Ak Tryz.f232
noncomputable def Abw : Code := Ak Tryz.f279
noncomputable def Abt : Code := Ak Tryz.f236
noncomputable def Zp : Code := Ak Tryz.f155
noncomputable def c46 : Code := Ak Tryz.f46
noncomputable def Abp : Code := Ak Tryz.f183
noncomputable def Abx : Code := Ak Tryz.f280
noncomputable def Abu : Code := Ak Tryz.f238
noncomputable def c62 : Code := Ak Tryz.f62
noncomputable def Abv : Code := Ak Tryz.f239
noncomputable def Zq : Code := Ak Tryz.f156
noncomputable def c47 : Code := Ak Tryz.f47
noncomputable def c95 : Code := Ak Tryz.f95
noncomputable def Abk : Code := Ak Tryz.f157
noncomputable def Abq : Code := Ak Tryz.f215
noncomputable def c96 : Code := Ak Tryz.f96
noncomputable def c97 : Code := Ak Tryz.f97
noncomputable def c38 : Code := Ak Tryz.f38
noncomputable def c17 : Code := Ak Tryz.f17
noncomputable def Zr : Code := Ak Tryz.f158
noncomputable def Abj : Code := Ak Tryz.f154
noncomputable def c48 : Code := Ak Tryz.f48
noncomputable def Zj : Code := Ak Tryz.f100
noncomputable def Abl : Code := Ak Tryz.f159
noncomputable def Zu : Code := Ak Tryz.f216
noncomputable def Zk : Code := Ak Tryz.f101
noncomputable def Zl : Code := Ak Tryz.f102
noncomputable def c39 : Code := Ak Tryz.f39
noncomputable def Zs : Code := Ak Tryz.f160
noncomputable def Abm : Code := Ak Tryz.f161
noncomputable def c49 : Code := Ak Tryz.f49
noncomputable def Zm : Code := Ak Tryz.f105
noncomputable def Abn : Code := Ak Tryz.f162
noncomputable def Zn : Code := Ak Tryz.f106
noncomputable def Zo : Code := Ak Tryz.f107
noncomputable def c40 : Code := Ak Tryz.f40
noncomputable def Zt : Code := Ak Tryz.f163
noncomputable def Abo : Code := Ak Tryz.f164
noncomputable def c50 : Code := Ak Tryz.f50
noncomputable def c7 : Code := Ak Tryz.f7
noncomputable def Ab4 : List (Nat × PI) := [(12, .one 0 (.one 1 (.one 2 (.one 3 (.one 4 (.one 5 (.one 6 (.one 7 (.one 8 (.one 9 (.two 10 (PI.of [11, 12]) 11 (PI.of [10, 12])))))))))))), (13, PI.of [0, 1, 2, 3, 4, 6, 7, 8, 9, 10, 5, 11, 12, 13])]
noncomputable def Ab5 : List (Nat × PI) := [(12, .one 0 (.one 1 (.one 2 (.one 3 (.one 4 (.one 5 (.one 6 (.one 7 (.one 8 (.one 9 (.two 10 (PI.of [11, 12]) 11 (PI.of [10, 12])))))))))))), (13, PI.of [0, 1, 2, 3, 4, 6, 7, 8, 9, 10, 5, 11, 12, 13])]
noncomputable def o95 : List (Nat × PI) := [(6, PI.of [0, 1, 2, 3, 4, 5, 6, 7, 8])]
noncomputable def o96 : List (Nat × PI) := [(6, PI.of [0, 1, 2, 3, 4, 5, 6, 7, 8, 9])]
noncomputable def o97 : List (Nat × PI) := [(6, PI.of [0, 1, 2, 3, 4, 5, 6, 7, 8])]
noncomputable def o38 : List (Nat × PI) := [(6, PI.of [0, 1, 2, 3, 4, 5, 6, 7, 8])]
noncomputable def Aal : List (Nat × PI) := [(6, PI.of [0, 1, 2, 3, 4, 5, 6, 7, 8, 9])]
noncomputable def Aaj : List (Nat × PI) := [(4, PI.of [0, 1, 2, 3, 4, 5, 6, 7])]
noncomputable def Aak : List (Nat × PI) := [(4, PI.of [0, 1, 2, 3, 4, 5, 6])]
noncomputable def Aam : List (Nat × PI) := [(19, PI.of [0, 1, 2, 3, 4, 5, 6, 7]), (25, PI.of [0, 1, 2, 3, 4, 5, 6, 7]), (40, PI.of [0, 1, 2, 3, 4, 5, 6, 7]), (55, PI.of [0, 1, 2, 3, 4, 5, 6, 7])]
noncomputable abbrev Yt : C9 := ⟨Abi, 22, Tryz.f142.results.toList, []⟩
noncomputable abbrev Aa8 : C9 := ⟨Abr, 10, Tryz.f232.results.toList, []⟩
noncomputable abbrev Aa9 : C9 := ⟨Abw, 70, Tryz.f279.results.toList, Ab4⟩
noncomputable abbrev Y2 : C9 := ⟨Abt, 24, Tryz.f236.results.toList, []⟩
noncomputable abbrev fi155 : C9 := ⟨Zp, 157, Tryz.f155.results.toList, []⟩
noncomputable abbrev AaA : C9 := ⟨c46, 14, Tryz.f46.results.toList, []⟩
noncomputable abbrev Y0 : C9 := ⟨Abp, 10, Tryz.f183.results.toList, []⟩
noncomputable abbrev Y5 : C9 := ⟨Abx, 73, Tryz.f280.results.toList, Ab5⟩
noncomputable abbrev Y3 : C9 := ⟨Abu, 26, Tryz.f238.results.toList, []⟩
noncomputable abbrev AaF : C9 := ⟨c62, 31, Tryz.f62.results.toList, []⟩
noncomputable abbrev Y4 : C9 := ⟨Abv, 53, Tryz.f239.results.toList, []⟩
noncomputable abbrev fi156 : C9 := ⟨Zq, 44, Tryz.f156.results.toList, []⟩
noncomputable abbrev AaB : C9 := ⟨c47, 14, Tryz.f47.results.toList, []⟩
noncomputable abbrev fi95 : C9 := ⟨c95, 26, Tryz.f95.results.toList, o95⟩
noncomputable abbrev Yv : C9 := ⟨Abk, 16, Tryz.f157.results.toList, []⟩
noncomputable abbrev Y1 : C9 := ⟨Abq, 15, Tryz.f215.results.toList, []⟩
noncomputable abbrev fi96 : C9 := ⟨c96, 27, Tryz.f96.results.toList, o96⟩
noncomputable abbrev fi97 : C9 := ⟨c97, 26, Tryz.f97.results.toList, o97⟩
noncomputable abbrev fi38 : C9 := ⟨c38, 26, Tryz.f38.results.toList, o38⟩
noncomputable abbrev Aa7 : C9 := ⟨c17, 136, Tryz.f17.results.toList, []⟩
noncomputable abbrev fi158 : C9 := ⟨Zr, 27, Tryz.f158.results.toList, Aal⟩
noncomputable abbrev Yu : C9 := ⟨Abj, 26, Tryz.f154.results.toList, []⟩
noncomputable abbrev AaC : C9 := ⟨c48, 69, Tryz.f48.results.toList, []⟩
noncomputable abbrev fi100 : C9 := ⟨Zj, 20, Tryz.f100.results.toList, []⟩
noncomputable abbrev Yw : C9 := ⟨Abl, 10, Tryz.f159.results.toList, []⟩
noncomputable abbrev fi216 : C9 := ⟨Zu, 20, Tryz.f216.results.toList, []⟩
noncomputable abbrev fi101 : C9 := ⟨Zk, 28, Tryz.f101.results.toList, []⟩
noncomputable abbrev fi102 : C9 := ⟨Zl, 20, Tryz.f102.results.toList, []⟩
noncomputable abbrev fi39 : C9 := ⟨c39, 19, Tryz.f39.results.toList, []⟩
noncomputable abbrev fi160 : C9 := ⟨Zs, 208, Tryz.f160.results.toList, []⟩
noncomputable abbrev Yx : C9 := ⟨Abm, 10, Tryz.f161.results.toList, []⟩
noncomputable abbrev AaD : C9 := ⟨c49, 22, Tryz.f49.results.toList, []⟩
noncomputable abbrev fi105 : C9 := ⟨Zm, 22, Tryz.f105.results.toList, []⟩
noncomputable abbrev Yy : C9 := ⟨Abn, 12, Tryz.f162.results.toList, []⟩
noncomputable abbrev fi106 : C9 := ⟨Zn, 32, Tryz.f106.results.toList, Aaj⟩
noncomputable abbrev fi107 : C9 := ⟨Zo, 22, Tryz.f107.results.toList, Aak⟩
noncomputable abbrev fi40 : C9 := ⟨c40, 21, Tryz.f40.results.toList, []⟩
noncomputable abbrev fi163 : C9 := ⟨Zt, 258, Tryz.f163.results.toList, Aam⟩
noncomputable abbrev Yz : C9 := ⟨Abo, 12, Tryz.f164.results.toList, []⟩
noncomputable abbrev AaE : C9 := ⟨c50, 30, Tryz.f50.results.toList, []⟩
noncomputable abbrev fi7 : C9 := ⟨c7, 46, Tryz.f7.results.toList, []⟩
abbrev uu : AV := .sc undef
noncomputable def tf : Nat → Nat → (Nat → AV) → Tm
 | 0, _, _ => []
 | n + 1, i, t => (i, t i) :: tf n (i + 1) t
noncomputable def ut : Nat → AV := fun _ => uu
noncomputable def ud : List (Nat × AV) → (Nat → AV) → Nat → AV
 | [], t, i => t i
 | (j, v) :: r, t, i => match Nat.beq j i with
  | true => v
  | false => ud r t i
theorem Of : ∀ (n i : Nat) (t : Nat → AV), tf n i t = (List.range' i n).map fun j => (j, t j)
 | 0, _, _ => rfl
 | n + 1, i, t => by
  rw [tf, Of n (i + 1) t, List.range'_succ, List.map_cons]
theorem Aai (nt : Nat) (tm : Tm) : nrm nt tm = tf nt 0 (fun i => gt tm i) := by
 rw [Of, nrm, List.range_eq_range']
theorem A1 {nt m : Nat} {body : Tm → Aa → (Ex → Tm → Aa → Option β) → Option β} {c c' : Ex → Tm → Aa → Option β} {g : (Nat → AV) → Aa → Option β} {tm : Tm} {H : Aa} (h : ∀ t H, Bs nt body c m (tf nt 0 t) H = g t H) (hc : c = c') : Bs nt body c (m + 1) tm H = body tm H (Es (fun tm H => g (fun i => gt tm i) H) c') := by
 have e : (fun tm H => Bs nt body c m (nrm nt tm) H) = fun tm H => g (fun i => gt tm i) H := by
  funext tm H
  rw [Aai, h]
 rw [Bs, e, hc]
noncomputable def Ad (t : Nat) : Option TI := (tis[t]?).getD none
noncomputable def cd : Code → List Nat → Code
 | c, [] => c
 | .seq a b, i :: p => cd (if i = 0 then a else b) p
 | .cond _ a b, i :: p => cd (if i = 1 then a else b) p
 | .block _ a, _ :: p => cd a p
 | .loop a, _ :: p => cd a p
 | c, _ => c
abbrev Yo (i : C9) (f : (β : Type) → Pr β → Nat → AV → Aa → KO β → Option β) : Prop := ∀ {β : Type} (p : Pr β) (n : Nat) (a0 : AV) (H : Aa) (k : KO β), Av Ad p n i [a0] H k = f β p n a0 H k
abbrev G3 (i : C9) (f : (β : Type) → Pr β → Nat → AV → AV → Aa → KO β → Option β) : Prop := ∀ {β : Type} (p : Pr β) (n : Nat) (a0 a1 : AV) (H : Aa) (k : KO β), Av Ad p n i [a0, a1] H k = f β p n a0 a1 H k
noncomputable def f142 (p : Pr β) (n : Nat) (a0 : AV) (H : Aa) (k : KO β) : Option β :=
 p.box a0 H fun t1 H =>
 p.fadr 0 t1 fun t3 =>
 p.load false 1 t3 H fun t4 =>
 p.bin .eql t4 (.sc (.string ⟨#[]⟩)) fun t5 =>
 p.guard t5 true H (fun k' => p.fadr 1 t1 fun t' => k' t' H) fun t7 H =>
 p.guard t5 true H (fun k' => p.load false 1 t7 H fun t' => k' t' H) fun t8 H =>
 p.guard t5 true H (fun k' => p.len t8 fun t' => k' t' H) fun t9 H =>
 p.guard t5 true H (fun k' => p.bin .eql t9 (.sc (.int .i64 0)) fun t' => k' t' H) fun t10 H =>
 p.pick t5 t10 (.sc (.bool false)) fun t11 =>
 p.guard t11 true H (fun k' => p.fadr 2 t1 fun t' => k' t' H) fun t13 H =>
 p.guard t11 true H (fun k' => p.load false 1 t13 H fun t' => k' t' H) fun t14 H =>
 p.guard t11 true H (fun k' => p.bin .eql t14 (.sc (.int .i64 0)) fun t' => k' t' H) fun t15 H =>
 p.pick t11 t15 (.sc (.bool false)) fun t16 =>
 p.guard t16 true H (fun k' => p.fadr 3 t1 fun t' => k' t' H) fun t18 H =>
 p.guard t16 true H (fun k' => p.load false 1 t18 H fun t' => k' t' H) fun t19 H =>
 p.guard t16 true H (fun k' => p.un .not t19 fun t' => k' t' H) fun t20 H =>
 p.pick t16 t20 (.sc (.bool false)) fun t21 =>
 k t21 H
theorem R3 : Yo Yt @f142 := fun p n a0 H k => by kernel_rfl
noncomputable def f232 (p : Pr β) (n : Nat) (a0 a1 : AV) (H : Aa) (k : KO β) : Option β :=
 p.cvBS a0 H fun t6 =>
 p.cvBS a1 H fun t8 =>
 p.bin .eql t6 t8 fun t9 =>
 k t9 H
noncomputable def f279 (p : Pr β) (n : Nat) (a0 : AV) (H : Aa) (k : KO β) : Option β :=
 p.new [(.sc (.int .i64 0)), (.sc (.bool false)), (.sc (.int .i64 0)), (.sc (.bool false)), (.sc (.int .i64 0)), (.sc (.string ⟨#[]⟩)), .nl, (.sc (.string ⟨#[]⟩)), (.sc (.int .i64 0)), (.sc (.bool false)), (.sc (.int .i64 0)), (.sc (.bool false)), (.sc (.string ⟨#[]⟩)), .nl, (.sc (.int .i64 0)), (.sc (.bool false)), (.sc (.bool false)), (.sc (.string ⟨#[]⟩)), (.sc (.bool false)), .nl, (.sc (.int .i64 0)), (.sc (.bool false)), .nl, .nl, .nl] H fun t2 H =>
 p.len a0 fun t10 =>
 p.bin .eql t10 (.sc (.int .i64 0)) fun t11 =>
 p.cond t11
 (p.fill [(.sc (.int .i64 0)), (.sc (.bool false)), (.sc (.int .i64 0)), (.sc (.bool false)), (.sc (.int .i64 0)), (.sc (.string ⟨#[]⟩)), .nl, (.sc (.string ⟨#[]⟩)), (.sc (.int .i64 0)), (.sc (.bool false)), (.sc (.int .i64 0)), (.sc (.bool false)), (.sc (.string ⟨#[]⟩)), .nl, (.sc (.int .i64 0)), (.sc (.bool false)), (.sc (.bool false)), (.sc (.string ⟨#[]⟩)), (.sc (.bool false)), .nl, (.sc (.int .i64 0)), (.sc (.bool false)), .nl, .nl, .nl] [] fun ct12 =>
 p.store 25 t2 (.agg ct12) H fun H =>
 p.load true 25 t2 H fun r0 =>
 k (Cc [r0, (.sc (.int .i64 0)), (.sc (.int .i64 1))]) H)
 (p.iadr 1 a0 (.sc (.int .i64 0)) fun t14 =>
 p.load false 1 t14 H fun t15 =>
 p.cvI .i64 t15 fun t16 =>
 p.call 4 (.fn 304 [] []) [t16] H fun t17 H =>
 p.un .not t17 fun t18 =>
 p.cond t18
 (p.fill [(.sc (.int .i64 0)), (.sc (.bool false)), (.sc (.int .i64 0)), (.sc (.bool false)), (.sc (.int .i64 0)), (.sc (.string ⟨#[]⟩)), .nl, (.sc (.string ⟨#[]⟩)), (.sc (.int .i64 0)), (.sc (.bool false)), (.sc (.int .i64 0)), (.sc (.bool false)), (.sc (.string ⟨#[]⟩)), .nl, (.sc (.int .i64 0)), (.sc (.bool false)), (.sc (.bool false)), (.sc (.string ⟨#[]⟩)), (.sc (.bool false)), .nl, (.sc (.int .i64 0)), (.sc (.bool false)), .nl, .nl, .nl] [] fun ct19 =>
 p.store 25 t2 (.agg ct19) H fun H =>
 p.load true 25 t2 H fun r0 =>
 k (Cc [r0, (.sc (.int .i64 0)), (.sc (.int .i64 2))]) H)
 (p.call 315 (.fn 305 [] []) [a0, (.sc (.int .i64 1))] H fun t22 H =>
 p.extr t22 0 fun t23 =>
 p.extr t22 1 fun t24 =>
 p.extr t22 2 fun t25 =>
 p.bin .neq t25 (.sc (.int .i64 0)) fun t27 =>
 p.cond t27
 (p.fill [(.sc (.int .i64 0)), (.sc (.bool false)), (.sc (.int .i64 0)), (.sc (.bool false)), (.sc (.int .i64 0)), (.sc (.string ⟨#[]⟩)), .nl, (.sc (.string ⟨#[]⟩)), (.sc (.int .i64 0)), (.sc (.bool false)), (.sc (.int .i64 0)), (.sc (.bool false)), (.sc (.string ⟨#[]⟩)), .nl, (.sc (.int .i64 0)), (.sc (.bool false)), (.sc (.bool false)), (.sc (.string ⟨#[]⟩)), (.sc (.bool false)), .nl, (.sc (.int .i64 0)), (.sc (.bool false)), .nl, .nl, .nl] [] fun ct28 =>
 p.store 25 t2 (.agg ct28) H fun H =>
 p.load true 25 t2 H fun r0 =>
 k (Cc [r0, (.sc (.int .i64 0)), t25]) H)
 (p.bin .gtr t23 (.sc (.int .i64 340)) fun t31 =>
 p.cond t31
 (p.fill [(.sc (.int .i64 0)), (.sc (.bool false)), (.sc (.int .i64 0)), (.sc (.bool false)), (.sc (.int .i64 0)), (.sc (.string ⟨#[]⟩)), .nl, (.sc (.string ⟨#[]⟩)), (.sc (.int .i64 0)), (.sc (.bool false)), (.sc (.int .i64 0)), (.sc (.bool false)), (.sc (.string ⟨#[]⟩)), .nl, (.sc (.int .i64 0)), (.sc (.bool false)), (.sc (.bool false)), (.sc (.string ⟨#[]⟩)), (.sc (.bool false)), .nl, (.sc (.int .i64 0)), (.sc (.bool false)), .nl, .nl, .nl] [] fun ct32 =>
 p.store 25 t2 (.agg ct32) H fun H =>
 p.load true 25 t2 H fun r0 =>
 k (Cc [r0, (.sc (.int .i64 0)), (.sc (.int .i64 2))]) H)
 (p.len a0 fun t35 =>
 p.bin .sub t35 t24 fun t37 =>
 p.bin .gtr t23 t37 fun t38 =>
 p.cond t38
 (p.fill [(.sc (.int .i64 0)), (.sc (.bool false)), (.sc (.int .i64 0)), (.sc (.bool false)), (.sc (.int .i64 0)), (.sc (.string ⟨#[]⟩)), .nl, (.sc (.string ⟨#[]⟩)), (.sc (.int .i64 0)), (.sc (.bool false)), (.sc (.int .i64 0)), (.sc (.bool false)), (.sc (.string ⟨#[]⟩)), .nl, (.sc (.int .i64 0)), (.sc (.bool false)), (.sc (.bool false)), (.sc (.string ⟨#[]⟩)), (.sc (.bool false)), .nl, (.sc (.int .i64 0)), (.sc (.bool false)), .nl, .nl, .nl] [] fun ct39 =>
 p.store 25 t2 (.agg ct39) H fun H =>
 p.load true 25 t2 H fun r0 =>
 k (Cc [r0, (.sc (.int .i64 0)), (.sc (.int .i64 1))]) H)
 (p.iadr 1 a0 (.sc (.int .i64 0)) fun t41 =>
 p.load false 1 t41 H fun t42 =>
 p.cvI .i64 t42 fun t43 =>
 p.bin .add t24 t23 fun t48 =>
 p.slice 1 a0 (some t24) (some t48) fun t49 =>
 p.both
 (p.call 36 (.fn 306 [] []) [t43, t49] H fun t50 H =>
 p.new [(.sc (.int .i64 0)), (.sc (.bool false)), (.sc (.int .i64 0)), (.sc (.bool false)), (.sc (.int .i64 0)), (.sc (.string ⟨#[]⟩)), .nl, (.sc (.string ⟨#[]⟩)), (.sc (.int .i64 0)), (.sc (.bool false)), (.sc (.int .i64 0)), (.sc (.bool false)), (.sc (.string ⟨#[]⟩)), .nl, (.sc (.int .i64 0)), (.sc (.bool false)), (.sc (.bool false)), (.sc (.string ⟨#[]⟩)), (.sc (.bool false)), .nl, (.sc (.int .i64 0)), (.sc (.bool false)), .nl, .nl, .nl] H fun t8 H =>
 p.store 25 t8 t50 H fun H =>
 p.load true 25 t8 H fun t51 =>
 p.call 4 (.fn 124 [] []) [t51] H fun t52 H =>
 p.un .not t52 fun t53 =>
 p.guard t53 false H (fun k' => p.load true 25 t8 H fun t' => k' t' H) fun t55 H =>
 p.guard t53 false H (fun k' => k' a0 H) fun t57 H =>
 p.guard t53 false H (fun k' => k' t24 H) fun t58 H =>
 p.guard t53 false H (fun k' => k' t23 H) fun t59 H =>
 p.guard t53 false H (fun k' => p.bin .add t58 t59 fun t' => k' t' H) fun t60 H =>
 p.guard t53 false H (fun k' => p.slice 1 t57 none (some t60) fun t' => k' t' H) fun t61 H =>
 p.guard t53 false H (fun k' => p.call 31 (.fn 307 [] []) [t55] H fun t' H => k' t' H) fun t56 H =>
 p.guard t53 false H (fun k' => p.call 4 (.fn 232 [] []) [t56, t61] H fun t' H => k' t' H) fun t62 H =>
 p.guard t53 false H (fun k' => p.un .not t62 fun t' => k' t' H) fun t63 H =>
 p.pick t53 (.sc (.bool true)) t63 fun t64 =>
 p.cond t64
 (p.fill [(.sc (.int .i64 0)), (.sc (.bool false)), (.sc (.int .i64 0)), (.sc (.bool false)), (.sc (.int .i64 0)), (.sc (.string ⟨#[]⟩)), .nl, (.sc (.string ⟨#[]⟩)), (.sc (.int .i64 0)), (.sc (.bool false)), (.sc (.int .i64 0)), (.sc (.bool false)), (.sc (.string ⟨#[]⟩)), .nl, (.sc (.int .i64 0)), (.sc (.bool false)), (.sc (.bool false)), (.sc (.string ⟨#[]⟩)), (.sc (.bool false)), .nl, (.sc (.int .i64 0)), (.sc (.bool false)), .nl, .nl, .nl] [] fun ct65 =>
 p.store 25 t2 (.agg ct65) H fun H =>
 p.load true 25 t2 H fun r0 =>
 k (Cc [r0, (.sc (.int .i64 0)), (.sc (.int .i64 2))]) H)
 (p.load true 25 t8 H fun t66 =>
 p.bin .add t24 t23 fun t69 =>
 p.store 25 t2 t66 H fun H =>
 p.load true 25 t2 H fun r0 =>
 k (Cc [r0, t69, (.sc (.int .i64 0))]) H))
 (p.new [(.sc (.int .i64 0)), (.sc (.bool false)), (.sc (.int .i64 0)), (.sc (.bool false)), (.sc (.int .i64 0)), (.sc (.string ⟨#[]⟩)), .nl, (.sc (.string ⟨#[]⟩)), (.sc (.int .i64 0)), (.sc (.bool false)), (.sc (.int .i64 0)), (.sc (.bool false)), (.sc (.string ⟨#[]⟩)), .nl, (.sc (.int .i64 0)), (.sc (.bool false)), (.sc (.bool false)), (.sc (.string ⟨#[]⟩)), (.sc (.bool false)), .nl, (.sc (.int .i64 0)), (.sc (.bool false)), .nl, .nl, .nl] H fun t8 H =>
 p.call 36 (.fn 306 [] []) [t43, t49] H fun t50 H =>
 p.store 25 t8 t50 H fun H =>
 p.load true 25 t8 H fun t51 =>
 p.call 4 (.fn 124 [] []) [t51] H fun t52 H =>
 p.un .not t52 fun t53 =>
 p.guard t53 false H (fun k' => p.load true 25 t8 H fun t' => k' t' H) fun t55 H =>
 p.guard t53 false H (fun k' => k' a0 H) fun t57 H =>
 p.guard t53 false H (fun k' => k' t24 H) fun t58 H =>
 p.guard t53 false H (fun k' => k' t23 H) fun t59 H =>
 p.guard t53 false H (fun k' => p.bin .add t58 t59 fun t' => k' t' H) fun t60 H =>
 p.guard t53 false H (fun k' => p.slice 1 t57 none (some t60) fun t' => k' t' H) fun t61 H =>
 p.guard t53 false H (fun k' => p.call 31 (.fn 307 [] []) [t55] H fun t' H => k' t' H) fun t56 H =>
 p.guard t53 false H (fun k' => p.call 4 (.fn 232 [] []) [t56, t61] H fun t' H => k' t' H) fun t62 H =>
 p.guard t53 false H (fun k' => p.un .not t62 fun t' => k' t' H) fun t63 H =>
 p.pick t53 (.sc (.bool true)) t63 fun t64 =>
 p.cond t64
 (p.fill [(.sc (.int .i64 0)), (.sc (.bool false)), (.sc (.int .i64 0)), (.sc (.bool false)), (.sc (.int .i64 0)), (.sc (.string ⟨#[]⟩)), .nl, (.sc (.string ⟨#[]⟩)), (.sc (.int .i64 0)), (.sc (.bool false)), (.sc (.int .i64 0)), (.sc (.bool false)), (.sc (.string ⟨#[]⟩)), .nl, (.sc (.int .i64 0)), (.sc (.bool false)), (.sc (.bool false)), (.sc (.string ⟨#[]⟩)), (.sc (.bool false)), .nl, (.sc (.int .i64 0)), (.sc (.bool false)), .nl, .nl, .nl] [] fun ct65 =>
 p.store 25 t2 (.agg ct65) H fun H =>
 p.load true 25 t2 H fun r0 =>
 k (Cc [r0, (.sc (.int .i64 0)), (.sc (.int .i64 2))]) H)
 (p.load true 25 t8 H fun t66 =>
 p.bin .add t24 t23 fun t69 =>
 p.store 25 t2 t66 H fun H =>
 p.load true 25 t2 H fun r0 =>
 k (Cc [r0, t69, (.sc (.int .i64 0))]) H)))))))
noncomputable def f236 (p : Pr β) (n : Nat) (a0 : AV) (H : Aa) (k : KO β) : Option β :=
 p.box a0 H fun t1 H =>
 p.fadr 0 t1 fun t6 =>
 p.load false 1 t6 H fun t7 =>
 p.len t7 fun t8 =>
 p.bin .eql t8 (.sc (.int .i64 0)) fun t9 =>
 p.cond t9
 (k (.sc (.bool true)) H)
 (p.fadr 0 t1 fun t11 =>
 p.load false 1 t11 H fun t12 =>
 p.call 289 (.fn 279 [] []) [t12] H fun t13 H =>
 p.extr t13 0 fun t14 =>
 p.extr t13 1 fun t15 =>
 p.extr t13 2 fun t16 =>
 p.new [(.sc (.int .i64 0)), (.sc (.bool false)), (.sc (.int .i64 0)), (.sc (.bool false)), (.sc (.int .i64 0)), (.sc (.string ⟨#[]⟩)), .nl, (.sc (.string ⟨#[]⟩)), (.sc (.int .i64 0)), (.sc (.bool false)), (.sc (.int .i64 0)), (.sc (.bool false)), (.sc (.string ⟨#[]⟩)), .nl, (.sc (.int .i64 0)), (.sc (.bool false)), (.sc (.bool false)), (.sc (.string ⟨#[]⟩)), (.sc (.bool false)), .nl, (.sc (.int .i64 0)), (.sc (.bool false)), .nl, .nl, .nl] H fun t3 H =>
 p.store 25 t3 t14 H fun H =>
 p.bin .eql t16 (.sc (.int .i64 1)) fun t18 =>
 p.guard t18 true H (fun k' => p.fadr 1 t1 fun t' => k' t' H) fun t20 H =>
 p.guard t18 true H (fun k' => p.load false 1 t20 H fun t' => k' t' H) fun t21 H =>
 p.guard t18 true H (fun k' => p.un .not t21 fun t' => k' t' H) fun t22 H =>
 p.pick t18 t22 (.sc (.bool false)) fun t23 =>
 k t23 H)
theorem Si : Yo Y2 @f236 := fun p n a0 H k => by kernel_rfl
noncomputable def Hr (p : Pr β) (n : Nat)  (k : KO β) : Nat → AV → KO β
 | 0, _, _, _ => none
 | m + 1, t1, t3, H => p.fadr 4 t1 fun t71 =>
   p.load false 1 t71 H fun t72 =>
   p.len t72 fun t73 =>
   p.bin .lss t3 t73 fun t74 =>
   p.cond t74
   (p.fadr 4 t1 fun t77 =>
   p.load false 1 t77 H fun t78 =>
   p.iadr 25 t78 t3 fun t80 =>
   p.load true 25 t80 H fun t81 =>
   p.call 4 (.fn 124 [] []) [t81] H fun t82 H =>
   p.un .not t82 fun t83 =>
   p.cond t83
   (k (.sc (.bool false)) H)
   (p.bin .add t3 (.sc (.int .i64 1)) fun t76 =>
   Hr p n  k m t1 t76 H))
   (p.fadr 1 t1 fun t84 =>
   p.load false 1 t84 H fun t85 =>
   p.bin .lss t85 (.sc (.int .i64 1)) fun t86 =>
   p.guard t86 false H (fun k' => p.fadr 2 t1 fun t' => k' t' H) fun t88 H =>
   p.guard t86 false H (fun k' => p.load true 2 t88 H fun t' => k' t' H) fun t89 H =>
   p.guard t86 false H (fun k' => p.call 4 (.fn 236 [] []) [t89] H fun t' H => k' t' H) fun t90 H =>
   p.guard t86 false H (fun k' => p.un .not t90 fun t' => k' t' H) fun t91 H =>
   p.pick t86 (.sc (.bool true)) t91 fun t92 =>
   p.guard t92 false H (fun k' => p.fadr 4 t1 fun t' => k' t' H) fun t94 H =>
   p.guard t92 false H (fun k' => p.load false 1 t94 H fun t' => k' t' H) fun t95 H =>
   p.guard t92 false H (fun k' => p.len t95 fun t' => k' t' H) fun t96 H =>
   p.guard t92 false H (fun k' => p.bin .gtr t96 (.sc (.int .i64 6)) fun t' => k' t' H) fun t97 H =>
   p.pick t92 (.sc (.bool true)) t97 fun t98 =>
   p.guard t98 false H (fun k' => p.fadr 8 t1 fun t' => k' t' H) fun t100 H =>
   p.guard t98 false H (fun k' => p.load false 1 t100 H fun t' => k' t' H) fun t101 H =>
   p.guard t98 false H (fun k' => p.bin .lss t101 (.sc (.int .i64 0)) fun t' => k' t' H) fun t102 H =>
   p.pick t98 (.sc (.bool true)) t102 fun t103 =>
   p.cond t103
   (k (.sc (.bool false)) H)
   (p.fadr 5 t1 fun t104 =>
   p.load false 1 t104 H fun t105 =>
   p.un .not t105 fun t106 =>
   p.cond t106
   (p.fadr 6 t1 fun t107 =>
   p.load false 1 t107 H fun t108 =>
   p.bin .eql t108 (.sc (.string ⟨#[]⟩)) fun t109 =>
   p.guard t109 true H (fun k' => p.fadr 7 t1 fun t' => k' t' H) fun t111 H =>
   p.guard t109 true H (fun k' => p.load false 1 t111 H fun t' => k' t' H) fun t112 H =>
   p.guard t109 true H (fun k' => p.bin .eql t112 (.sc (.int .i64 0)) fun t' => k' t' H) fun t113 H =>
   p.pick t109 t113 (.sc (.bool false)) fun t114 =>
   p.guard t114 true H (fun k' => p.fadr 9 t1 fun t' => k' t' H) fun t116 H =>
   p.guard t114 true H (fun k' => p.load false 1 t116 H fun t' => k' t' H) fun t117 H =>
   p.guard t114 true H (fun k' => p.un .not t117 fun t' => k' t' H) fun t118 H =>
   p.pick t114 t118 (.sc (.bool false)) fun t119 =>
   p.guard t119 true H (fun k' => p.fadr 10 t1 fun t' => k' t' H) fun t121 H =>
   p.guard t119 true H (fun k' => p.load true 4 t121 H fun t' => k' t' H) fun t122 H =>
   p.guard t119 true H (fun k' => p.call 4 (.fn 142 [] []) [t122] H fun t' H => k' t' H) fun t123 H =>
   p.pick t119 t123 (.sc (.bool false)) fun t124 =>
   k t124 H)
   (p.fadr 9 t1 fun t125 =>
   p.load false 1 t125 H fun t126 =>
   p.guard t126 true H (fun k' => p.fadr 10 t1 fun t' => k' t' H) fun t128 H =>
   p.guard t126 true H (fun k' => p.load true 4 t128 H fun t' => k' t' H) fun t129 H =>
   p.guard t126 true H (fun k' => p.call 4 (.fn 139 [] []) [t129] H fun t' H => k' t' H) fun t130 H =>
   p.guard t126 true H (fun k' => p.un .not t130 fun t' => k' t' H) fun t131 H =>
   p.pick t126 t131 (.sc (.bool false)) fun t132 =>
   p.guard t132 false H (fun k' => p.fadr 9 t1 fun t' => k' t' H) fun t134 H =>
   p.guard t132 false H (fun k' => p.load false 1 t134 H fun t' => k' t' H) fun t135 H =>
   p.guard t132 false H (fun k' => p.un .not t135 fun t' => k' t' H) fun t136 H =>
   p.guard t132 false H (fun k' => k' t136 H) fun t137 H =>
   p.guard t137 true H (fun k' => p.fadr 10 t1 fun t' => k' t' H) fun t138 H =>
   p.guard t137 true H (fun k' => p.load true 4 t138 H fun t' => k' t' H) fun t139 H =>
   p.guard t137 true H (fun k' => p.call 4 (.fn 142 [] []) [t139] H fun t' H => k' t' H) fun t140 H =>
   p.guard t137 true H (fun k' => p.un .not t140 fun t' => k' t' H) fun t141 H =>
   p.guard t132 false H (fun k' => p.pick t137 t141 (.sc (.bool false)) fun t' => k' t' H) fun t142 H =>
   p.pick t132 (.sc (.bool true)) t142 fun t143 =>
   p.cond t143
   (k (.sc (.bool false)) H)
   (p.fadr 6 t1 fun t144 =>
   p.load false 1 t144 H fun t145 =>
   p.call 4 (.fn 137 [] []) [t145] H fun t146 H =>
   p.guard t146 true H (fun k' => p.fadr 6 t1 fun t' => k' t' H) fun t148 H =>
   p.guard t146 true H (fun k' => p.load false 1 t148 H fun t' => k' t' H) fun t149 H =>
   p.guard t146 true H (fun k' => p.bin .neq t149 (.sc (.string ⟨#[]⟩)) fun t' => k' t' H) fun t150 H =>
   p.pick t146 t150 (.sc (.bool false)) fun t151 =>
   p.guard t151 true H (fun k' => p.fadr 7 t1 fun t' => k' t' H) fun t153 H =>
   p.guard t151 true H (fun k' => p.load false 1 t153 H fun t' => k' t' H) fun t154 H =>
   p.guard t151 true H (fun k' => p.call 4 (.fn 187 [] []) [t154, (.sc (.int .i64 0)), (.sc (.int .i64 65535))] H fun t' H => k' t' H) fun t155 H =>
   p.pick t151 t155 (.sc (.bool false)) fun t156 =>
   k t156 H))))
noncomputable def f155 (p : Pr β) (n : Nat) (a0 : AV) (H : Aa) (k : KO β) : Option β :=
 p.box a0 H fun t1 H =>
 p.fadr 0 t1 fun t4 =>
 p.load false 1 t4 H fun t5 =>
 p.un .not t5 fun t6 =>
 p.cond t6
 (p.fadr 1 t1 fun t7 =>
 p.load false 1 t7 H fun t8 =>
 p.bin .eql t8 (.sc (.int .i64 0)) fun t9 =>
 p.guard t9 true H (fun k' => p.fadr 2 t1 fun t' => k' t' H) fun t11 H =>
 p.guard t9 true H (fun k' => p.fadr 0 t11 fun t' => k' t' H) fun t12 H =>
 p.guard t9 true H (fun k' => p.load false 1 t12 H fun t' => k' t' H) fun t13 H =>
 p.guard t9 true H (fun k' => p.len t13 fun t' => k' t' H) fun t14 H =>
 p.guard t9 true H (fun k' => p.bin .eql t14 (.sc (.int .i64 0)) fun t' => k' t' H) fun t15 H =>
 p.pick t9 t15 (.sc (.bool false)) fun t16 =>
 p.guard t16 true H (fun k' => p.fadr 2 t1 fun t' => k' t' H) fun t18 H =>
 p.guard t16 true H (fun k' => p.fadr 1 t18 fun t' => k' t' H) fun t19 H =>
 p.guard t16 true H (fun k' => p.load false 1 t19 H fun t' => k' t' H) fun t20 H =>
 p.guard t16 true H (fun k' => p.un .not t20 fun t' => k' t' H) fun t21 H =>
 p.pick t16 t21 (.sc (.bool false)) fun t22 =>
 p.guard t22 true H (fun k' => p.fadr 4 t1 fun t' => k' t' H) fun t24 H =>
 p.guard t22 true H (fun k' => p.load false 1 t24 H fun t' => k' t' H) fun t25 H =>
 p.guard t22 true H (fun k' => p.len t25 fun t' => k' t' H) fun t26 H =>
 p.guard t22 true H (fun k' => p.bin .eql t26 (.sc (.int .i64 0)) fun t' => k' t' H) fun t27 H =>
 p.pick t22 t27 (.sc (.bool false)) fun t28 =>
 p.guard t28 true H (fun k' => p.fadr 5 t1 fun t' => k' t' H) fun t30 H =>
 p.guard t28 true H (fun k' => p.load false 1 t30 H fun t' => k' t' H) fun t31 H =>
 p.guard t28 true H (fun k' => p.un .not t31 fun t' => k' t' H) fun t32 H =>
 p.pick t28 t32 (.sc (.bool false)) fun t33 =>
 p.guard t33 true H (fun k' => p.fadr 6 t1 fun t' => k' t' H) fun t35 H =>
 p.guard t33 true H (fun k' => p.load false 1 t35 H fun t' => k' t' H) fun t36 H =>
 p.guard t33 true H (fun k' => p.bin .eql t36 (.sc (.string ⟨#[]⟩)) fun t' => k' t' H) fun t37 H =>
 p.pick t33 t37 (.sc (.bool false)) fun t38 =>
 p.guard t38 true H (fun k' => p.fadr 7 t1 fun t' => k' t' H) fun t40 H =>
 p.guard t38 true H (fun k' => p.load false 1 t40 H fun t' => k' t' H) fun t41 H =>
 p.guard t38 true H (fun k' => p.bin .eql t41 (.sc (.int .i64 0)) fun t' => k' t' H) fun t42 H =>
 p.pick t38 t42 (.sc (.bool false)) fun t43 =>
 p.guard t43 true H (fun k' => p.fadr 8 t1 fun t' => k' t' H) fun t45 H =>
 p.guard t43 true H (fun k' => p.load false 1 t45 H fun t' => k' t' H) fun t46 H =>
 p.guard t43 true H (fun k' => p.bin .eql t46 (.sc (.int .i64 0)) fun t' => k' t' H) fun t47 H =>
 p.pick t43 t47 (.sc (.bool false)) fun t48 =>
 p.guard t48 true H (fun k' => p.fadr 9 t1 fun t' => k' t' H) fun t50 H =>
 p.guard t48 true H (fun k' => p.load false 1 t50 H fun t' => k' t' H) fun t51 H =>
 p.guard t48 true H (fun k' => p.un .not t51 fun t' => k' t' H) fun t52 H =>
 p.pick t48 t52 (.sc (.bool false)) fun t53 =>
 p.guard t53 true H (fun k' => p.fadr 10 t1 fun t' => k' t' H) fun t55 H =>
 p.guard t53 true H (fun k' => p.load true 4 t55 H fun t' => k' t' H) fun t56 H =>
 p.guard t53 true H (fun k' => p.call 4 (.fn 142 [] []) [t56] H fun t' H => k' t' H) fun t57 H =>
 p.pick t53 t57 (.sc (.bool false)) fun t58 =>
 p.guard t58 true H (fun k' => p.fadr 14 t1 fun t' => k' t' H) fun t60 H =>
 p.guard t58 true H (fun k' => p.load false 1 t60 H fun t' => k' t' H) fun t61 H =>
 p.guard t58 true H (fun k' => p.un .not t61 fun t' => k' t' H) fun t62 H =>
 p.pick t58 t62 (.sc (.bool false)) fun t63 =>
 p.guard t63 true H (fun k' => p.fadr 15 t1 fun t' => k' t' H) fun t65 H =>
 p.guard t63 true H (fun k' => p.load false 1 t65 H fun t' => k' t' H) fun t66 H =>
 p.guard t63 true H (fun k' => p.len t66 fun t' => k' t' H) fun t67 H =>
 p.guard t63 true H (fun k' => p.bin .eql t67 (.sc (.int .i64 0)) fun t' => k' t' H) fun t68 H =>
 p.pick t63 t68 (.sc (.bool false)) fun t69 =>
 k t69 H)
 (Hr p n  k n t1 (.sc (.int .i64 0)) H)
noncomputable def Qt (p : Pr β) (n : Nat)  (k : KO β) (m : Nat) (tm : Tm) (H : Aa) : Option β :=
 Bs 157 (fun tm H k => Ac Ad p [] 157 n (cd Zp [1, 1, 0, 1, 0, 0]) tm H k) (E1 0 (Es (fun tm H => Ac Ad p [] 157 n (cd Zp [1, 1, 1]) tm H (B3 Ad p fi155.results k)) (B3 Ad p fi155.results k))) m tm H
theorem Pb (p : Pr β) (n : Nat)  (k : KO β) (m0 : Nat) : ∀ (t : Nat → AV) (H : Aa), Qt p n  k m0 (tf 157 0 t) H = Hr p n  k m0 (t 1) (t 3) H := by
 induction m0 with
 | zero => intros; rfl
 | succ m0 ih =>
  intro t H
  refine Eq.trans (A1 (nt := 157) (m := m0) (g := fun t H => Hr p n  k m0 (t 1) (t 3) H) ih rfl) ?_
  kernel_rfl
theorem T4 (p : Pr β) (n : Nat) (a0 : AV) (H : Aa) (k : KO β) : Av Ad p n fi155 [a0] H k =
 p.box a0 H fun t1 H =>
 p.fadr 0 t1 fun t4 =>
 p.load false 1 t4 H fun t5 =>
 p.un .not t5 fun t6 =>
 p.cond t6
 (p.fadr 1 t1 fun t7 =>
 p.load false 1 t7 H fun t8 =>
 p.bin .eql t8 (.sc (.int .i64 0)) fun t9 =>
 p.guard t9 true H (fun k' => p.fadr 2 t1 fun t' => k' t' H) fun t11 H =>
 p.guard t9 true H (fun k' => p.fadr 0 t11 fun t' => k' t' H) fun t12 H =>
 p.guard t9 true H (fun k' => p.load false 1 t12 H fun t' => k' t' H) fun t13 H =>
 p.guard t9 true H (fun k' => p.len t13 fun t' => k' t' H) fun t14 H =>
 p.guard t9 true H (fun k' => p.bin .eql t14 (.sc (.int .i64 0)) fun t' => k' t' H) fun t15 H =>
 p.pick t9 t15 (.sc (.bool false)) fun t16 =>
 p.guard t16 true H (fun k' => p.fadr 2 t1 fun t' => k' t' H) fun t18 H =>
 p.guard t16 true H (fun k' => p.fadr 1 t18 fun t' => k' t' H) fun t19 H =>
 p.guard t16 true H (fun k' => p.load false 1 t19 H fun t' => k' t' H) fun t20 H =>
 p.guard t16 true H (fun k' => p.un .not t20 fun t' => k' t' H) fun t21 H =>
 p.pick t16 t21 (.sc (.bool false)) fun t22 =>
 p.guard t22 true H (fun k' => p.fadr 4 t1 fun t' => k' t' H) fun t24 H =>
 p.guard t22 true H (fun k' => p.load false 1 t24 H fun t' => k' t' H) fun t25 H =>
 p.guard t22 true H (fun k' => p.len t25 fun t' => k' t' H) fun t26 H =>
 p.guard t22 true H (fun k' => p.bin .eql t26 (.sc (.int .i64 0)) fun t' => k' t' H) fun t27 H =>
 p.pick t22 t27 (.sc (.bool false)) fun t28 =>
 p.guard t28 true H (fun k' => p.fadr 5 t1 fun t' => k' t' H) fun t30 H =>
 p.guard t28 true H (fun k' => p.load false 1 t30 H fun t' => k' t' H) fun t31 H =>
 p.guard t28 true H (fun k' => p.un .not t31 fun t' => k' t' H) fun t32 H =>
 p.pick t28 t32 (.sc (.bool false)) fun t33 =>
 p.guard t33 true H (fun k' => p.fadr 6 t1 fun t' => k' t' H) fun t35 H =>
 p.guard t33 true H (fun k' => p.load false 1 t35 H fun t' => k' t' H) fun t36 H =>
 p.guard t33 true H (fun k' => p.bin .eql t36 (.sc (.string ⟨#[]⟩)) fun t' => k' t' H) fun t37 H =>
 p.pick t33 t37 (.sc (.bool false)) fun t38 =>
 p.guard t38 true H (fun k' => p.fadr 7 t1 fun t' => k' t' H) fun t40 H =>
 p.guard t38 true H (fun k' => p.load false 1 t40 H fun t' => k' t' H) fun t41 H =>
 p.guard t38 true H (fun k' => p.bin .eql t41 (.sc (.int .i64 0)) fun t' => k' t' H) fun t42 H =>
 p.pick t38 t42 (.sc (.bool false)) fun t43 =>
 p.guard t43 true H (fun k' => p.fadr 8 t1 fun t' => k' t' H) fun t45 H =>
 p.guard t43 true H (fun k' => p.load false 1 t45 H fun t' => k' t' H) fun t46 H =>
 p.guard t43 true H (fun k' => p.bin .eql t46 (.sc (.int .i64 0)) fun t' => k' t' H) fun t47 H =>
 p.pick t43 t47 (.sc (.bool false)) fun t48 =>
 p.guard t48 true H (fun k' => p.fadr 9 t1 fun t' => k' t' H) fun t50 H =>
 p.guard t48 true H (fun k' => p.load false 1 t50 H fun t' => k' t' H) fun t51 H =>
 p.guard t48 true H (fun k' => p.un .not t51 fun t' => k' t' H) fun t52 H =>
 p.pick t48 t52 (.sc (.bool false)) fun t53 =>
 p.guard t53 true H (fun k' => p.fadr 10 t1 fun t' => k' t' H) fun t55 H =>
 p.guard t53 true H (fun k' => p.load true 4 t55 H fun t' => k' t' H) fun t56 H =>
 p.guard t53 true H (fun k' => p.call 4 (.fn 142 [] []) [t56] H fun t' H => k' t' H) fun t57 H =>
 p.pick t53 t57 (.sc (.bool false)) fun t58 =>
 p.guard t58 true H (fun k' => p.fadr 14 t1 fun t' => k' t' H) fun t60 H =>
 p.guard t58 true H (fun k' => p.load false 1 t60 H fun t' => k' t' H) fun t61 H =>
 p.guard t58 true H (fun k' => p.un .not t61 fun t' => k' t' H) fun t62 H =>
 p.pick t58 t62 (.sc (.bool false)) fun t63 =>
 p.guard t63 true H (fun k' => p.fadr 15 t1 fun t' => k' t' H) fun t65 H =>
 p.guard t63 true H (fun k' => p.load false 1 t65 H fun t' => k' t' H) fun t66 H =>
 p.guard t63 true H (fun k' => p.len t66 fun t' => k' t' H) fun t67 H =>
 p.guard t63 true H (fun k' => p.bin .eql t67 (.sc (.int .i64 0)) fun t' => k' t' H) fun t68 H =>
 p.pick t63 t68 (.sc (.bool false)) fun t69 =>
 k t69 H)
 (Qt p n  k n (tf 157 0 (ud [(0, a0), (1, t1), (2, (.sc (.bool false))), (3, (.sc (.int .i64 0))), (4, t4), (5, t5), (6, t6)] ut)) H) := by kernel_rfl
theorem R5 : Yo fi155 @f155 := fun p n a0 H k => by
 rw [T4]
 simp only [Pb]
 kernel_rfl
noncomputable def f46 (p : Pr β) (n : Nat) (a0 a1 : AV) (H : Aa) (k : KO β) : Option β :=
 p.new [(.sc (.bool false)), (.sc (.int .i64 0)), .nl, (.sc (.bool false)), .nl, (.sc (.bool false)), (.sc (.string ⟨#[]⟩)), (.sc (.int .i64 0)), (.sc (.int .i64 0)), (.sc (.bool false)), (.sc (.string ⟨#[]⟩)), .nl, (.sc (.int .i64 0)), (.sc (.bool false)), (.sc (.bool false)), .nl] H fun t4 H =>
 p.fill [(.sc (.bool false)), (.sc (.int .i64 0)), .nl, (.sc (.bool false)), .nl, (.sc (.bool false)), (.sc (.string ⟨#[]⟩)), (.sc (.int .i64 0)), (.sc (.int .i64 0)), (.sc (.bool false)), (.sc (.string ⟨#[]⟩)), .nl, (.sc (.int .i64 0)), (.sc (.bool false)), (.sc (.bool false)), .nl] [(0, 1, (.sc (.bool true))), (1, 1, a0), (8, 1, a1)] fun ct8 =>
 p.new [(.sc (.bool false)), (.sc (.int .i64 0)), .nl, (.sc (.bool false)), .nl, (.sc (.bool false)), (.sc (.string ⟨#[]⟩)), (.sc (.int .i64 0)), (.sc (.int .i64 0)), (.sc (.bool false)), (.sc (.string ⟨#[]⟩)), .nl, (.sc (.int .i64 0)), (.sc (.bool false)), (.sc (.bool false)), .nl] H fun t5 H =>
 p.store 16 t5 (.agg ct8) H fun H =>
 p.load true 16 t5 H fun t9 =>
 p.call 4 (.fn 155 [] []) [t9] H fun t10 H =>
 p.un .not t10 fun t11 =>
 p.cond t11
 (p.fill [(.sc (.bool false)), (.sc (.int .i64 0)), .nl, (.sc (.bool false)), .nl, (.sc (.bool false)), (.sc (.string ⟨#[]⟩)), (.sc (.int .i64 0)), (.sc (.int .i64 0)), (.sc (.bool false)), (.sc (.string ⟨#[]⟩)), .nl, (.sc (.int .i64 0)), (.sc (.bool false)), (.sc (.bool false)), .nl] [] fun ct12 =>
 p.store 16 t4 (.agg ct12) H fun H =>
 p.load true 16 t4 H fun r0 =>
 k r0 H)
 (p.load true 16 t5 H fun t13 =>
 p.store 16 t4 t13 H fun H =>
 p.load true 16 t4 H fun r0 =>
 k r0 H)
theorem Uh : G3 AaA @f46 := fun p n a0 a1 H k => by kernel_rfl
noncomputable def f183 (p : Pr β) (n : Nat) (a0 a1 : AV) (H : Aa) (k : KO β) : Option β :=
 p.cvBS a0 H fun t6 =>
 p.cvBS a1 H fun t8 =>
 p.bin .eql t6 t8 fun t9 =>
 k t9 H
theorem Sf : G3 Y0 @f183 := fun p n a0 a1 H k => by kernel_rfl
noncomputable def f280 (p : Pr β) (n : Nat) (a0 : AV) (H : Aa) (k : KO β) : Option β :=
 p.new [(.sc (.int .i64 0)), (.sc (.bool false)), (.sc (.int .i64 0)), (.sc (.bool false)), (.sc (.int .i64 0)), (.sc (.string ⟨#[]⟩)), .nl, (.sc (.string ⟨#[]⟩)), (.sc (.int .i64 0)), (.sc (.bool false)), (.sc (.int .i64 0)), (.sc (.bool false)), (.sc (.string ⟨#[]⟩)), .nl, (.sc (.int .i64 0)), (.sc (.bool false)), (.sc (.bool false)), (.sc (.string ⟨#[]⟩)), (.sc (.bool false)), .nl, (.sc (.int .i64 0)), (.sc (.bool false)), .nl, .nl, .nl] H fun t2 H =>
 p.len a0 fun t10 =>
 p.bin .eql t10 (.sc (.int .i64 0)) fun t11 =>
 p.cond t11
 (p.fill [(.sc (.int .i64 0)), (.sc (.bool false)), (.sc (.int .i64 0)), (.sc (.bool false)), (.sc (.int .i64 0)), (.sc (.string ⟨#[]⟩)), .nl, (.sc (.string ⟨#[]⟩)), (.sc (.int .i64 0)), (.sc (.bool false)), (.sc (.int .i64 0)), (.sc (.bool false)), (.sc (.string ⟨#[]⟩)), .nl, (.sc (.int .i64 0)), (.sc (.bool false)), (.sc (.bool false)), (.sc (.string ⟨#[]⟩)), (.sc (.bool false)), .nl, (.sc (.int .i64 0)), (.sc (.bool false)), .nl, .nl, .nl] [] fun ct12 =>
 p.store 25 t2 (.agg ct12) H fun H =>
 p.load true 25 t2 H fun r0 =>
 k (Cc [r0, (.sc (.int .i64 0)), (.sc (.int .i64 1))]) H)
 (p.iadr 1 a0 (.sc (.int .i64 0)) fun t14 =>
 p.load false 1 t14 H fun t15 =>
 p.cvI .i64 t15 fun t16 =>
 p.call 4 (.fn 308 [] []) [t16] H fun t17 H =>
 p.un .not t17 fun t18 =>
 p.cond t18
 (p.fill [(.sc (.int .i64 0)), (.sc (.bool false)), (.sc (.int .i64 0)), (.sc (.bool false)), (.sc (.int .i64 0)), (.sc (.string ⟨#[]⟩)), .nl, (.sc (.string ⟨#[]⟩)), (.sc (.int .i64 0)), (.sc (.bool false)), (.sc (.int .i64 0)), (.sc (.bool false)), (.sc (.string ⟨#[]⟩)), .nl, (.sc (.int .i64 0)), (.sc (.bool false)), (.sc (.bool false)), (.sc (.string ⟨#[]⟩)), (.sc (.bool false)), .nl, (.sc (.int .i64 0)), (.sc (.bool false)), .nl, .nl, .nl] [] fun ct19 =>
 p.store 25 t2 (.agg ct19) H fun H =>
 p.load true 25 t2 H fun r0 =>
 k (Cc [r0, (.sc (.int .i64 0)), (.sc (.int .i64 2))]) H)
 (p.call 315 (.fn 309 [] []) [a0, (.sc (.int .i64 1))] H fun t22 H =>
 p.extr t22 0 fun t23 =>
 p.extr t22 1 fun t24 =>
 p.extr t22 2 fun t25 =>
 p.bin .neq t25 (.sc (.int .i64 0)) fun t28 =>
 p.cond t28
 (p.fill [(.sc (.int .i64 0)), (.sc (.bool false)), (.sc (.int .i64 0)), (.sc (.bool false)), (.sc (.int .i64 0)), (.sc (.string ⟨#[]⟩)), .nl, (.sc (.string ⟨#[]⟩)), (.sc (.int .i64 0)), (.sc (.bool false)), (.sc (.int .i64 0)), (.sc (.bool false)), (.sc (.string ⟨#[]⟩)), .nl, (.sc (.int .i64 0)), (.sc (.bool false)), (.sc (.bool false)), (.sc (.string ⟨#[]⟩)), (.sc (.bool false)), .nl, (.sc (.int .i64 0)), (.sc (.bool false)), .nl, .nl, .nl] [] fun ct29 =>
 p.store 25 t2 (.agg ct29) H fun H =>
 p.load true 25 t2 H fun r0 =>
 k (Cc [r0, (.sc (.int .i64 0)), t25]) H)
 (p.bin .gtr t23 (.sc (.int .i64 340)) fun t33 =>
 p.cond t33
 (p.fill [(.sc (.int .i64 0)), (.sc (.bool false)), (.sc (.int .i64 0)), (.sc (.bool false)), (.sc (.int .i64 0)), (.sc (.string ⟨#[]⟩)), .nl, (.sc (.string ⟨#[]⟩)), (.sc (.int .i64 0)), (.sc (.bool false)), (.sc (.int .i64 0)), (.sc (.bool false)), (.sc (.string ⟨#[]⟩)), .nl, (.sc (.int .i64 0)), (.sc (.bool false)), (.sc (.bool false)), (.sc (.string ⟨#[]⟩)), (.sc (.bool false)), .nl, (.sc (.int .i64 0)), (.sc (.bool false)), .nl, .nl, .nl] [] fun ct34 =>
 p.store 25 t2 (.agg ct34) H fun H =>
 p.load true 25 t2 H fun r0 =>
 k (Cc [r0, (.sc (.int .i64 0)), (.sc (.int .i64 2))]) H)
 (p.len a0 fun t38 =>
 p.bin .sub t38 t24 fun t40 =>
 p.bin .gtr t23 t40 fun t41 =>
 p.cond t41
 (p.fill [(.sc (.int .i64 0)), (.sc (.bool false)), (.sc (.int .i64 0)), (.sc (.bool false)), (.sc (.int .i64 0)), (.sc (.string ⟨#[]⟩)), .nl, (.sc (.string ⟨#[]⟩)), (.sc (.int .i64 0)), (.sc (.bool false)), (.sc (.int .i64 0)), (.sc (.bool false)), (.sc (.string ⟨#[]⟩)), .nl, (.sc (.int .i64 0)), (.sc (.bool false)), (.sc (.bool false)), (.sc (.string ⟨#[]⟩)), (.sc (.bool false)), .nl, (.sc (.int .i64 0)), (.sc (.bool false)), .nl, .nl, .nl] [] fun ct42 =>
 p.store 25 t2 (.agg ct42) H fun H =>
 p.load true 25 t2 H fun r0 =>
 k (Cc [r0, (.sc (.int .i64 0)), (.sc (.int .i64 1))]) H)
 (p.iadr 1 a0 (.sc (.int .i64 0)) fun t44 =>
 p.load false 1 t44 H fun t45 =>
 p.cvI .i64 t45 fun t46 =>
 p.bin .add t24 t23 fun t51 =>
 p.slice 1 a0 (some t24) (some t51) fun t52 =>
 p.both
 (p.call 36 (.fn 310 [] []) [t46, t52] H fun t53 H =>
 p.new [(.sc (.int .i64 0)), (.sc (.bool false)), (.sc (.int .i64 0)), (.sc (.bool false)), (.sc (.int .i64 0)), (.sc (.string ⟨#[]⟩)), .nl, (.sc (.string ⟨#[]⟩)), (.sc (.int .i64 0)), (.sc (.bool false)), (.sc (.int .i64 0)), (.sc (.bool false)), (.sc (.string ⟨#[]⟩)), .nl, (.sc (.int .i64 0)), (.sc (.bool false)), (.sc (.bool false)), (.sc (.string ⟨#[]⟩)), (.sc (.bool false)), .nl, (.sc (.int .i64 0)), (.sc (.bool false)), .nl, .nl, .nl] H fun t8 H =>
 p.store 25 t8 t53 H fun H =>
 p.load true 25 t8 H fun t54 =>
 p.call 4 (.fn 76 [] []) [t54] H fun t55 H =>
 p.un .not t55 fun t56 =>
 p.guard t56 false H (fun k' => p.load true 25 t8 H fun t' => k' t' H) fun t58 H =>
 p.guard t56 false H (fun k' => k' a0 H) fun t60 H =>
 p.guard t56 false H (fun k' => k' t24 H) fun t61 H =>
 p.guard t56 false H (fun k' => k' t23 H) fun t62 H =>
 p.guard t56 false H (fun k' => p.bin .add t61 t62 fun t' => k' t' H) fun t63 H =>
 p.guard t56 false H (fun k' => p.slice 1 t60 none (some t63) fun t' => k' t' H) fun t64 H =>
 p.guard t56 false H (fun k' => p.call 31 (.fn 311 [] []) [t58] H fun t' H => k' t' H) fun t59 H =>
 p.guard t56 false H (fun k' => p.call 4 (.fn 183 [] []) [t59, t64] H fun t' H => k' t' H) fun t65 H =>
 p.guard t56 false H (fun k' => p.un .not t65 fun t' => k' t' H) fun t66 H =>
 p.pick t56 (.sc (.bool true)) t66 fun t67 =>
 p.cond t67
 (p.fill [(.sc (.int .i64 0)), (.sc (.bool false)), (.sc (.int .i64 0)), (.sc (.bool false)), (.sc (.int .i64 0)), (.sc (.string ⟨#[]⟩)), .nl, (.sc (.string ⟨#[]⟩)), (.sc (.int .i64 0)), (.sc (.bool false)), (.sc (.int .i64 0)), (.sc (.bool false)), (.sc (.string ⟨#[]⟩)), .nl, (.sc (.int .i64 0)), (.sc (.bool false)), (.sc (.bool false)), (.sc (.string ⟨#[]⟩)), (.sc (.bool false)), .nl, (.sc (.int .i64 0)), (.sc (.bool false)), .nl, .nl, .nl] [] fun ct68 =>
 p.store 25 t2 (.agg ct68) H fun H =>
 p.load true 25 t2 H fun r0 =>
 k (Cc [r0, (.sc (.int .i64 0)), (.sc (.int .i64 2))]) H)
 (p.load true 25 t8 H fun t69 =>
 p.bin .add t24 t23 fun t72 =>
 p.store 25 t2 t69 H fun H =>
 p.load true 25 t2 H fun r0 =>
 k (Cc [r0, t72, (.sc (.int .i64 0))]) H))
 (p.new [(.sc (.int .i64 0)), (.sc (.bool false)), (.sc (.int .i64 0)), (.sc (.bool false)), (.sc (.int .i64 0)), (.sc (.string ⟨#[]⟩)), .nl, (.sc (.string ⟨#[]⟩)), (.sc (.int .i64 0)), (.sc (.bool false)), (.sc (.int .i64 0)), (.sc (.bool false)), (.sc (.string ⟨#[]⟩)), .nl, (.sc (.int .i64 0)), (.sc (.bool false)), (.sc (.bool false)), (.sc (.string ⟨#[]⟩)), (.sc (.bool false)), .nl, (.sc (.int .i64 0)), (.sc (.bool false)), .nl, .nl, .nl] H fun t8 H =>
 p.call 36 (.fn 310 [] []) [t46, t52] H fun t53 H =>
 p.store 25 t8 t53 H fun H =>
 p.load true 25 t8 H fun t54 =>
 p.call 4 (.fn 76 [] []) [t54] H fun t55 H =>
 p.un .not t55 fun t56 =>
 p.guard t56 false H (fun k' => p.load true 25 t8 H fun t' => k' t' H) fun t58 H =>
 p.guard t56 false H (fun k' => k' a0 H) fun t60 H =>
 p.guard t56 false H (fun k' => k' t24 H) fun t61 H =>
 p.guard t56 false H (fun k' => k' t23 H) fun t62 H =>
 p.guard t56 false H (fun k' => p.bin .add t61 t62 fun t' => k' t' H) fun t63 H =>
 p.guard t56 false H (fun k' => p.slice 1 t60 none (some t63) fun t' => k' t' H) fun t64 H =>
 p.guard t56 false H (fun k' => p.call 31 (.fn 311 [] []) [t58] H fun t' H => k' t' H) fun t59 H =>
 p.guard t56 false H (fun k' => p.call 4 (.fn 183 [] []) [t59, t64] H fun t' H => k' t' H) fun t65 H =>
 p.guard t56 false H (fun k' => p.un .not t65 fun t' => k' t' H) fun t66 H =>
 p.pick t56 (.sc (.bool true)) t66 fun t67 =>
 p.cond t67
 (p.fill [(.sc (.int .i64 0)), (.sc (.bool false)), (.sc (.int .i64 0)), (.sc (.bool false)), (.sc (.int .i64 0)), (.sc (.string ⟨#[]⟩)), .nl, (.sc (.string ⟨#[]⟩)), (.sc (.int .i64 0)), (.sc (.bool false)), (.sc (.int .i64 0)), (.sc (.bool false)), (.sc (.string ⟨#[]⟩)), .nl, (.sc (.int .i64 0)), (.sc (.bool false)), (.sc (.bool false)), (.sc (.string ⟨#[]⟩)), (.sc (.bool false)), .nl, (.sc (.int .i64 0)), (.sc (.bool false)), .nl, .nl, .nl] [] fun ct68 =>
 p.store 25 t2 (.agg ct68) H fun H =>
 p.load true 25 t2 H fun r0 =>
 k (Cc [r0, (.sc (.int .i64 0)), (.sc (.int .i64 2))]) H)
 (p.load true 25 t8 H fun t69 =>
 p.bin .add t24 t23 fun t72 =>
 p.store 25 t2 t69 H fun H =>
 p.load true 25 t2 H fun r0 =>
 k (Cc [r0, t72, (.sc (.int .i64 0))]) H)))))))
theorem Sl : Yo Y5 @f280 := fun p n a0 H k => by kernel_rfl
noncomputable def f238 (p : Pr β) (n : Nat) (a0 : AV) (H : Aa) (k : KO β) : Option β :=
 p.box a0 H fun t1 H =>
 p.fadr 0 t1 fun t7 =>
 p.load false 1 t7 H fun t8 =>
 p.call 289 (.fn 280 [] []) [t8] H fun t9 H =>
 p.extr t9 0 fun t10 =>
 p.extr t9 1 fun t11 =>
 p.extr t9 2 fun t12 =>
 p.new [(.sc (.int .i64 0)), (.sc (.bool false)), (.sc (.int .i64 0)), (.sc (.bool false)), (.sc (.int .i64 0)), (.sc (.string ⟨#[]⟩)), .nl, (.sc (.string ⟨#[]⟩)), (.sc (.int .i64 0)), (.sc (.bool false)), (.sc (.int .i64 0)), (.sc (.bool false)), (.sc (.string ⟨#[]⟩)), .nl, (.sc (.int .i64 0)), (.sc (.bool false)), (.sc (.bool false)), (.sc (.string ⟨#[]⟩)), (.sc (.bool false)), .nl, (.sc (.int .i64 0)), (.sc (.bool false)), .nl, .nl, .nl] H fun t3 H =>
 p.store 25 t3 t10 H fun H =>
 p.fadr 0 t1 fun t13 =>
 p.load false 1 t13 H fun t14 =>
 p.len t14 fun t15 =>
 p.bin .eql t15 (.sc (.int .i64 0)) fun t16 =>
 p.guard t16 false H (fun k' => p.fadr 1 t1 fun t' => k' t' H) fun t18 H =>
 p.guard t16 false H (fun k' => p.load false 1 t18 H fun t' => k' t' H) fun t19 H =>
 p.guard t16 false H (fun k' => p.un .not t19 fun t' => k' t' H) fun t20 H =>
 p.guard t16 false H (fun k' => k' t20 H) fun t21 H =>
 p.guard t21 true H (fun k' => k' t12 H) fun t22 H =>
 p.guard t21 true H (fun k' => p.bin .eql t22 (.sc (.int .i64 1)) fun t' => k' t' H) fun t23 H =>
 p.guard t16 false H (fun k' => p.pick t21 t23 (.sc (.bool false)) fun t' => k' t' H) fun t24 H =>
 p.pick t16 (.sc (.bool true)) t24 fun t25 =>
 k t25 H
theorem Sj : Yo Y3 @f238 := fun p n a0 H k => by kernel_rfl
noncomputable def f62 (p : Pr β) (n : Nat) (a0 a1 : AV) (H : Aa) (k : KO β) : Option β :=
 p.box a0 H fun t2 H =>
 p.box a1 H fun t3 H =>
 p.fadr 0 t2 fun t5 =>
 p.load false 1 t5 H fun t6 =>
 p.fadr 0 t3 fun t7 =>
 p.load false 1 t7 H fun t8 =>
 p.bin .eql t6 t8 fun t9 =>
 p.guard t9 true H (fun k' => p.fadr 1 t2 fun t' => k' t' H) fun t11 H =>
 p.guard t9 true H (fun k' => p.load false 1 t11 H fun t' => k' t' H) fun t12 H =>
 p.guard t9 true H (fun k' => p.fadr 1 t3 fun t' => k' t' H) fun t13 H =>
 p.guard t9 true H (fun k' => p.load false 1 t13 H fun t' => k' t' H) fun t14 H =>
 p.guard t9 true H (fun k' => p.call 4 (.fn 183 [] []) [t12, t14] H fun t' H => k' t' H) fun t15 H =>
 p.pick t9 t15 (.sc (.bool false)) fun t16 =>
 p.guard t16 true H (fun k' => p.fadr 2 t2 fun t' => k' t' H) fun t18 H =>
 p.guard t16 true H (fun k' => p.load false 1 t18 H fun t' => k' t' H) fun t19 H =>
 p.guard t16 true H (fun k' => p.fadr 2 t3 fun t' => k' t' H) fun t20 H =>
 p.guard t16 true H (fun k' => p.load false 1 t20 H fun t' => k' t' H) fun t21 H =>
 p.guard t16 true H (fun k' => p.bin .eql t19 t21 fun t' => k' t' H) fun t22 H =>
 p.pick t16 t22 (.sc (.bool false)) fun t23 =>
 p.guard t23 true H (fun k' => p.fadr 3 t2 fun t' => k' t' H) fun t25 H =>
 p.guard t23 true H (fun k' => p.load false 1 t25 H fun t' => k' t' H) fun t26 H =>
 p.guard t23 true H (fun k' => p.fadr 3 t3 fun t' => k' t' H) fun t27 H =>
 p.guard t23 true H (fun k' => p.load false 1 t27 H fun t' => k' t' H) fun t28 H =>
 p.guard t23 true H (fun k' => p.binB .eql t26 t28 fun t' => k' t' H) fun t29 H =>
 p.pick t23 t29 (.sc (.bool false)) fun t30 =>
 k t30 H
theorem Um : G3 AaF @f62 := fun p n a0 a1 H k => by kernel_rfl
noncomputable def f239 (p : Pr β) (n : Nat) (a0 : AV) (H : Aa) (k : KO β) : Option β :=
 p.box a0 H fun t1 H =>
 p.fadr 5 t1 fun t3 =>
 p.load false 1 t3 H fun t4 =>
 p.un .not t4 fun t5 =>
 p.cond t5
 (p.fadr 6 t1 fun t6 =>
 p.load false 1 t6 H fun t7 =>
 p.bin .eql t7 (.sc (.string ⟨#[]⟩)) fun t8 =>
 p.guard t8 true H (fun k' => p.fadr 7 t1 fun t' => k' t' H) fun t10 H =>
 p.guard t8 true H (fun k' => p.load false 1 t10 H fun t' => k' t' H) fun t11 H =>
 p.guard t8 true H (fun k' => p.bin .eql t11 (.sc (.int .i64 0)) fun t' => k' t' H) fun t12 H =>
 p.pick t8 t12 (.sc (.bool false)) fun t13 =>
 p.guard t13 true H (fun k' => p.fadr 9 t1 fun t' => k' t' H) fun t15 H =>
 p.guard t13 true H (fun k' => p.load false 1 t15 H fun t' => k' t' H) fun t16 H =>
 p.guard t13 true H (fun k' => p.un .not t16 fun t' => k' t' H) fun t17 H =>
 p.pick t13 t17 (.sc (.bool false)) fun t18 =>
 p.guard t18 true H (fun k' => p.fadr 10 t1 fun t' => k' t' H) fun t20 H =>
 p.guard t18 true H (fun k' => p.load true 4 t20 H fun t' => k' t' H) fun t21 H =>
 p.guard t18 true H (fun k' => p.fill [(.sc (.string ⟨#[]⟩)), .nl, (.sc (.int .i64 0)), (.sc (.bool false))] [] fun ct' => k' (.agg ct') H) fun t22 H =>
 p.guard t18 true H (fun k' => p.call 4 (.fn 62 [] []) [t21, t22] H fun t' H => k' t' H) fun t23 H =>
 p.pick t18 t23 (.sc (.bool false)) fun t24 =>
 k t24 H)
 (p.fadr 6 t1 fun t25 =>
 p.load false 1 t25 H fun t26 =>
 p.call 4 (.fn 172 [] []) [t26] H fun t27 H =>
 p.guard t27 true H (fun k' => p.fadr 7 t1 fun t' => k' t' H) fun t29 H =>
 p.guard t27 true H (fun k' => p.load false 1 t29 H fun t' => k' t' H) fun t30 H =>
 p.guard t27 true H (fun k' => p.call 4 (.fn 191 [] []) [t30] H fun t' H => k' t' H) fun t31 H =>
 p.pick t27 t31 (.sc (.bool false)) fun t32 =>
 p.guard t32 true H (fun k' => p.fadr 9 t1 fun t' => k' t' H) fun t34 H =>
 p.guard t32 true H (fun k' => p.load false 1 t34 H fun t' => k' t' H) fun t35 H =>
 p.guard t32 true H (fun k' => k' t35 H) fun t36 H =>
 p.guard t36 true H (fun k' => p.fadr 10 t1 fun t' => k' t' H) fun t37 H =>
 p.guard t36 true H (fun k' => p.load true 4 t37 H fun t' => k' t' H) fun t38 H =>
 p.guard t36 true H (fun k' => p.call 4 (.fn 151 [] []) [t38] H fun t' H => k' t' H) fun t39 H =>
 p.guard t32 true H (fun k' => p.pick t36 t39 (.sc (.bool false)) fun t' => k' t' H) fun t40 H =>
 p.guard t32 true H (fun k' => k' t40 H) fun t41 H =>
 p.guard t41 false H (fun k' => p.fadr 9 t1 fun t' => k' t' H) fun t42 H =>
 p.guard t41 false H (fun k' => p.load false 1 t42 H fun t' => k' t' H) fun t43 H =>
 p.guard t41 false H (fun k' => p.un .not t43 fun t' => k' t' H) fun t44 H =>
 p.guard t41 false H (fun k' => k' t44 H) fun t45 H =>
 p.guard t45 true H (fun k' => p.fadr 10 t1 fun t' => k' t' H) fun t46 H =>
 p.guard t45 true H (fun k' => p.load true 4 t46 H fun t' => k' t' H) fun t47 H =>
 p.guard t45 true H (fun k' => p.fill [(.sc (.string ⟨#[]⟩)), .nl, (.sc (.int .i64 0)), (.sc (.bool false))] [] fun ct' => k' (.agg ct') H) fun t48 H =>
 p.guard t45 true H (fun k' => p.call 4 (.fn 62 [] []) [t47, t48] H fun t' H => k' t' H) fun t49 H =>
 p.guard t41 false H (fun k' => p.pick t45 t49 (.sc (.bool false)) fun t' => k' t' H) fun t50 H =>
 p.guard t32 true H (fun k' => p.pick t41 (.sc (.bool true)) t50 fun t' => k' t' H) fun t51 H =>
 p.pick t32 t51 (.sc (.bool false)) fun t52 =>
 k t52 H)
theorem Sk : Yo Y4 @f239 := fun p n a0 H k => by kernel_rfl
noncomputable def Hs (p : Pr β) (n : Nat)  (k : KO β) : Nat → AV → AV → AV → KO β
 | 0, _, _, _, _, _ => none
 | m + 1, t1, t11, t12, t13, H => p.bin .lss t13 t12 fun t14 =>
   p.cond t14
   (p.iadr 25 t11 t13 fun t15 =>
   p.load true 25 t15 H fun t16 =>
   p.new [(.sc (.int .i64 0)), (.sc (.bool false)), (.sc (.int .i64 0)), (.sc (.bool false)), (.sc (.int .i64 0)), (.sc (.string ⟨#[]⟩)), .nl, (.sc (.string ⟨#[]⟩)), (.sc (.int .i64 0)), (.sc (.bool false)), (.sc (.int .i64 0)), (.sc (.bool false)), (.sc (.string ⟨#[]⟩)), .nl, (.sc (.int .i64 0)), (.sc (.bool false)), (.sc (.bool false)), (.sc (.string ⟨#[]⟩)), (.sc (.bool false)), .nl, (.sc (.int .i64 0)), (.sc (.bool false)), .nl, .nl, .nl] H fun t4 H =>
   p.store 25 t4 t16 H fun H =>
   p.load true 25 t4 H fun t17 =>
   p.call 4 (.fn 76 [] []) [t17] H fun t18 H =>
   p.un .not t18 fun t19 =>
   p.cond t19
   (k (.sc (.bool false)) H)
   (p.bin .add t13 (.sc (.int .i64 1)) fun t20 =>
   Hs p n  k m t1 t11 t12 t20 H))
   (p.fadr 1 t1 fun t21 =>
   p.load false 1 t21 H fun t22 =>
   p.bin .geq t22 (.sc (.int .i64 1)) fun t23 =>
   p.guard t23 true H (fun k' => p.fadr 2 t1 fun t' => k' t' H) fun t25 H =>
   p.guard t23 true H (fun k' => p.load true 2 t25 H fun t' => k' t' H) fun t26 H =>
   p.guard t23 true H (fun k' => p.call 4 (.fn 238 [] []) [t26] H fun t' H => k' t' H) fun t27 H =>
   p.pick t23 t27 (.sc (.bool false)) fun t28 =>
   p.guard t28 true H (fun k' => p.fadr 4 t1 fun t' => k' t' H) fun t30 H =>
   p.guard t28 true H (fun k' => p.load false 1 t30 H fun t' => k' t' H) fun t31 H =>
   p.guard t28 true H (fun k' => p.len t31 fun t' => k' t' H) fun t32 H =>
   p.guard t28 true H (fun k' => p.bin .leq t32 (.sc (.int .i64 6)) fun t' => k' t' H) fun t33 H =>
   p.pick t28 t33 (.sc (.bool false)) fun t34 =>
   p.guard t34 true H (fun k' => p.fadr 8 t1 fun t' => k' t' H) fun t36 H =>
   p.guard t34 true H (fun k' => p.load false 1 t36 H fun t' => k' t' H) fun t37 H =>
   p.guard t34 true H (fun k' => p.bin .geq t37 (.sc (.int .i64 0)) fun t' => k' t' H) fun t38 H =>
   p.pick t34 t38 (.sc (.bool false)) fun t39 =>
   p.guard t39 true H (fun k' => p.load true 16 t1 H fun t' => k' t' H) fun t41 H =>
   p.guard t39 true H (fun k' => p.call 4 (.fn 239 [] []) [t41] H fun t' H => k' t' H) fun t42 H =>
   p.pick t39 t42 (.sc (.bool false)) fun t43 =>
   k t43 H)
noncomputable def f156 (p : Pr β) (n : Nat) (a0 : AV) (H : Aa) (k : KO β) : Option β :=
 p.box a0 H fun t1 H =>
 p.fadr 0 t1 fun t5 =>
 p.load false 1 t5 H fun t6 =>
 p.un .not t6 fun t7 =>
 p.cond t7
 (p.load true 16 t1 H fun t8 =>
 p.call 4 (.fn 237 [] []) [t8] H fun t9 H =>
 k t9 H)
 (p.fadr 4 t1 fun t10 =>
 p.load false 1 t10 H fun t11 =>
 p.len t11 fun t12 =>
 Hs p n  k n t1 t11 t12 (.sc (.int .i64 0)) H)
noncomputable def Qu (p : Pr β) (n : Nat)  (k : KO β) (m : Nat) (tm : Tm) (H : Aa) : Option β :=
 Bs 44 (fun tm H k => Ac Ad p [] 44 n (cd Zq [1, 1, 0, 1, 0, 0]) tm H k) (E1 0 (Es (fun tm H => Ac Ad p [] 44 n (cd Zq [1, 1, 1]) tm H (B3 Ad p fi156.results k)) (B3 Ad p fi156.results k))) m tm H
theorem Pc (p : Pr β) (n : Nat)  (k : KO β) (m0 : Nat) : ∀ (t : Nat → AV) (H : Aa), Qu p n  k m0 (tf 44 0 t) H = Hs p n  k m0 (t 1) (t 11) (t 12) (t 13) H := by
 induction m0 with
 | zero => intros; rfl
 | succ m0 ih =>
  intro t H
  refine Eq.trans (A1 (nt := 44) (m := m0) (g := fun t H => Hs p n  k m0 (t 1) (t 11) (t 12) (t 13) H) ih rfl) ?_
  kernel_rfl
theorem T5 (p : Pr β) (n : Nat) (a0 : AV) (H : Aa) (k : KO β) : Av Ad p n fi156 [a0] H k =
 p.box a0 H fun t1 H =>
 p.fadr 0 t1 fun t5 =>
 p.load false 1 t5 H fun t6 =>
 p.un .not t6 fun t7 =>
 p.cond t7
 (p.load true 16 t1 H fun t8 =>
 p.call 4 (.fn 237 [] []) [t8] H fun t9 H =>
 k t9 H)
 (p.fadr 4 t1 fun t10 =>
 p.load false 1 t10 H fun t11 =>
 p.len t11 fun t12 =>
 Qu p n  k n (tf 44 0 (ud [(0, a0), (1, t1), (2, (.sc (.bool false))), (5, t5), (6, t6), (7, t7), (10, t10), (11, t11), (12, t12), (13, (.sc (.int .i64 0)))] ut)) H) := by kernel_rfl
theorem R6 : Yo fi156 @f156 := fun p n a0 H k => by
 rw [T5]
 simp only [Pc]
 kernel_rfl
noncomputable def f47 (p : Pr β) (n : Nat) (a0 a1 : AV) (H : Aa) (k : KO β) : Option β :=
 p.new [(.sc (.bool false)), (.sc (.int .i64 0)), .nl, (.sc (.bool false)), .nl, (.sc (.bool false)), (.sc (.string ⟨#[]⟩)), (.sc (.int .i64 0)), (.sc (.int .i64 0)), (.sc (.bool false)), (.sc (.string ⟨#[]⟩)), .nl, (.sc (.int .i64 0)), (.sc (.bool false)), (.sc (.bool false)), .nl] H fun t4 H =>
 p.fill [(.sc (.bool false)), (.sc (.int .i64 0)), .nl, (.sc (.bool false)), .nl, (.sc (.bool false)), (.sc (.string ⟨#[]⟩)), (.sc (.int .i64 0)), (.sc (.int .i64 0)), (.sc (.bool false)), (.sc (.string ⟨#[]⟩)), .nl, (.sc (.int .i64 0)), (.sc (.bool false)), (.sc (.bool false)), .nl] [(0, 1, (.sc (.bool true))), (1, 1, a0), (8, 1, a1)] fun ct8 =>
 p.new [(.sc (.bool false)), (.sc (.int .i64 0)), .nl, (.sc (.bool false)), .nl, (.sc (.bool false)), (.sc (.string ⟨#[]⟩)), (.sc (.int .i64 0)), (.sc (.int .i64 0)), (.sc (.bool false)), (.sc (.string ⟨#[]⟩)), .nl, (.sc (.int .i64 0)), (.sc (.bool false)), (.sc (.bool false)), .nl] H fun t5 H =>
 p.store 16 t5 (.agg ct8) H fun H =>
 p.load true 16 t5 H fun t9 =>
 p.call 4 (.fn 156 [] []) [t9] H fun t10 H =>
 p.un .not t10 fun t11 =>
 p.cond t11
 (p.fill [(.sc (.bool false)), (.sc (.int .i64 0)), .nl, (.sc (.bool false)), .nl, (.sc (.bool false)), (.sc (.string ⟨#[]⟩)), (.sc (.int .i64 0)), (.sc (.int .i64 0)), (.sc (.bool false)), (.sc (.string ⟨#[]⟩)), .nl, (.sc (.int .i64 0)), (.sc (.bool false)), (.sc (.bool false)), .nl] [] fun ct12 =>
 p.store 16 t4 (.agg ct12) H fun H =>
 p.load true 16 t4 H fun r0 =>
 k r0 H)
 (p.load true 16 t5 H fun t13 =>
 p.store 16 t4 t13 H fun H =>
 p.load true 16 t4 H fun r0 =>
 k r0 H)
theorem Ui : G3 AaB @f47 := fun p n a0 a1 H k => by kernel_rfl
noncomputable def J8 (p : Pr β) (n : Nat)  (k : KO β) : Nat → AV → AV → KO β
 | 0, _, _, _, _ => none
 | m + 1, t0, t1, t5, H => p.len t0 fun t13 =>
   p.bin .lss t5 t13 fun t14 =>
   p.cond t14
   (p.iadr 1 t0 t5 fun t19 =>
   p.load false 1 t19 H fun t20 =>
   p.iadr 1 t1 t5 fun t23 =>
   p.load false 1 t23 H fun t24 =>
   p.bin .neq t20 t24 fun t25 =>
   p.cond t25
   (k (.sc (.bool false)) H)
   (p.bin .add t5 (.sc (.int .i64 1)) fun t16 =>
   J8 p n  k m t0 t1 t16 H))
   (k (.sc (.bool true)) H)
noncomputable def f95 (p : Pr β) (n : Nat) (a0 a1 : AV) (H : Aa) (k : KO β) : Option β :=
 p.len a0 fun t7 =>
 p.len a1 fun t9 =>
 p.bin .neq t7 t9 fun t10 =>
 p.cond t10
 (k (.sc (.bool false)) H)
 (J8 p n  k n a0 a1 (.sc (.int .i64 0)) H)
noncomputable def Un (p : Pr β) (n : Nat)  (k : KO β) (m : Nat) (tm : Tm) (H : Aa) : Option β :=
 Bs 26 (fun tm H k => Ac Ad p o95 26 n (cd c95 [1, 1, 0, 1, 0, 0]) tm H k) (E1 0 (Es (fun tm H => Ac Ad p o95 26 n (cd c95 [1, 1, 1]) tm H (B3 Ad p fi95.results k)) (B3 Ad p fi95.results k))) m tm H
theorem Sp (p : Pr β) (n : Nat)  (k : KO β) (m0 : Nat) : ∀ (t : Nat → AV) (H : Aa), Un p n  k m0 (tf 26 0 t) H = J8 p n  k m0 (t 0) (t 1) (t 5) H := by
 induction m0 with
 | zero => intros; rfl
 | succ m0 ih =>
  intro t H
  refine Eq.trans (A1 (nt := 26) (m := m0) (g := fun t H => J8 p n  k m0 (t 0) (t 1) (t 5) H) ih rfl) ?_
  kernel_rfl
theorem Xe (p : Pr β) (n : Nat) (a0 a1 : AV) (H : Aa) (k : KO β) : Av Ad p n fi95 [a0, a1] H k =
 p.len a0 fun t7 =>
 p.len a1 fun t9 =>
 p.bin .neq t7 t9 fun t10 =>
 p.cond t10
 (k (.sc (.bool false)) H)
 (Un p n  k n (tf 26 0 (ud [(0, a0), (1, a1), (4, (.sc (.bool false))), (5, (.sc (.int .i64 0))), (6, a0), (7, t7), (8, a1), (9, t9), (10, t10)] ut)) H) := by kernel_rfl
theorem Uo : G3 fi95 @f95 := fun p n a0 a1 H k => by
 rw [Xe]
 simp only [Sp]
 kernel_rfl
noncomputable def f157 (p : Pr β) (n : Nat) (a0 a1 : AV) (H : Aa) (k : KO β) : Option β :=
 p.box a0 H fun t2 H =>
 p.box a1 H fun t3 H =>
 p.fadr 0 t2 fun t5 =>
 p.load false 1 t5 H fun t6 =>
 p.fadr 0 t3 fun t7 =>
 p.load false 1 t7 H fun t8 =>
 p.call 4 (.fn 95 [] []) [t6, t8] H fun t9 H =>
 p.un .not t9 fun t10 =>
 p.cond t10
 (k (.sc (.bool false)) H)
 (p.fadr 1 t2 fun t11 =>
 p.load false 1 t11 H fun t12 =>
 p.fadr 1 t3 fun t13 =>
 p.load false 1 t13 H fun t14 =>
 p.binB .neq t12 t14 fun t15 =>
 p.cond t15
 (k (.sc (.bool false)) H)
 (k (.sc (.bool true)) H))
theorem R7 : G3 Yv @f157 := fun p n a0 a1 H k => by kernel_rfl
noncomputable def f215 (p : Pr β) (n : Nat) (a0 a1 : AV) (H : Aa) (k : KO β) : Option β :=
 p.box a0 H fun t2 H =>
 p.box a1 H fun t3 H =>
 p.fadr 0 t2 fun t5 =>
 p.load false 1 t5 H fun t6 =>
 p.fadr 0 t3 fun t7 =>
 p.load false 1 t7 H fun t8 =>
 p.bin .neq t6 t8 fun t9 =>
 p.cond t9
 (k (.sc (.bool false)) H)
 (p.fadr 1 t2 fun t10 =>
 p.load false 1 t10 H fun t11 =>
 p.fadr 1 t3 fun t12 =>
 p.load false 1 t12 H fun t13 =>
 p.bin .neq t11 t13 fun t14 =>
 p.cond t14
 (k (.sc (.bool false)) H)
 (k (.sc (.bool true)) H))
theorem Sg : G3 Y1 @f215 := fun p n a0 a1 H k => by kernel_rfl
noncomputable def J9 (p : Pr β) (n : Nat)  (k : KO β) : Nat → AV → AV → KO β
 | 0, _, _, _, _ => none
 | m + 1, t0, t1, t5, H => p.len t0 fun t13 =>
   p.bin .lss t5 t13 fun t14 =>
   p.cond t14
   (p.iadr 2 t0 t5 fun t19 =>
   p.load true 2 t19 H fun t20 =>
   p.iadr 2 t1 t5 fun t23 =>
   p.load true 2 t23 H fun t24 =>
   p.call 4 (.fn 215 [] []) [t20, t24] H fun t25 H =>
   p.un .not t25 fun t26 =>
   p.cond t26
   (k (.sc (.bool false)) H)
   (p.bin .add t5 (.sc (.int .i64 1)) fun t16 =>
   J9 p n  k m t0 t1 t16 H))
   (k (.sc (.bool true)) H)
noncomputable def f96 (p : Pr β) (n : Nat) (a0 a1 : AV) (H : Aa) (k : KO β) : Option β :=
 p.len a0 fun t7 =>
 p.len a1 fun t9 =>
 p.bin .neq t7 t9 fun t10 =>
 p.cond t10
 (k (.sc (.bool false)) H)
 (J9 p n  k n a0 a1 (.sc (.int .i64 0)) H)
noncomputable def Up (p : Pr β) (n : Nat)  (k : KO β) (m : Nat) (tm : Tm) (H : Aa) : Option β :=
 Bs 27 (fun tm H k => Ac Ad p o96 27 n (cd c96 [1, 1, 0, 1, 0, 0]) tm H k) (E1 0 (Es (fun tm H => Ac Ad p o96 27 n (cd c96 [1, 1, 1]) tm H (B3 Ad p fi96.results k)) (B3 Ad p fi96.results k))) m tm H
theorem Sq (p : Pr β) (n : Nat)  (k : KO β) (m0 : Nat) : ∀ (t : Nat → AV) (H : Aa), Up p n  k m0 (tf 27 0 t) H = J9 p n  k m0 (t 0) (t 1) (t 5) H := by
 induction m0 with
 | zero => intros; rfl
 | succ m0 ih =>
  intro t H
  refine Eq.trans (A1 (nt := 27) (m := m0) (g := fun t H => J9 p n  k m0 (t 0) (t 1) (t 5) H) ih rfl) ?_
  kernel_rfl
theorem Xf (p : Pr β) (n : Nat) (a0 a1 : AV) (H : Aa) (k : KO β) : Av Ad p n fi96 [a0, a1] H k =
 p.len a0 fun t7 =>
 p.len a1 fun t9 =>
 p.bin .neq t7 t9 fun t10 =>
 p.cond t10
 (k (.sc (.bool false)) H)
 (Up p n  k n (tf 27 0 (ud [(0, a0), (1, a1), (4, (.sc (.bool false))), (5, (.sc (.int .i64 0))), (6, a0), (7, t7), (8, a1), (9, t9), (10, t10)] ut)) H) := by kernel_rfl
theorem Uq : G3 fi96 @f96 := fun p n a0 a1 H k => by
 rw [Xf]
 simp only [Sq]
 kernel_rfl
noncomputable def Ka (p : Pr β) (n : Nat)  (k : KO β) : Nat → AV → AV → KO β
 | 0, _, _, _, _ => none
 | m + 1, t0, t1, t5, H => p.len t0 fun t13 =>
   p.bin .lss t5 t13 fun t14 =>
   p.cond t14
   (p.iadr 1 t0 t5 fun t19 =>
   p.load false 1 t19 H fun t20 =>
   p.iadr 1 t1 t5 fun t23 =>
   p.load false 1 t23 H fun t24 =>
   p.bin .neq t20 t24 fun t25 =>
   p.cond t25
   (k (.sc (.bool false)) H)
   (p.bin .add t5 (.sc (.int .i64 1)) fun t16 =>
   Ka p n  k m t0 t1 t16 H))
   (k (.sc (.bool true)) H)
noncomputable def f97 (p : Pr β) (n : Nat) (a0 a1 : AV) (H : Aa) (k : KO β) : Option β :=
 p.len a0 fun t7 =>
 p.len a1 fun t9 =>
 p.bin .neq t7 t9 fun t10 =>
 p.cond t10
 (k (.sc (.bool false)) H)
 (Ka p n  k n a0 a1 (.sc (.int .i64 0)) H)
noncomputable def Ur (p : Pr β) (n : Nat)  (k : KO β) (m : Nat) (tm : Tm) (H : Aa) : Option β :=
 Bs 26 (fun tm H k => Ac Ad p o97 26 n (cd c97 [1, 1, 0, 1, 0, 0]) tm H k) (E1 0 (Es (fun tm H => Ac Ad p o97 26 n (cd c97 [1, 1, 1]) tm H (B3 Ad p fi97.results k)) (B3 Ad p fi97.results k))) m tm H
theorem Sr (p : Pr β) (n : Nat)  (k : KO β) (m0 : Nat) : ∀ (t : Nat → AV) (H : Aa), Ur p n  k m0 (tf 26 0 t) H = Ka p n  k m0 (t 0) (t 1) (t 5) H := by
 induction m0 with
 | zero => intros; rfl
 | succ m0 ih =>
  intro t H
  refine Eq.trans (A1 (nt := 26) (m := m0) (g := fun t H => Ka p n  k m0 (t 0) (t 1) (t 5) H) ih rfl) ?_
  kernel_rfl
theorem Xg (p : Pr β) (n : Nat) (a0 a1 : AV) (H : Aa) (k : KO β) : Av Ad p n fi97 [a0, a1] H k =
 p.len a0 fun t7 =>
 p.len a1 fun t9 =>
 p.bin .neq t7 t9 fun t10 =>
 p.cond t10
 (k (.sc (.bool false)) H)
 (Ur p n  k n (tf 26 0 (ud [(0, a0), (1, a1), (4, (.sc (.bool false))), (5, (.sc (.int .i64 0))), (6, a0), (7, t7), (8, a1), (9, t9), (10, t10)] ut)) H) := by kernel_rfl
theorem Us : G3 fi97 @f97 := fun p n a0 a1 H k => by
 rw [Xg]
 simp only [Sr]
 kernel_rfl
noncomputable def J5 (p : Pr β) (n : Nat)  (k : KO β) : Nat → AV → AV → KO β
 | 0, _, _, _, _ => none
 | m + 1, t0, t1, t5, H => p.len t0 fun t13 =>
   p.bin .lss t5 t13 fun t14 =>
   p.cond t14
   (p.iadr 1 t0 t5 fun t19 =>
   p.load false 1 t19 H fun t20 =>
   p.iadr 1 t1 t5 fun t23 =>
   p.load false 1 t23 H fun t24 =>
   p.bin .neq t20 t24 fun t25 =>
   p.cond t25
   (k (.sc (.bool false)) H)
   (p.bin .add t5 (.sc (.int .i64 1)) fun t16 =>
   J5 p n  k m t0 t1 t16 H))
   (k (.sc (.bool true)) H)
noncomputable def f38 (p : Pr β) (n : Nat) (a0 a1 : AV) (H : Aa) (k : KO β) : Option β :=
 p.len a0 fun t7 =>
 p.len a1 fun t9 =>
 p.bin .neq t7 t9 fun t10 =>
 p.cond t10
 (k (.sc (.bool false)) H)
 (J5 p n  k n a0 a1 (.sc (.int .i64 0)) H)
noncomputable def Ub (p : Pr β) (n : Nat)  (k : KO β) (m : Nat) (tm : Tm) (H : Aa) : Option β :=
 Bs 26 (fun tm H k => Ac Ad p o38 26 n (cd c38 [1, 1, 0, 1, 0, 0]) tm H k) (E1 0 (Es (fun tm H => Ac Ad p o38 26 n (cd c38 [1, 1, 1]) tm H (B3 Ad p fi38.results k)) (B3 Ad p fi38.results k))) m tm H
theorem Sm (p : Pr β) (n : Nat)  (k : KO β) (m0 : Nat) : ∀ (t : Nat → AV) (H : Aa), Ub p n  k m0 (tf 26 0 t) H = J5 p n  k m0 (t 0) (t 1) (t 5) H := by
 induction m0 with
 | zero => intros; rfl
 | succ m0 ih =>
  intro t H
  refine Eq.trans (A1 (nt := 26) (m := m0) (g := fun t H => J5 p n  k m0 (t 0) (t 1) (t 5) H) ih rfl) ?_
  kernel_rfl
theorem Xa (p : Pr β) (n : Nat) (a0 a1 : AV) (H : Aa) (k : KO β) : Av Ad p n fi38 [a0, a1] H k =
 p.len a0 fun t7 =>
 p.len a1 fun t9 =>
 p.bin .neq t7 t9 fun t10 =>
 p.cond t10
 (k (.sc (.bool false)) H)
 (Ub p n  k n (tf 26 0 (ud [(0, a0), (1, a1), (4, (.sc (.bool false))), (5, (.sc (.int .i64 0))), (6, a0), (7, t7), (8, a1), (9, t9), (10, t10)] ut)) H) := by kernel_rfl
theorem Uc : G3 fi38 @f38 := fun p n a0 a1 H k => by
 rw [Xa]
 simp only [Sm]
 kernel_rfl
noncomputable def f17 (p : Pr β) (n : Nat) (a0 a1 : AV) (H : Aa) (k : KO β) : Option β :=
 p.box a0 H fun t2 H =>
 p.box a1 H fun t3 H =>
 p.fadr 0 t2 fun t5 =>
 p.load false 1 t5 H fun t6 =>
 p.fadr 0 t3 fun t7 =>
 p.load false 1 t7 H fun t8 =>
 p.bin .neq t6 t8 fun t9 =>
 p.cond t9
 (k (.sc (.bool false)) H)
 (p.fadr 1 t2 fun t10 =>
 p.load false 1 t10 H fun t11 =>
 p.fadr 1 t3 fun t12 =>
 p.load false 1 t12 H fun t13 =>
 p.binB .neq t11 t13 fun t14 =>
 p.cond t14
 (k (.sc (.bool false)) H)
 (p.fadr 2 t2 fun t15 =>
 p.load false 1 t15 H fun t16 =>
 p.fadr 2 t3 fun t17 =>
 p.load false 1 t17 H fun t18 =>
 p.bin .neq t16 t18 fun t19 =>
 p.cond t19
 (k (.sc (.bool false)) H)
 (p.fadr 3 t2 fun t20 =>
 p.load false 1 t20 H fun t21 =>
 p.fadr 3 t3 fun t22 =>
 p.load false 1 t22 H fun t23 =>
 p.binB .neq t21 t23 fun t24 =>
 p.cond t24
 (k (.sc (.bool false)) H)
 (p.fadr 4 t2 fun t25 =>
 p.load false 1 t25 H fun t26 =>
 p.fadr 4 t3 fun t27 =>
 p.load false 1 t27 H fun t28 =>
 p.bin .neq t26 t28 fun t29 =>
 p.cond t29
 (k (.sc (.bool false)) H)
 (p.fadr 5 t2 fun t30 =>
 p.load false 1 t30 H fun t31 =>
 p.fadr 5 t3 fun t32 =>
 p.load false 1 t32 H fun t33 =>
 p.bin .neq t31 t33 fun t34 =>
 p.cond t34
 (k (.sc (.bool false)) H)
 (p.fadr 6 t2 fun t35 =>
 p.load false 1 t35 H fun t36 =>
 p.fadr 6 t3 fun t37 =>
 p.load false 1 t37 H fun t38 =>
 p.call 4 (.fn 95 [] []) [t36, t38] H fun t39 H =>
 p.un .not t39 fun t40 =>
 p.cond t40
 (k (.sc (.bool false)) H)
 (p.fadr 7 t2 fun t41 =>
 p.load false 1 t41 H fun t42 =>
 p.fadr 7 t3 fun t43 =>
 p.load false 1 t43 H fun t44 =>
 p.bin .neq t42 t44 fun t45 =>
 p.cond t45
 (k (.sc (.bool false)) H)
 (p.fadr 8 t2 fun t46 =>
 p.load false 1 t46 H fun t47 =>
 p.fadr 8 t3 fun t48 =>
 p.load false 1 t48 H fun t49 =>
 p.bin .neq t47 t49 fun t50 =>
 p.cond t50
 (k (.sc (.bool false)) H)
 (p.fadr 9 t2 fun t51 =>
 p.load false 1 t51 H fun t52 =>
 p.fadr 9 t3 fun t53 =>
 p.load false 1 t53 H fun t54 =>
 p.binB .neq t52 t54 fun t55 =>
 p.cond t55
 (k (.sc (.bool false)) H)
 (p.fadr 10 t2 fun t56 =>
 p.load false 1 t56 H fun t57 =>
 p.fadr 10 t3 fun t58 =>
 p.load false 1 t58 H fun t59 =>
 p.bin .neq t57 t59 fun t60 =>
 p.cond t60
 (k (.sc (.bool false)) H)
 (p.fadr 11 t2 fun t61 =>
 p.load false 1 t61 H fun t62 =>
 p.fadr 11 t3 fun t63 =>
 p.load false 1 t63 H fun t64 =>
 p.binB .neq t62 t64 fun t65 =>
 p.cond t65
 (k (.sc (.bool false)) H)
 (p.fadr 12 t2 fun t66 =>
 p.load false 1 t66 H fun t67 =>
 p.fadr 12 t3 fun t68 =>
 p.load false 1 t68 H fun t69 =>
 p.bin .neq t67 t69 fun t70 =>
 p.cond t70
 (k (.sc (.bool false)) H)
 (p.fadr 13 t2 fun t71 =>
 p.load false 1 t71 H fun t72 =>
 p.fadr 13 t3 fun t73 =>
 p.load false 1 t73 H fun t74 =>
 p.call 4 (.fn 95 [] []) [t72, t74] H fun t75 H =>
 p.un .not t75 fun t76 =>
 p.cond t76
 (k (.sc (.bool false)) H)
 (p.fadr 14 t2 fun t77 =>
 p.load false 1 t77 H fun t78 =>
 p.fadr 14 t3 fun t79 =>
 p.load false 1 t79 H fun t80 =>
 p.bin .neq t78 t80 fun t81 =>
 p.cond t81
 (k (.sc (.bool false)) H)
 (p.fadr 15 t2 fun t82 =>
 p.load false 1 t82 H fun t83 =>
 p.fadr 15 t3 fun t84 =>
 p.load false 1 t84 H fun t85 =>
 p.binB .neq t83 t85 fun t86 =>
 p.cond t86
 (k (.sc (.bool false)) H)
 (p.fadr 16 t2 fun t87 =>
 p.load false 1 t87 H fun t88 =>
 p.fadr 16 t3 fun t89 =>
 p.load false 1 t89 H fun t90 =>
 p.binB .neq t88 t90 fun t91 =>
 p.cond t91
 (k (.sc (.bool false)) H)
 (p.fadr 17 t2 fun t92 =>
 p.load false 1 t92 H fun t93 =>
 p.fadr 17 t3 fun t94 =>
 p.load false 1 t94 H fun t95 =>
 p.bin .neq t93 t95 fun t96 =>
 p.cond t96
 (k (.sc (.bool false)) H)
 (p.fadr 18 t2 fun t97 =>
 p.load false 1 t97 H fun t98 =>
 p.fadr 18 t3 fun t99 =>
 p.load false 1 t99 H fun t100 =>
 p.binB .neq t98 t100 fun t101 =>
 p.cond t101
 (k (.sc (.bool false)) H)
 (p.fadr 19 t2 fun t102 =>
 p.load false 1 t102 H fun t103 =>
 p.fadr 19 t3 fun t104 =>
 p.load false 1 t104 H fun t105 =>
 p.call 4 (.fn 95 [] []) [t103, t105] H fun t106 H =>
 p.un .not t106 fun t107 =>
 p.cond t107
 (k (.sc (.bool false)) H)
 (p.fadr 20 t2 fun t108 =>
 p.load false 1 t108 H fun t109 =>
 p.fadr 20 t3 fun t110 =>
 p.load false 1 t110 H fun t111 =>
 p.bin .neq t109 t111 fun t112 =>
 p.cond t112
 (k (.sc (.bool false)) H)
 (p.fadr 21 t2 fun t113 =>
 p.load false 1 t113 H fun t114 =>
 p.fadr 21 t3 fun t115 =>
 p.load false 1 t115 H fun t116 =>
 p.binB .neq t114 t116 fun t117 =>
 p.cond t117
 (k (.sc (.bool false)) H)
 (p.fadr 22 t2 fun t118 =>
 p.load false 1 t118 H fun t119 =>
 p.fadr 22 t3 fun t120 =>
 p.load false 1 t120 H fun t121 =>
 p.call 4 (.fn 96 [] []) [t119, t121] H fun t122 H =>
 p.un .not t122 fun t123 =>
 p.cond t123
 (k (.sc (.bool false)) H)
 (p.fadr 23 t2 fun t124 =>
 p.load false 1 t124 H fun t125 =>
 p.fadr 23 t3 fun t126 =>
 p.load false 1 t126 H fun t127 =>
 p.call 4 (.fn 97 [] []) [t125, t127] H fun t128 H =>
 p.un .not t128 fun t129 =>
 p.cond t129
 (k (.sc (.bool false)) H)
 (p.fadr 24 t2 fun t130 =>
 p.load false 1 t130 H fun t131 =>
 p.fadr 24 t3 fun t132 =>
 p.load false 1 t132 H fun t133 =>
 p.call 4 (.fn 38 [] []) [t131, t133] H fun t134 H =>
 p.un .not t134 fun t135 =>
 p.cond t135
 (k (.sc (.bool false)) H)
 (k (.sc (.bool true)) H)))))))))))))))))))))))))
theorem T9 : G3 Aa7 @f17 := fun p n a0 a1 H k => by kernel_rfl
noncomputable def Ht (p : Pr β) (n : Nat)  (k : KO β) : Nat → AV → AV → KO β
 | 0, _, _, _, _ => none
 | m + 1, t0, t1, t5, H => p.len t0 fun t13 =>
   p.bin .lss t5 t13 fun t14 =>
   p.cond t14
   (p.iadr 25 t0 t5 fun t19 =>
   p.load true 25 t19 H fun t20 =>
   p.iadr 25 t1 t5 fun t23 =>
   p.load true 25 t23 H fun t24 =>
   p.call 4 (.fn 17 [] []) [t20, t24] H fun t25 H =>
   p.un .not t25 fun t26 =>
   p.cond t26
   (k (.sc (.bool false)) H)
   (p.bin .add t5 (.sc (.int .i64 1)) fun t16 =>
   Ht p n  k m t0 t1 t16 H))
   (k (.sc (.bool true)) H)
noncomputable def f158 (p : Pr β) (n : Nat) (a0 a1 : AV) (H : Aa) (k : KO β) : Option β :=
 p.len a0 fun t7 =>
 p.len a1 fun t9 =>
 p.bin .neq t7 t9 fun t10 =>
 p.cond t10
 (k (.sc (.bool false)) H)
 (Ht p n  k n a0 a1 (.sc (.int .i64 0)) H)
noncomputable def Qv (p : Pr β) (n : Nat)  (k : KO β) (m : Nat) (tm : Tm) (H : Aa) : Option β :=
 Bs 27 (fun tm H k => Ac Ad p Aal 27 n (cd Zr [1, 1, 0, 1, 0, 0]) tm H k) (E1 0 (Es (fun tm H => Ac Ad p Aal 27 n (cd Zr [1, 1, 1]) tm H (B3 Ad p fi158.results k)) (B3 Ad p fi158.results k))) m tm H
theorem Pd (p : Pr β) (n : Nat)  (k : KO β) (m0 : Nat) : ∀ (t : Nat → AV) (H : Aa), Qv p n  k m0 (tf 27 0 t) H = Ht p n  k m0 (t 0) (t 1) (t 5) H := by
 induction m0 with
 | zero => intros; rfl
 | succ m0 ih =>
  intro t H
  refine Eq.trans (A1 (nt := 27) (m := m0) (g := fun t H => Ht p n  k m0 (t 0) (t 1) (t 5) H) ih rfl) ?_
  kernel_rfl
theorem T6 (p : Pr β) (n : Nat) (a0 a1 : AV) (H : Aa) (k : KO β) : Av Ad p n fi158 [a0, a1] H k =
 p.len a0 fun t7 =>
 p.len a1 fun t9 =>
 p.bin .neq t7 t9 fun t10 =>
 p.cond t10
 (k (.sc (.bool false)) H)
 (Qv p n  k n (tf 27 0 (ud [(0, a0), (1, a1), (4, (.sc (.bool false))), (5, (.sc (.int .i64 0))), (6, a0), (7, t7), (8, a1), (9, t9), (10, t10)] ut)) H) := by kernel_rfl
theorem R8 : G3 fi158 @f158 := fun p n a0 a1 H k => by
 rw [T6]
 simp only [Pd]
 kernel_rfl
noncomputable def f154 (p : Pr β) (n : Nat) (a0 a1 : AV) (H : Aa) (k : KO β) : Option β :=
 p.box a0 H fun t2 H =>
 p.box a1 H fun t3 H =>
 p.fadr 0 t2 fun t5 =>
 p.load false 1 t5 H fun t6 =>
 p.fadr 0 t3 fun t7 =>
 p.load false 1 t7 H fun t8 =>
 p.bin .neq t6 t8 fun t9 =>
 p.cond t9
 (k (.sc (.bool false)) H)
 (p.fadr 1 t2 fun t10 =>
 p.load false 1 t10 H fun t11 =>
 p.fadr 1 t3 fun t12 =>
 p.load false 1 t12 H fun t13 =>
 p.call 4 (.fn 95 [] []) [t11, t13] H fun t14 H =>
 p.un .not t14 fun t15 =>
 p.cond t15
 (k (.sc (.bool false)) H)
 (p.fadr 2 t2 fun t16 =>
 p.load false 1 t16 H fun t17 =>
 p.fadr 2 t3 fun t18 =>
 p.load false 1 t18 H fun t19 =>
 p.bin .neq t17 t19 fun t20 =>
 p.cond t20
 (k (.sc (.bool false)) H)
 (p.fadr 3 t2 fun t21 =>
 p.load false 1 t21 H fun t22 =>
 p.fadr 3 t3 fun t23 =>
 p.load false 1 t23 H fun t24 =>
 p.binB .neq t22 t24 fun t25 =>
 p.cond t25
 (k (.sc (.bool false)) H)
 (k (.sc (.bool true)) H))))
theorem R4 : G3 Yu @f154 := fun p n a0 a1 H k => by kernel_rfl
noncomputable def f48 (p : Pr β) (n : Nat) (a0 a1 : AV) (H : Aa) (k : KO β) : Option β :=
 p.box a0 H fun t2 H =>
 p.box a1 H fun t3 H =>
 p.fadr 0 t2 fun t5 =>
 p.load false 1 t5 H fun t6 =>
 p.fadr 0 t3 fun t7 =>
 p.load false 1 t7 H fun t8 =>
 p.binB .neq t6 t8 fun t9 =>
 p.cond t9
 (k (.sc (.bool false)) H)
 (p.fadr 1 t2 fun t10 =>
 p.load false 1 t10 H fun t11 =>
 p.fadr 1 t3 fun t12 =>
 p.load false 1 t12 H fun t13 =>
 p.bin .neq t11 t13 fun t14 =>
 p.cond t14
 (k (.sc (.bool false)) H)
 (p.fadr 2 t2 fun t15 =>
 p.load true 2 t15 H fun t16 =>
 p.fadr 2 t3 fun t17 =>
 p.load true 2 t17 H fun t18 =>
 p.call 4 (.fn 157 [] []) [t16, t18] H fun t19 H =>
 p.un .not t19 fun t20 =>
 p.cond t20
 (k (.sc (.bool false)) H)
 (p.fadr 4 t2 fun t21 =>
 p.load false 1 t21 H fun t22 =>
 p.fadr 4 t3 fun t23 =>
 p.load false 1 t23 H fun t24 =>
 p.call 4 (.fn 158 [] []) [t22, t24] H fun t25 H =>
 p.un .not t25 fun t26 =>
 p.cond t26
 (k (.sc (.bool false)) H)
 (p.fadr 5 t2 fun t27 =>
 p.load false 1 t27 H fun t28 =>
 p.fadr 5 t3 fun t29 =>
 p.load false 1 t29 H fun t30 =>
 p.binB .neq t28 t30 fun t31 =>
 p.cond t31
 (k (.sc (.bool false)) H)
 (p.fadr 6 t2 fun t32 =>
 p.load false 1 t32 H fun t33 =>
 p.fadr 6 t3 fun t34 =>
 p.load false 1 t34 H fun t35 =>
 p.bin .neq t33 t35 fun t36 =>
 p.cond t36
 (k (.sc (.bool false)) H)
 (p.fadr 7 t2 fun t37 =>
 p.load false 1 t37 H fun t38 =>
 p.fadr 7 t3 fun t39 =>
 p.load false 1 t39 H fun t40 =>
 p.bin .neq t38 t40 fun t41 =>
 p.cond t41
 (k (.sc (.bool false)) H)
 (p.fadr 8 t2 fun t42 =>
 p.load false 1 t42 H fun t43 =>
 p.fadr 8 t3 fun t44 =>
 p.load false 1 t44 H fun t45 =>
 p.bin .neq t43 t45 fun t46 =>
 p.cond t46
 (k (.sc (.bool false)) H)
 (p.fadr 9 t2 fun t47 =>
 p.load false 1 t47 H fun t48 =>
 p.fadr 9 t3 fun t49 =>
 p.load false 1 t49 H fun t50 =>
 p.binB .neq t48 t50 fun t51 =>
 p.cond t51
 (k (.sc (.bool false)) H)
 (p.fadr 10 t2 fun t52 =>
 p.load true 4 t52 H fun t53 =>
 p.fadr 10 t3 fun t54 =>
 p.load true 4 t54 H fun t55 =>
 p.call 4 (.fn 154 [] []) [t53, t55] H fun t56 H =>
 p.un .not t56 fun t57 =>
 p.cond t57
 (k (.sc (.bool false)) H)
 (p.fadr 14 t2 fun t58 =>
 p.load false 1 t58 H fun t59 =>
 p.fadr 14 t3 fun t60 =>
 p.load false 1 t60 H fun t61 =>
 p.binB .neq t59 t61 fun t62 =>
 p.cond t62
 (k (.sc (.bool false)) H)
 (p.fadr 15 t2 fun t63 =>
 p.load false 1 t63 H fun t64 =>
 p.fadr 15 t3 fun t65 =>
 p.load false 1 t65 H fun t66 =>
 p.call 4 (.fn 95 [] []) [t64, t66] H fun t67 H =>
 p.un .not t67 fun t68 =>
 p.cond t68
 (k (.sc (.bool false)) H)
 (k (.sc (.bool true)) H))))))))))))
theorem Uj : G3 AaC @f48 := fun p n a0 a1 H k => by kernel_rfl
noncomputable def Hl (p : Pr β) (n : Nat)  (k : KO β) : Nat → AV → AV → KO β
 | 0, _, _, _, _ => none
 | m + 1, t0, t1, t5, H => p.len t0 fun t8 =>
   p.bin .lss t5 t8 fun t9 =>
   p.cond t9
   (p.cvI .u8 t1 fun t15 =>
   p.iadr 1 t0 t5 fun t16 =>
   p.store 1 t16 t15 H fun H =>
   p.bin .add t1 (.sc (.int .i64 1)) fun t18 =>
   p.bin .add t5 (.sc (.int .i64 1)) fun t11 =>
   Hl p n  k m t0 t18 t11 H)
   (k t1 H)
noncomputable def f100 (p : Pr β) (n : Nat) (a0 a1 : AV) (H : Aa) (k : KO β) : Option β :=
 Hl p n  k n a0 a1 (.sc (.int .i64 0)) H
noncomputable def Qn (p : Pr β) (n : Nat)  (k : KO β) (m : Nat) (tm : Tm) (H : Aa) : Option β :=
 Bs 20 (fun tm H k => Ac Ad p [] 20 n (cd Zj [1, 0, 1, 0, 0]) tm H k) (E1 0 (Es (fun tm H => Ac Ad p [] 20 n (cd Zj [1, 1]) tm H (B3 Ad p fi100.results k)) (B3 Ad p fi100.results k))) m tm H
theorem O5 (p : Pr β) (n : Nat)  (k : KO β) (m0 : Nat) : ∀ (t : Nat → AV) (H : Aa), Qn p n  k m0 (tf 20 0 t) H = Hl p n  k m0 (t 0) (t 1) (t 5) H := by
 induction m0 with
 | zero => intros; rfl
 | succ m0 ih =>
  intro t H
  refine Eq.trans (A1 (nt := 20) (m := m0) (g := fun t H => Hl p n  k m0 (t 0) (t 1) (t 5) H) ih rfl) ?_
  kernel_rfl
theorem Ty (p : Pr β) (n : Nat) (a0 a1 : AV) (H : Aa) (k : KO β) : Av Ad p n fi100 [a0, a1] H k =
 Qn p n  k n (tf 20 0 (ud [(0, a0), (1, a1), (4, (.sc (.int .i64 0))), (5, (.sc (.int .i64 0)))] ut)) H := by kernel_rfl
theorem Rw : G3 fi100 @f100 := fun p n a0 a1 H k => by
 rw [Ty]
 simp only [O5]
 kernel_rfl
noncomputable def f159 (p : Pr β) (n : Nat) (a0 a1 : AV) (H : Aa) (k : KO β) : Option β :=
 p.box a0 H fun t2 H =>
 p.fadr 0 t2 fun t5 =>
 p.load false 1 t5 H fun t6 =>
 p.call 3 (.fn 100 [] []) [t6, a1] H fun t8 H =>
 k t8 H
theorem R9 : G3 Yw @f159 := fun p n a0 a1 H k => by kernel_rfl
noncomputable def Hw (p : Pr β) (n : Nat)  (k : KO β) : Nat → AV → KO β
 | 0, _, _, _ => none
 | m + 1, t0, t3, H => p.bin .gtr t0 (.sc (.int .i64 0)) fun t7 =>
   p.cond t7
   (p.bin .rem t0 (.sc (.int .i64 10)) fun t9 =>
   p.bin .add (.sc (.int .i64 48)) t9 fun t10 =>
   p.cvI .u8 t10 fun t11 =>
   p.fill [(.sc (.int .u8 0))] [(0, 1, t11)] fun ct12 => p.newSl 1 1 ct12 true H fun t12 H =>
   p.cvBS t12 H fun t13 =>
   p.bin .add t13 t3 fun t15 =>
   p.bin .quo t0 (.sc (.int .i64 10)) fun t17 =>
   Hw p n  k m t17 t15 H)
   (p.bin .add (.sc (.string ⟨#[109]⟩)) t3 fun t19 =>
   k t19 H)
noncomputable def f216 (p : Pr β) (n : Nat) (a0 : AV) (H : Aa) (k : KO β) : Option β :=
 p.bin .leq a0 (.sc (.int .i64 0)) fun t5 =>
 p.cond t5
 (k (.sc (.string ⟨#[109, 48]⟩)) H)
 (Hw p n  k n a0 (.sc (.string ⟨#[]⟩)) H)
noncomputable def Qy (p : Pr β) (n : Nat)  (k : KO β) (m : Nat) (tm : Tm) (H : Aa) : Option β :=
 Bs 20 (fun tm H k => Ac Ad p [] 20 n (cd Zu [1, 1, 1, 0, 0, 0]) tm H k) (E1 0 (Es (fun tm H => Ac Ad p [] 20 n (cd Zu [1, 1, 1, 1]) tm H (B3 Ad p fi216.results k)) (B3 Ad p fi216.results k))) m tm H
theorem Pg (p : Pr β) (n : Nat)  (k : KO β) (m0 : Nat) : ∀ (t : Nat → AV) (H : Aa), Qy p n  k m0 (tf 20 0 t) H = Hw p n  k m0 (t 0) (t 3) H := by
 induction m0 with
 | zero => intros; rfl
 | succ m0 ih =>
  intro t H
  refine Eq.trans (A1 (nt := 20) (m := m0) (g := fun t H => Hw p n  k m0 (t 0) (t 3) H) ih rfl) ?_
  kernel_rfl
theorem Ua (p : Pr β) (n : Nat) (a0 : AV) (H : Aa) (k : KO β) : Av Ad p n fi216 [a0] H k =
 p.bin .leq a0 (.sc (.int .i64 0)) fun t5 =>
 p.cond t5
 (k (.sc (.string ⟨#[109, 48]⟩)) H)
 (Qy p n  k n (tf 20 0 (ud [(0, a0), (2, (.sc (.string ⟨#[]⟩))), (3, (.sc (.string ⟨#[]⟩))), (4, a0), (5, t5)] ut)) H) := by kernel_rfl
theorem Sh : Yo fi216 @f216 := fun p n a0 H k => by
 rw [Ua]
 simp only [Pg]
 kernel_rfl
noncomputable def Hm (p : Pr β) (n : Nat)  (k : KO β) : Nat → AV → AV → KO β
 | 0, _, _, _, _ => none
 | m + 1, t0, t1, t5, H => p.len t0 fun t8 =>
   p.bin .lss t5 t8 fun t9 =>
   p.cond t9
   (p.call 9 (.fn 216 [] []) [t1] H fun t15 H =>
   p.iadr 2 t0 t5 fun t16 =>
   p.fadr 0 t16 fun t17 =>
   p.store 1 t17 t15 H fun H =>
   p.bin .add t1 (.sc (.int .i64 1)) fun t19 =>
   p.iadr 2 t0 t5 fun t23 =>
   p.fadr 1 t23 fun t24 =>
   p.store 1 t24 t19 H fun H =>
   p.bin .add t19 (.sc (.int .i64 1)) fun t26 =>
   p.bin .add t5 (.sc (.int .i64 1)) fun t11 =>
   Hm p n  k m t0 t26 t11 H)
   (k t1 H)
noncomputable def f101 (p : Pr β) (n : Nat) (a0 a1 : AV) (H : Aa) (k : KO β) : Option β :=
 Hm p n  k n a0 a1 (.sc (.int .i64 0)) H
noncomputable def Qo (p : Pr β) (n : Nat)  (k : KO β) (m : Nat) (tm : Tm) (H : Aa) : Option β :=
 Bs 28 (fun tm H k => Ac Ad p [] 28 n (cd Zk [1, 0, 1, 0, 0]) tm H k) (E1 0 (Es (fun tm H => Ac Ad p [] 28 n (cd Zk [1, 1]) tm H (B3 Ad p fi101.results k)) (B3 Ad p fi101.results k))) m tm H
theorem O6 (p : Pr β) (n : Nat)  (k : KO β) (m0 : Nat) : ∀ (t : Nat → AV) (H : Aa), Qo p n  k m0 (tf 28 0 t) H = Hm p n  k m0 (t 0) (t 1) (t 5) H := by
 induction m0 with
 | zero => intros; rfl
 | succ m0 ih =>
  intro t H
  refine Eq.trans (A1 (nt := 28) (m := m0) (g := fun t H => Hm p n  k m0 (t 0) (t 1) (t 5) H) ih rfl) ?_
  kernel_rfl
theorem Tz (p : Pr β) (n : Nat) (a0 a1 : AV) (H : Aa) (k : KO β) : Av Ad p n fi101 [a0, a1] H k =
 Qo p n  k n (tf 28 0 (ud [(0, a0), (1, a1), (4, (.sc (.int .i64 0))), (5, (.sc (.int .i64 0)))] ut)) H := by kernel_rfl
theorem Rx : G3 fi101 @f101 := fun p n a0 a1 H k => by
 rw [Tz]
 simp only [O6]
 kernel_rfl
noncomputable def Hn (p : Pr β) (n : Nat)  (k : KO β) : Nat → AV → AV → KO β
 | 0, _, _, _, _ => none
 | m + 1, t0, t1, t5, H => p.len t0 fun t8 =>
   p.bin .lss t5 t8 fun t9 =>
   p.cond t9
   (p.call 9 (.fn 216 [] []) [t1] H fun t15 H =>
   p.iadr 1 t0 t5 fun t16 =>
   p.store 1 t16 t15 H fun H =>
   p.bin .add t1 (.sc (.int .i64 1)) fun t18 =>
   p.bin .add t5 (.sc (.int .i64 1)) fun t11 =>
   Hn p n  k m t0 t18 t11 H)
   (k t1 H)
noncomputable def f102 (p : Pr β) (n : Nat) (a0 a1 : AV) (H : Aa) (k : KO β) : Option β :=
 Hn p n  k n a0 a1 (.sc (.int .i64 0)) H
noncomputable def Qp (p : Pr β) (n : Nat)  (k : KO β) (m : Nat) (tm : Tm) (H : Aa) : Option β :=
 Bs 20 (fun tm H k => Ac Ad p [] 20 n (cd Zl [1, 0, 1, 0, 0]) tm H k) (E1 0 (Es (fun tm H => Ac Ad p [] 20 n (cd Zl [1, 1]) tm H (B3 Ad p fi102.results k)) (B3 Ad p fi102.results k))) m tm H
theorem O7 (p : Pr β) (n : Nat)  (k : KO β) (m0 : Nat) : ∀ (t : Nat → AV) (H : Aa), Qp p n  k m0 (tf 20 0 t) H = Hn p n  k m0 (t 0) (t 1) (t 5) H := by
 induction m0 with
 | zero => intros; rfl
 | succ m0 ih =>
  intro t H
  refine Eq.trans (A1 (nt := 20) (m := m0) (g := fun t H => Hn p n  k m0 (t 0) (t 1) (t 5) H) ih rfl) ?_
  kernel_rfl
theorem T0 (p : Pr β) (n : Nat) (a0 a1 : AV) (H : Aa) (k : KO β) : Av Ad p n fi102 [a0, a1] H k =
 Qp p n  k n (tf 20 0 (ud [(0, a0), (1, a1), (4, (.sc (.int .i64 0))), (5, (.sc (.int .i64 0)))] ut)) H := by kernel_rfl
theorem Ry : G3 fi102 @f102 := fun p n a0 a1 H k => by
 rw [T0]
 simp only [O7]
 kernel_rfl
noncomputable def J6 (p : Pr β) (n : Nat)  (k : KO β) : Nat → AV → AV → KO β
 | 0, _, _, _, _ => none
 | m + 1, t0, t1, t5, H => p.len t0 fun t8 =>
   p.bin .lss t5 t8 fun t9 =>
   p.cond t9
   (p.iadr 1 t0 t5 fun t15 =>
   p.store 1 t15 t1 H fun H =>
   p.bin .add t1 (.sc (.int .i64 1)) fun t17 =>
   p.bin .add t5 (.sc (.int .i64 1)) fun t11 =>
   J6 p n  k m t0 t17 t11 H)
   (k t1 H)
noncomputable def f39 (p : Pr β) (n : Nat) (a0 a1 : AV) (H : Aa) (k : KO β) : Option β :=
 J6 p n  k n a0 a1 (.sc (.int .i64 0)) H
noncomputable def Ud (p : Pr β) (n : Nat)  (k : KO β) (m : Nat) (tm : Tm) (H : Aa) : Option β :=
 Bs 19 (fun tm H k => Ac Ad p [] 19 n (cd c39 [1, 0, 1, 0, 0]) tm H k) (E1 0 (Es (fun tm H => Ac Ad p [] 19 n (cd c39 [1, 1]) tm H (B3 Ad p fi39.results k)) (B3 Ad p fi39.results k))) m tm H
theorem Sn (p : Pr β) (n : Nat)  (k : KO β) (m0 : Nat) : ∀ (t : Nat → AV) (H : Aa), Ud p n  k m0 (tf 19 0 t) H = J6 p n  k m0 (t 0) (t 1) (t 5) H := by
 induction m0 with
 | zero => intros; rfl
 | succ m0 ih =>
  intro t H
  refine Eq.trans (A1 (nt := 19) (m := m0) (g := fun t H => J6 p n  k m0 (t 0) (t 1) (t 5) H) ih rfl) ?_
  kernel_rfl
theorem Xb (p : Pr β) (n : Nat) (a0 a1 : AV) (H : Aa) (k : KO β) : Av Ad p n fi39 [a0, a1] H k =
 Ud p n  k n (tf 19 0 (ud [(0, a0), (1, a1), (4, (.sc (.int .i64 0))), (5, (.sc (.int .i64 0)))] ut)) H := by kernel_rfl
theorem Ue : G3 fi39 @f39 := fun p n a0 a1 H k => by
 rw [Xb]
 simp only [Sn]
 kernel_rfl
noncomputable def Hu (p : Pr β) (n : Nat)  (k : KO β) : Nat → AV → AV → KO β
 | 0, _, _, _, _ => none
 | m + 1, t0, t1, t5, H => p.len t0 fun t8 =>
   p.bin .lss t5 t8 fun t9 =>
   p.cond t9
   (p.iadr 25 t0 t5 fun t15 =>
   p.fadr 0 t15 fun t16 =>
   p.store 1 t16 t1 H fun H =>
   p.bin .add t1 (.sc (.int .i64 1)) fun t18 =>
   p.bin .rem t18 (.sc (.int .i64 3)) fun t22 =>
   p.bin .eql t22 (.sc (.int .i64 0)) fun t23 =>
   p.iadr 25 t0 t5 fun t24 =>
   p.fadr 1 t24 fun t25 =>
   p.store 1 t25 t23 H fun H =>
   p.bin .add t18 (.sc (.int .i64 1)) fun t27 =>
   p.iadr 25 t0 t5 fun t31 =>
   p.fadr 2 t31 fun t32 =>
   p.store 1 t32 t27 H fun H =>
   p.bin .add t27 (.sc (.int .i64 1)) fun t34 =>
   p.bin .rem t34 (.sc (.int .i64 3)) fun t38 =>
   p.bin .eql t38 (.sc (.int .i64 0)) fun t39 =>
   p.iadr 25 t0 t5 fun t40 =>
   p.fadr 3 t40 fun t41 =>
   p.store 1 t41 t39 H fun H =>
   p.bin .add t34 (.sc (.int .i64 1)) fun t43 =>
   p.iadr 25 t0 t5 fun t47 =>
   p.fadr 4 t47 fun t48 =>
   p.store 1 t48 t43 H fun H =>
   p.bin .add t43 (.sc (.int .i64 1)) fun t50 =>
   p.call 9 (.fn 216 [] []) [t50] H fun t54 H =>
   p.iadr 25 t0 t5 fun t55 =>
   p.fadr 5 t55 fun t56 =>
   p.store 1 t56 t54 H fun H =>
   p.bin .add t50 (.sc (.int .i64 1)) fun t58 =>
   p.iadr 25 t0 t5 fun t61 =>
   p.fadr 6 t61 fun t62 =>
   p.load false 1 t62 H fun t63 =>
   p.call 3 (.fn 100 [] []) [t63, t58] H fun t65 H =>
   p.call 9 (.fn 216 [] []) [t65] H fun t69 H =>
   p.iadr 25 t0 t5 fun t70 =>
   p.fadr 7 t70 fun t71 =>
   p.store 1 t71 t69 H fun H =>
   p.bin .add t65 (.sc (.int .i64 1)) fun t73 =>
   p.iadr 25 t0 t5 fun t77 =>
   p.fadr 8 t77 fun t78 =>
   p.store 1 t78 t73 H fun H =>
   p.bin .add t73 (.sc (.int .i64 1)) fun t80 =>
   p.bin .rem t80 (.sc (.int .i64 3)) fun t84 =>
   p.bin .eql t84 (.sc (.int .i64 0)) fun t85 =>
   p.iadr 25 t0 t5 fun t86 =>
   p.fadr 9 t86 fun t87 =>
   p.store 1 t87 t85 H fun H =>
   p.bin .add t80 (.sc (.int .i64 1)) fun t89 =>
   p.iadr 25 t0 t5 fun t93 =>
   p.fadr 10 t93 fun t94 =>
   p.store 1 t94 t89 H fun H =>
   p.bin .add t89 (.sc (.int .i64 1)) fun t96 =>
   p.bin .rem t96 (.sc (.int .i64 3)) fun t100 =>
   p.bin .eql t100 (.sc (.int .i64 0)) fun t101 =>
   p.iadr 25 t0 t5 fun t102 =>
   p.fadr 11 t102 fun t103 =>
   p.store 1 t103 t101 H fun H =>
   p.bin .add t96 (.sc (.int .i64 1)) fun t105 =>
   p.call 9 (.fn 216 [] []) [t105] H fun t109 H =>
   p.iadr 25 t0 t5 fun t110 =>
   p.fadr 12 t110 fun t111 =>
   p.store 1 t111 t109 H fun H =>
   p.bin .add t105 (.sc (.int .i64 1)) fun t113 =>
   p.iadr 25 t0 t5 fun t116 =>
   p.fadr 13 t116 fun t117 =>
   p.load false 1 t117 H fun t118 =>
   p.call 3 (.fn 100 [] []) [t118, t113] H fun t120 H =>
   p.iadr 25 t0 t5 fun t124 =>
   p.fadr 14 t124 fun t125 =>
   p.store 1 t125 t120 H fun H =>
   p.bin .add t120 (.sc (.int .i64 1)) fun t127 =>
   p.bin .rem t127 (.sc (.int .i64 3)) fun t131 =>
   p.bin .eql t131 (.sc (.int .i64 0)) fun t132 =>
   p.iadr 25 t0 t5 fun t133 =>
   p.fadr 15 t133 fun t134 =>
   p.store 1 t134 t132 H fun H =>
   p.bin .add t127 (.sc (.int .i64 1)) fun t136 =>
   p.bin .rem t136 (.sc (.int .i64 3)) fun t140 =>
   p.bin .eql t140 (.sc (.int .i64 0)) fun t141 =>
   p.iadr 25 t0 t5 fun t142 =>
   p.fadr 16 t142 fun t143 =>
   p.store 1 t143 t141 H fun H =>
   p.bin .add t136 (.sc (.int .i64 1)) fun t145 =>
   p.call 9 (.fn 216 [] []) [t145] H fun t149 H =>
   p.iadr 25 t0 t5 fun t150 =>
   p.fadr 17 t150 fun t151 =>
   p.store 1 t151 t149 H fun H =>
   p.bin .add t145 (.sc (.int .i64 1)) fun t153 =>
   p.bin .rem t153 (.sc (.int .i64 3)) fun t157 =>
   p.bin .eql t157 (.sc (.int .i64 0)) fun t158 =>
   p.iadr 25 t0 t5 fun t159 =>
   p.fadr 18 t159 fun t160 =>
   p.store 1 t160 t158 H fun H =>
   p.bin .add t153 (.sc (.int .i64 1)) fun t162 =>
   p.iadr 25 t0 t5 fun t165 =>
   p.fadr 19 t165 fun t166 =>
   p.load false 1 t166 H fun t167 =>
   p.call 3 (.fn 100 [] []) [t167, t162] H fun t169 H =>
   p.iadr 25 t0 t5 fun t173 =>
   p.fadr 20 t173 fun t174 =>
   p.store 1 t174 t169 H fun H =>
   p.bin .add t169 (.sc (.int .i64 1)) fun t176 =>
   p.bin .rem t176 (.sc (.int .i64 3)) fun t180 =>
   p.bin .eql t180 (.sc (.int .i64 0)) fun t181 =>
   p.iadr 25 t0 t5 fun t182 =>
   p.fadr 21 t182 fun t183 =>
   p.store 1 t183 t181 H fun H =>
   p.bin .add t176 (.sc (.int .i64 1)) fun t185 =>
   p.iadr 25 t0 t5 fun t188 =>
   p.fadr 22 t188 fun t189 =>
   p.load false 1 t189 H fun t190 =>
   p.call 3 (.fn 101 [] []) [t190, t185] H fun t192 H =>
   p.iadr 25 t0 t5 fun t195 =>
   p.fadr 23 t195 fun t196 =>
   p.load false 1 t196 H fun t197 =>
   p.call 3 (.fn 102 [] []) [t197, t192] H fun t199 H =>
   p.iadr 25 t0 t5 fun t202 =>
   p.fadr 24 t202 fun t203 =>
   p.load false 1 t203 H fun t204 =>
   p.call 3 (.fn 39 [] []) [t204, t199] H fun t206 H =>
   p.bin .add t5 (.sc (.int .i64 1)) fun t11 =>
   Hu p n  k m t0 t206 t11 H)
   (k t1 H)
noncomputable def f160 (p : Pr β) (n : Nat) (a0 a1 : AV) (H : Aa) (k : KO β) : Option β :=
 Hu p n  k n a0 a1 (.sc (.int .i64 0)) H
noncomputable def Qw (p : Pr β) (n : Nat)  (k : KO β) (m : Nat) (tm : Tm) (H : Aa) : Option β :=
 Bs 208 (fun tm H k => Ac Ad p [] 208 n (cd Zs [1, 0, 1, 0, 0]) tm H k) (E1 0 (Es (fun tm H => Ac Ad p [] 208 n (cd Zs [1, 1]) tm H (B3 Ad p fi160.results k)) (B3 Ad p fi160.results k))) m tm H
theorem Pe (p : Pr β) (n : Nat)  (k : KO β) (m0 : Nat) : ∀ (t : Nat → AV) (H : Aa), Qw p n  k m0 (tf 208 0 t) H = Hu p n  k m0 (t 0) (t 1) (t 5) H := by
 induction m0 with
 | zero => intros; rfl
 | succ m0 ih =>
  intro t H
  refine Eq.trans (A1 (nt := 208) (m := m0) (g := fun t H => Hu p n  k m0 (t 0) (t 1) (t 5) H) ih rfl) ?_
  kernel_rfl
theorem T7 (p : Pr β) (n : Nat) (a0 a1 : AV) (H : Aa) (k : KO β) : Av Ad p n fi160 [a0, a1] H k =
 Qw p n  k n (tf 208 0 (ud [(0, a0), (1, a1), (4, (.sc (.int .i64 0))), (5, (.sc (.int .i64 0)))] ut)) H := by kernel_rfl
theorem Sa : G3 fi160 @f160 := fun p n a0 a1 H k => by
 rw [T7]
 simp only [Pe]
 kernel_rfl
noncomputable def f161 (p : Pr β) (n : Nat) (a0 a1 : AV) (H : Aa) (k : KO β) : Option β :=
 p.box a0 H fun t2 H =>
 p.fadr 1 t2 fun t5 =>
 p.load false 1 t5 H fun t6 =>
 p.call 3 (.fn 100 [] []) [t6, a1] H fun t8 H =>
 k t8 H
theorem Sb : G3 Yx @f161 := fun p n a0 a1 H k => by kernel_rfl
noncomputable def f49 (p : Pr β) (n : Nat) (a0 a1 : AV) (H : Aa) (k : KO β) : Option β :=
 p.box a0 H fun t2 H =>
 p.fadr 2 t2 fun t5 =>
 p.load true 2 t5 H fun t6 =>
 p.call 3 (.fn 159 [] []) [t6, a1] H fun t8 H =>
 p.fadr 4 t2 fun t9 =>
 p.load false 1 t9 H fun t10 =>
 p.call 3 (.fn 160 [] []) [t10, t8] H fun t12 H =>
 p.fadr 10 t2 fun t13 =>
 p.load true 4 t13 H fun t14 =>
 p.call 3 (.fn 161 [] []) [t14, t12] H fun t16 H =>
 p.fadr 15 t2 fun t17 =>
 p.load false 1 t17 H fun t18 =>
 p.call 3 (.fn 100 [] []) [t18, t16] H fun t20 H =>
 k t20 H
theorem Uk : G3 AaD @f49 := fun p n a0 a1 H k => by kernel_rfl
noncomputable def Ho (p : Pr β) (n : Nat)  (k : KO β) : Nat → AV → AV → KO β
 | 0, _, _, _, _ => none
 | m + 1, t0, t1, t5, H => p.len t0 fun t8 =>
   p.bin .lss t5 t8 fun t9 =>
   p.cond t9
   (p.iadr 1 t0 t5 fun t14 =>
   p.load false 1 t14 H fun t15 =>
   p.cvI .u8 t1 fun t17 =>
   p.bin .neq t15 t17 fun t18 =>
   p.cond t18
   (k (.sc (.int .i64 (-1))) H)
   (p.bin .add t1 (.sc (.int .i64 1)) fun t20 =>
   p.bin .add t5 (.sc (.int .i64 1)) fun t11 =>
   Ho p n  k m t0 t20 t11 H))
   (k t1 H)
noncomputable def f105 (p : Pr β) (n : Nat) (a0 a1 : AV) (H : Aa) (k : KO β) : Option β :=
 Ho p n  k n a0 a1 (.sc (.int .i64 0)) H
noncomputable def Qq (p : Pr β) (n : Nat)  (k : KO β) (m : Nat) (tm : Tm) (H : Aa) : Option β :=
 Bs 22 (fun tm H k => Ac Ad p [] 22 n (cd Zm [1, 0, 1, 0, 0]) tm H k) (E1 0 (Es (fun tm H => Ac Ad p [] 22 n (cd Zm [1, 1]) tm H (B3 Ad p fi105.results k)) (B3 Ad p fi105.results k))) m tm H
theorem O8 (p : Pr β) (n : Nat)  (k : KO β) (m0 : Nat) : ∀ (t : Nat → AV) (H : Aa), Qq p n  k m0 (tf 22 0 t) H = Ho p n  k m0 (t 0) (t 1) (t 5) H := by
 induction m0 with
 | zero => intros; rfl
 | succ m0 ih =>
  intro t H
  refine Eq.trans (A1 (nt := 22) (m := m0) (g := fun t H => Ho p n  k m0 (t 0) (t 1) (t 5) H) ih rfl) ?_
  kernel_rfl
theorem T1 (p : Pr β) (n : Nat) (a0 a1 : AV) (H : Aa) (k : KO β) : Av Ad p n fi105 [a0, a1] H k =
 Qq p n  k n (tf 22 0 (ud [(0, a0), (1, a1), (4, (.sc (.int .i64 0))), (5, (.sc (.int .i64 0)))] ut)) H := by kernel_rfl
theorem Rz : G3 fi105 @f105 := fun p n a0 a1 H k => by
 rw [T1]
 simp only [O8]
 kernel_rfl
noncomputable def f162 (p : Pr β) (n : Nat) (a0 a1 : AV) (H : Aa) (k : KO β) : Option β :=
 p.box a0 H fun t2 H =>
 p.fadr 0 t2 fun t5 =>
 p.load false 1 t5 H fun t6 =>
 p.call 3 (.fn 105 [] []) [t6, a1] H fun t8 H =>
 p.bin .lss t8 (.sc (.int .i64 0)) fun t10 =>
 p.cond t10
 (k (.sc (.int .i64 (-1))) H)
 (k t8 H)
theorem Sc : G3 Yy @f162 := fun p n a0 a1 H k => by kernel_rfl
noncomputable def Hp (p : Pr β) (n : Nat)  (k : KO β) : Nat → AV → AV → KO β
 | 0, _, _, _, _ => none
 | m + 1, t0, t1, t5, H => p.len t0 fun t8 =>
   p.bin .lss t5 t8 fun t9 =>
   p.cond t9
   (p.iadr 2 t0 t5 fun t14 =>
   p.fadr 0 t14 fun t15 =>
   p.load false 1 t15 H fun t16 =>
   p.call 9 (.fn 216 [] []) [t1] H fun t18 H =>
   p.bin .neq t16 t18 fun t19 =>
   p.cond t19
   (k (.sc (.int .i64 (-1))) H)
   (p.bin .add t1 (.sc (.int .i64 1)) fun t21 =>
   p.iadr 2 t0 t5 fun t24 =>
   p.fadr 1 t24 fun t25 =>
   p.load false 1 t25 H fun t26 =>
   p.bin .neq t26 t21 fun t28 =>
   p.cond t28
   (k (.sc (.int .i64 (-1))) H)
   (p.bin .add t21 (.sc (.int .i64 1)) fun t30 =>
   p.bin .add t5 (.sc (.int .i64 1)) fun t11 =>
   Hp p n  k m t0 t30 t11 H)))
   (k t1 H)
noncomputable def f106 (p : Pr β) (n : Nat) (a0 a1 : AV) (H : Aa) (k : KO β) : Option β :=
 Hp p n  k n a0 a1 (.sc (.int .i64 0)) H
noncomputable def Qr (p : Pr β) (n : Nat)  (k : KO β) (m : Nat) (tm : Tm) (H : Aa) : Option β :=
 Bs 32 (fun tm H k => Ac Ad p Aaj 32 n (cd Zn [1, 0, 1, 0, 0]) tm H k) (E1 0 (Es (fun tm H => Ac Ad p Aaj 32 n (cd Zn [1, 1]) tm H (B3 Ad p fi106.results k)) (B3 Ad p fi106.results k))) m tm H
theorem O9 (p : Pr β) (n : Nat)  (k : KO β) (m0 : Nat) : ∀ (t : Nat → AV) (H : Aa), Qr p n  k m0 (tf 32 0 t) H = Hp p n  k m0 (t 0) (t 1) (t 5) H := by
 induction m0 with
 | zero => intros; rfl
 | succ m0 ih =>
  intro t H
  refine Eq.trans (A1 (nt := 32) (m := m0) (g := fun t H => Hp p n  k m0 (t 0) (t 1) (t 5) H) ih rfl) ?_
  kernel_rfl
theorem T2 (p : Pr β) (n : Nat) (a0 a1 : AV) (H : Aa) (k : KO β) : Av Ad p n fi106 [a0, a1] H k =
 Qr p n  k n (tf 32 0 (ud [(0, a0), (1, a1), (4, (.sc (.int .i64 0))), (5, (.sc (.int .i64 0)))] ut)) H := by kernel_rfl
theorem R0 : G3 fi106 @f106 := fun p n a0 a1 H k => by
 rw [T2]
 simp only [O9]
 kernel_rfl
noncomputable def Hq (p : Pr β) (n : Nat)  (k : KO β) : Nat → AV → AV → KO β
 | 0, _, _, _, _ => none
 | m + 1, t0, t1, t5, H => p.len t0 fun t8 =>
   p.bin .lss t5 t8 fun t9 =>
   p.cond t9
   (p.iadr 1 t0 t5 fun t14 =>
   p.load false 1 t14 H fun t15 =>
   p.call 9 (.fn 216 [] []) [t1] H fun t17 H =>
   p.bin .neq t15 t17 fun t18 =>
   p.cond t18
   (k (.sc (.int .i64 (-1))) H)
   (p.bin .add t1 (.sc (.int .i64 1)) fun t20 =>
   p.bin .add t5 (.sc (.int .i64 1)) fun t11 =>
   Hq p n  k m t0 t20 t11 H))
   (k t1 H)
noncomputable def f107 (p : Pr β) (n : Nat) (a0 a1 : AV) (H : Aa) (k : KO β) : Option β :=
 Hq p n  k n a0 a1 (.sc (.int .i64 0)) H
noncomputable def Qs (p : Pr β) (n : Nat)  (k : KO β) (m : Nat) (tm : Tm) (H : Aa) : Option β :=
 Bs 22 (fun tm H k => Ac Ad p Aak 22 n (cd Zo [1, 0, 1, 0, 0]) tm H k) (E1 0 (Es (fun tm H => Ac Ad p Aak 22 n (cd Zo [1, 1]) tm H (B3 Ad p fi107.results k)) (B3 Ad p fi107.results k))) m tm H
theorem Pa (p : Pr β) (n : Nat)  (k : KO β) (m0 : Nat) : ∀ (t : Nat → AV) (H : Aa), Qs p n  k m0 (tf 22 0 t) H = Hq p n  k m0 (t 0) (t 1) (t 5) H := by
 induction m0 with
 | zero => intros; rfl
 | succ m0 ih =>
  intro t H
  refine Eq.trans (A1 (nt := 22) (m := m0) (g := fun t H => Hq p n  k m0 (t 0) (t 1) (t 5) H) ih rfl) ?_
  kernel_rfl
theorem T3 (p : Pr β) (n : Nat) (a0 a1 : AV) (H : Aa) (k : KO β) : Av Ad p n fi107 [a0, a1] H k =
 Qs p n  k n (tf 22 0 (ud [(0, a0), (1, a1), (4, (.sc (.int .i64 0))), (5, (.sc (.int .i64 0)))] ut)) H := by kernel_rfl
theorem R2 : G3 fi107 @f107 := fun p n a0 a1 H k => by
 rw [T3]
 simp only [Pa]
 kernel_rfl
noncomputable def J7 (p : Pr β) (n : Nat)  (k : KO β) : Nat → AV → AV → KO β
 | 0, _, _, _, _ => none
 | m + 1, t0, t1, t5, H => p.len t0 fun t8 =>
   p.bin .lss t5 t8 fun t9 =>
   p.cond t9
   (p.iadr 1 t0 t5 fun t14 =>
   p.load false 1 t14 H fun t15 =>
   p.bin .neq t15 t1 fun t17 =>
   p.cond t17
   (k (.sc (.int .i64 (-1))) H)
   (p.bin .add t1 (.sc (.int .i64 1)) fun t19 =>
   p.bin .add t5 (.sc (.int .i64 1)) fun t11 =>
   J7 p n  k m t0 t19 t11 H))
   (k t1 H)
noncomputable def f40 (p : Pr β) (n : Nat) (a0 a1 : AV) (H : Aa) (k : KO β) : Option β :=
 J7 p n  k n a0 a1 (.sc (.int .i64 0)) H
noncomputable def Uf (p : Pr β) (n : Nat)  (k : KO β) (m : Nat) (tm : Tm) (H : Aa) : Option β :=
 Bs 21 (fun tm H k => Ac Ad p [] 21 n (cd c40 [1, 0, 1, 0, 0]) tm H k) (E1 0 (Es (fun tm H => Ac Ad p [] 21 n (cd c40 [1, 1]) tm H (B3 Ad p fi40.results k)) (B3 Ad p fi40.results k))) m tm H
theorem So (p : Pr β) (n : Nat)  (k : KO β) (m0 : Nat) : ∀ (t : Nat → AV) (H : Aa), Uf p n  k m0 (tf 21 0 t) H = J7 p n  k m0 (t 0) (t 1) (t 5) H := by
 induction m0 with
 | zero => intros; rfl
 | succ m0 ih =>
  intro t H
  refine Eq.trans (A1 (nt := 21) (m := m0) (g := fun t H => J7 p n  k m0 (t 0) (t 1) (t 5) H) ih rfl) ?_
  kernel_rfl
theorem Xc (p : Pr β) (n : Nat) (a0 a1 : AV) (H : Aa) (k : KO β) : Av Ad p n fi40 [a0, a1] H k =
 Uf p n  k n (tf 21 0 (ud [(0, a0), (1, a1), (4, (.sc (.int .i64 0))), (5, (.sc (.int .i64 0)))] ut)) H := by kernel_rfl
theorem Ug : G3 fi40 @f40 := fun p n a0 a1 H k => by
 rw [Xc]
 simp only [So]
 kernel_rfl
noncomputable def Hv (p : Pr β) (n : Nat)  (k : KO β) : Nat → AV → AV → KO β
 | 0, _, _, _, _ => none
 | m + 1, t0, t1, t5, H => p.len t0 fun t8 =>
   p.bin .lss t5 t8 fun t9 =>
   p.cond t9
   (p.iadr 25 t0 t5 fun t14 =>
   p.fadr 0 t14 fun t15 =>
   p.load false 1 t15 H fun t16 =>
   p.bin .neq t16 t1 fun t18 =>
   p.cond t18
   (k (.sc (.int .i64 (-1))) H)
   (p.bin .add t1 (.sc (.int .i64 1)) fun t20 =>
   p.iadr 25 t0 t5 fun t23 =>
   p.fadr 1 t23 fun t24 =>
   p.load false 1 t24 H fun t25 =>
   p.bin .rem t20 (.sc (.int .i64 3)) fun t27 =>
   p.bin .eql t27 (.sc (.int .i64 0)) fun t28 =>
   p.binB .neq t25 t28 fun t29 =>
   p.cond t29
   (k (.sc (.int .i64 (-1))) H)
   (p.bin .add t20 (.sc (.int .i64 1)) fun t31 =>
   p.iadr 25 t0 t5 fun t34 =>
   p.fadr 2 t34 fun t35 =>
   p.load false 1 t35 H fun t36 =>
   p.bin .neq t36 t31 fun t38 =>
   p.cond t38
   (k (.sc (.int .i64 (-1))) H)
   (p.bin .add t31 (.sc (.int .i64 1)) fun t40 =>
   p.iadr 25 t0 t5 fun t43 =>
   p.fadr 3 t43 fun t44 =>
   p.load false 1 t44 H fun t45 =>
   p.bin .rem t40 (.sc (.int .i64 3)) fun t47 =>
   p.bin .eql t47 (.sc (.int .i64 0)) fun t48 =>
   p.binB .neq t45 t48 fun t49 =>
   p.cond t49
   (k (.sc (.int .i64 (-1))) H)
   (p.bin .add t40 (.sc (.int .i64 1)) fun t51 =>
   p.iadr 25 t0 t5 fun t54 =>
   p.fadr 4 t54 fun t55 =>
   p.load false 1 t55 H fun t56 =>
   p.bin .neq t56 t51 fun t58 =>
   p.cond t58
   (k (.sc (.int .i64 (-1))) H)
   (p.bin .add t51 (.sc (.int .i64 1)) fun t60 =>
   p.iadr 25 t0 t5 fun t63 =>
   p.fadr 5 t63 fun t64 =>
   p.load false 1 t64 H fun t65 =>
   p.call 9 (.fn 216 [] []) [t60] H fun t67 H =>
   p.bin .neq t65 t67 fun t68 =>
   p.cond t68
   (k (.sc (.int .i64 (-1))) H)
   (p.bin .add t60 (.sc (.int .i64 1)) fun t70 =>
   p.iadr 25 t0 t5 fun t73 =>
   p.fadr 6 t73 fun t74 =>
   p.load false 1 t74 H fun t75 =>
   p.call 3 (.fn 105 [] []) [t75, t70] H fun t77 H =>
   p.bin .lss t77 (.sc (.int .i64 0)) fun t79 =>
   p.cond t79
   (k (.sc (.int .i64 (-1))) H)
   (p.iadr 25 t0 t5 fun t82 =>
   p.fadr 7 t82 fun t83 =>
   p.load false 1 t83 H fun t84 =>
   p.call 9 (.fn 216 [] []) [t77] H fun t86 H =>
   p.bin .neq t84 t86 fun t87 =>
   p.cond t87
   (k (.sc (.int .i64 (-1))) H)
   (p.bin .add t77 (.sc (.int .i64 1)) fun t89 =>
   p.iadr 25 t0 t5 fun t92 =>
   p.fadr 8 t92 fun t93 =>
   p.load false 1 t93 H fun t94 =>
   p.bin .neq t94 t89 fun t96 =>
   p.cond t96
   (k (.sc (.int .i64 (-1))) H)
   (p.bin .add t89 (.sc (.int .i64 1)) fun t98 =>
   p.iadr 25 t0 t5 fun t101 =>
   p.fadr 9 t101 fun t102 =>
   p.load false 1 t102 H fun t103 =>
   p.bin .rem t98 (.sc (.int .i64 3)) fun t105 =>
   p.bin .eql t105 (.sc (.int .i64 0)) fun t106 =>
   p.binB .neq t103 t106 fun t107 =>
   p.cond t107
   (k (.sc (.int .i64 (-1))) H)
   (p.bin .add t98 (.sc (.int .i64 1)) fun t109 =>
   p.iadr 25 t0 t5 fun t112 =>
   p.fadr 10 t112 fun t113 =>
   p.load false 1 t113 H fun t114 =>
   p.bin .neq t114 t109 fun t116 =>
   p.cond t116
   (k (.sc (.int .i64 (-1))) H)
   (p.bin .add t109 (.sc (.int .i64 1)) fun t118 =>
   p.iadr 25 t0 t5 fun t121 =>
   p.fadr 11 t121 fun t122 =>
   p.load false 1 t122 H fun t123 =>
   p.bin .rem t118 (.sc (.int .i64 3)) fun t125 =>
   p.bin .eql t125 (.sc (.int .i64 0)) fun t126 =>
   p.binB .neq t123 t126 fun t127 =>
   p.cond t127
   (k (.sc (.int .i64 (-1))) H)
   (p.bin .add t118 (.sc (.int .i64 1)) fun t129 =>
   p.iadr 25 t0 t5 fun t132 =>
   p.fadr 12 t132 fun t133 =>
   p.load false 1 t133 H fun t134 =>
   p.call 9 (.fn 216 [] []) [t129] H fun t136 H =>
   p.bin .neq t134 t136 fun t137 =>
   p.cond t137
   (k (.sc (.int .i64 (-1))) H)
   (p.bin .add t129 (.sc (.int .i64 1)) fun t139 =>
   p.iadr 25 t0 t5 fun t142 =>
   p.fadr 13 t142 fun t143 =>
   p.load false 1 t143 H fun t144 =>
   p.call 3 (.fn 105 [] []) [t144, t139] H fun t146 H =>
   p.bin .lss t146 (.sc (.int .i64 0)) fun t148 =>
   p.cond t148
   (k (.sc (.int .i64 (-1))) H)
   (p.iadr 25 t0 t5 fun t151 =>
   p.fadr 14 t151 fun t152 =>
   p.load false 1 t152 H fun t153 =>
   p.bin .neq t153 t146 fun t155 =>
   p.cond t155
   (k (.sc (.int .i64 (-1))) H)
   (p.bin .add t146 (.sc (.int .i64 1)) fun t157 =>
   p.iadr 25 t0 t5 fun t160 =>
   p.fadr 15 t160 fun t161 =>
   p.load false 1 t161 H fun t162 =>
   p.bin .rem t157 (.sc (.int .i64 3)) fun t164 =>
   p.bin .eql t164 (.sc (.int .i64 0)) fun t165 =>
   p.binB .neq t162 t165 fun t166 =>
   p.cond t166
   (k (.sc (.int .i64 (-1))) H)
   (p.bin .add t157 (.sc (.int .i64 1)) fun t168 =>
   p.iadr 25 t0 t5 fun t171 =>
   p.fadr 16 t171 fun t172 =>
   p.load false 1 t172 H fun t173 =>
   p.bin .rem t168 (.sc (.int .i64 3)) fun t175 =>
   p.bin .eql t175 (.sc (.int .i64 0)) fun t176 =>
   p.binB .neq t173 t176 fun t177 =>
   p.cond t177
   (k (.sc (.int .i64 (-1))) H)
   (p.bin .add t168 (.sc (.int .i64 1)) fun t179 =>
   p.iadr 25 t0 t5 fun t182 =>
   p.fadr 17 t182 fun t183 =>
   p.load false 1 t183 H fun t184 =>
   p.call 9 (.fn 216 [] []) [t179] H fun t186 H =>
   p.bin .neq t184 t186 fun t187 =>
   p.cond t187
   (k (.sc (.int .i64 (-1))) H)
   (p.bin .add t179 (.sc (.int .i64 1)) fun t189 =>
   p.iadr 25 t0 t5 fun t192 =>
   p.fadr 18 t192 fun t193 =>
   p.load false 1 t193 H fun t194 =>
   p.bin .rem t189 (.sc (.int .i64 3)) fun t196 =>
   p.bin .eql t196 (.sc (.int .i64 0)) fun t197 =>
   p.binB .neq t194 t197 fun t198 =>
   p.cond t198
   (k (.sc (.int .i64 (-1))) H)
   (p.bin .add t189 (.sc (.int .i64 1)) fun t200 =>
   p.iadr 25 t0 t5 fun t203 =>
   p.fadr 19 t203 fun t204 =>
   p.load false 1 t204 H fun t205 =>
   p.call 3 (.fn 105 [] []) [t205, t200] H fun t207 H =>
   p.bin .lss t207 (.sc (.int .i64 0)) fun t209 =>
   p.cond t209
   (k (.sc (.int .i64 (-1))) H)
   (p.iadr 25 t0 t5 fun t212 =>
   p.fadr 20 t212 fun t213 =>
   p.load false 1 t213 H fun t214 =>
   p.bin .neq t214 t207 fun t216 =>
   p.cond t216
   (k (.sc (.int .i64 (-1))) H)
   (p.bin .add t207 (.sc (.int .i64 1)) fun t218 =>
   p.iadr 25 t0 t5 fun t221 =>
   p.fadr 21 t221 fun t222 =>
   p.load false 1 t222 H fun t223 =>
   p.bin .rem t218 (.sc (.int .i64 3)) fun t225 =>
   p.bin .eql t225 (.sc (.int .i64 0)) fun t226 =>
   p.binB .neq t223 t226 fun t227 =>
   p.cond t227
   (k (.sc (.int .i64 (-1))) H)
   (p.bin .add t218 (.sc (.int .i64 1)) fun t229 =>
   p.iadr 25 t0 t5 fun t232 =>
   p.fadr 22 t232 fun t233 =>
   p.load false 1 t233 H fun t234 =>
   p.call 3 (.fn 106 [] []) [t234, t229] H fun t236 H =>
   p.bin .lss t236 (.sc (.int .i64 0)) fun t238 =>
   p.cond t238
   (k (.sc (.int .i64 (-1))) H)
   (p.iadr 25 t0 t5 fun t241 =>
   p.fadr 23 t241 fun t242 =>
   p.load false 1 t242 H fun t243 =>
   p.call 3 (.fn 107 [] []) [t243, t236] H fun t245 H =>
   p.bin .lss t245 (.sc (.int .i64 0)) fun t247 =>
   p.cond t247
   (k (.sc (.int .i64 (-1))) H)
   (p.iadr 25 t0 t5 fun t250 =>
   p.fadr 24 t250 fun t251 =>
   p.load false 1 t251 H fun t252 =>
   p.call 3 (.fn 40 [] []) [t252, t245] H fun t254 H =>
   p.bin .lss t254 (.sc (.int .i64 0)) fun t256 =>
   p.cond t256
   (k (.sc (.int .i64 (-1))) H)
   (p.bin .add t5 (.sc (.int .i64 1)) fun t11 =>
   Hv p n  k m t0 t254 t11 H))))))))))))))))))))))))))
   (k t1 H)
noncomputable def f163 (p : Pr β) (n : Nat) (a0 a1 : AV) (H : Aa) (k : KO β) : Option β :=
 Hv p n  k n a0 a1 (.sc (.int .i64 0)) H
noncomputable def Qx (p : Pr β) (n : Nat)  (k : KO β) (m : Nat) (tm : Tm) (H : Aa) : Option β :=
 Bs 258 (fun tm H k => Ac Ad p Aam 258 n (cd Zt [1, 0, 1, 0, 0]) tm H k) (E1 0 (Es (fun tm H => Ac Ad p Aam 258 n (cd Zt [1, 1]) tm H (B3 Ad p fi163.results k)) (B3 Ad p fi163.results k))) m tm H
theorem Pf (p : Pr β) (n : Nat)  (k : KO β) (m0 : Nat) : ∀ (t : Nat → AV) (H : Aa), Qx p n  k m0 (tf 258 0 t) H = Hv p n  k m0 (t 0) (t 1) (t 5) H := by
 induction m0 with
 | zero => intros; rfl
 | succ m0 ih =>
  intro t H
  refine Eq.trans (A1 (nt := 258) (m := m0) (g := fun t H => Hv p n  k m0 (t 0) (t 1) (t 5) H) ih rfl) ?_
  kernel_rfl
theorem T8 (p : Pr β) (n : Nat) (a0 a1 : AV) (H : Aa) (k : KO β) : Av Ad p n fi163 [a0, a1] H k =
 Qx p n  k n (tf 258 0 (ud [(0, a0), (1, a1), (4, (.sc (.int .i64 0))), (5, (.sc (.int .i64 0)))] ut)) H := by kernel_rfl
theorem Sd : G3 fi163 @f163 := fun p n a0 a1 H k => by
 rw [T8]
 simp only [Pf]
 kernel_rfl
noncomputable def f164 (p : Pr β) (n : Nat) (a0 a1 : AV) (H : Aa) (k : KO β) : Option β :=
 p.box a0 H fun t2 H =>
 p.fadr 1 t2 fun t5 =>
 p.load false 1 t5 H fun t6 =>
 p.call 3 (.fn 105 [] []) [t6, a1] H fun t8 H =>
 p.bin .lss t8 (.sc (.int .i64 0)) fun t10 =>
 p.cond t10
 (k (.sc (.int .i64 (-1))) H)
 (k t8 H)
theorem Se : G3 Yz @f164 := fun p n a0 a1 H k => by kernel_rfl
noncomputable def f50 (p : Pr β) (n : Nat) (a0 a1 : AV) (H : Aa) (k : KO β) : Option β :=
 p.box a0 H fun t2 H =>
 p.fadr 2 t2 fun t5 =>
 p.load true 2 t5 H fun t6 =>
 p.call 3 (.fn 162 [] []) [t6, a1] H fun t8 H =>
 p.bin .lss t8 (.sc (.int .i64 0)) fun t10 =>
 p.cond t10
 (k (.sc (.int .i64 (-1))) H)
 (p.fadr 4 t2 fun t11 =>
 p.load false 1 t11 H fun t12 =>
 p.call 3 (.fn 163 [] []) [t12, t8] H fun t14 H =>
 p.bin .lss t14 (.sc (.int .i64 0)) fun t16 =>
 p.cond t16
 (k (.sc (.int .i64 (-1))) H)
 (p.fadr 10 t2 fun t17 =>
 p.load true 4 t17 H fun t18 =>
 p.call 3 (.fn 164 [] []) [t18, t14] H fun t20 H =>
 p.bin .lss t20 (.sc (.int .i64 0)) fun t22 =>
 p.cond t22
 (k (.sc (.int .i64 (-1))) H)
 (p.fadr 15 t2 fun t23 =>
 p.load false 1 t23 H fun t24 =>
 p.call 3 (.fn 105 [] []) [t24, t20] H fun t26 H =>
 p.bin .lss t26 (.sc (.int .i64 0)) fun t28 =>
 p.cond t28
 (k (.sc (.int .i64 (-1))) H)
 (k t26 H))))
theorem Ul : G3 AaE @f50 := fun p n a0 a1 H k => by kernel_rfl
noncomputable def f7 (p : Pr β) (n : Nat) (a0 a1 : AV) (H : Aa) (k : KO β) : Option β :=
 p.call 95 (.fn 46 [] []) [a0, a1] H fun t12 H =>
 p.new [(.sc (.bool false)), (.sc (.int .i64 0)), .nl, (.sc (.bool false)), .nl, (.sc (.bool false)), (.sc (.string ⟨#[]⟩)), (.sc (.int .i64 0)), (.sc (.int .i64 0)), (.sc (.bool false)), (.sc (.string ⟨#[]⟩)), .nl, (.sc (.int .i64 0)), (.sc (.bool false)), (.sc (.bool false)), .nl] H fun t5 H =>
 p.store 16 t5 t12 H fun H =>
 p.call 95 (.fn 47 [] []) [a0, a1] H fun t15 H =>
 p.new [(.sc (.bool false)), (.sc (.int .i64 0)), .nl, (.sc (.bool false)), .nl, (.sc (.bool false)), (.sc (.string ⟨#[]⟩)), (.sc (.int .i64 0)), (.sc (.int .i64 0)), (.sc (.bool false)), (.sc (.string ⟨#[]⟩)), .nl, (.sc (.int .i64 0)), (.sc (.bool false)), (.sc (.bool false)), .nl] H fun t6 H =>
 p.store 16 t6 t15 H fun H =>
 p.load true 16 t6 H fun t16 =>
 p.load true 16 t5 H fun t17 =>
 p.call 4 (.fn 48 [] []) [t16, t17] H fun t18 H =>
 p.un .not t18 fun t19 =>
 p.cond t19
 (k (.sc (.bool false)) H)
 (p.load true 16 t6 H fun t20 =>
 p.call 3 (.fn 49 [] []) [t20, (.sc (.int .i64 1))] H fun t22 H =>
 p.load true 16 t6 H fun t23 =>
 p.call 3 (.fn 50 [] []) [t23, (.sc (.int .i64 1))] H fun t25 H =>
 p.bin .lss t25 (.sc (.int .i64 0)) fun t27 =>
 p.cond t27
 (k (.sc (.bool false)) H)
 (p.bin .neq t25 t22 fun t30 =>
 p.cond t30
 (k (.sc (.bool false)) H)
 (p.call 95 (.fn 47 [] []) [a0, a1] H fun t33 H =>
 p.new [(.sc (.bool false)), (.sc (.int .i64 0)), .nl, (.sc (.bool false)), .nl, (.sc (.bool false)), (.sc (.string ⟨#[]⟩)), (.sc (.int .i64 0)), (.sc (.int .i64 0)), (.sc (.bool false)), (.sc (.string ⟨#[]⟩)), .nl, (.sc (.int .i64 0)), (.sc (.bool false)), (.sc (.bool false)), .nl] H fun t9 H =>
 p.store 16 t9 t33 H fun H =>
 p.load true 16 t9 H fun t34 =>
 p.load true 16 t5 H fun t35 =>
 p.call 4 (.fn 48 [] []) [t34, t35] H fun t36 H =>
 p.un .not t36 fun t37 =>
 p.cond t37
 (k (.sc (.bool false)) H)
 (p.load true 16 t6 H fun t38 =>
 p.call 3 (.fn 50 [] []) [t38, (.sc (.int .i64 1))] H fun t40 H =>
 p.bin .lss t40 (.sc (.int .i64 0)) fun t42 =>
 p.cond t42
 (k (.sc (.bool false)) H)
 (p.bin .neq t40 t22 fun t45 =>
 p.cond t45
 (k (.sc (.bool false)) H)
 (k (.sc (.bool true)) H))))))
theorem Xd : G3 fi7 @f7 := fun p n a0 a1 H k => by kernel_rfl
noncomputable def fss : List (Option C9) := [none, none, none, none, none, none, none, some fi7, none, none, none, none, none, none, none, none, none, some Aa7, none, none, none, none, none, none, none, none, none, none, none, none, none, none, none, none, none, none, none, none, some fi38, some fi39, some fi40, none, none, none, none, none, some AaA, some AaB, some AaC, some AaD, some AaE, none, none, none, none, none, none, none, none, none, none, none, some AaF, none, none, none, none, none, none, none, none, none, none, none, none, none, none, none, none, none, none, none, none, none, none, none, none, none, none, none, none, none, none, none, none, some fi95, some fi96, some fi97, none, none, some fi100, some fi101, some fi102, none, none, some fi105, some fi106, some fi107, none, none, none, none, none, none, none, none, none, none, none, none, none, none, none, none, none, none, none, none, none, none, none, none, none, none, none, none, none, none, none, none, none, none, some Yt, none, none, none, none, none, none, none, none, none, none, none, some Yu, some fi155, some fi156, some Yv, some fi158, some Yw, some fi160, some Yx, some Yy, some fi163, some Yz, none, none, none, none, none, none, none, none, none, none, none, none, none, none, none, none, none, none, some Y0, none, none, none, none, none, none, none, none, none, none, none, none, none, none, none, none, none, none, none, none, none, none, none, none, none, none, none, none, none, none, none, some Y1, some fi216, none, none, none, none, none, none, none, none, none, none, none, none, none, none, none, some Aa8, none, none, none, some Y2, none, some Y3, some Y4, none, none, none, none, none, none, none, none, none, none, none, none, none, none, none, none, none, none, none, none, none, none, none, none, none, none, none, none, none, none, none, none, none, none, none, none, none, none, none, some Aa9, some Y5]
noncomputable def tps : List (Nat × List Nat) := [(37, [30, 36, 4]), (55, [54, 4]), (70, [34, 4, 36, 4]), (124, [59, 3, 85]), (126, [59, 3]), (131, [59, 4, 3, 3]), (135, [9, 3, 4, 3, 3]), (146, [30, 3, 3]), (148, [30, 85]), (150, [30, 3]), (180, [3, 4]), (228, [28, 3]), (282, [3, 3, 4]), (289, [36, 3, 3]), (315, [3, 3, 3]), (323, [28, 85, 4]), (329, [328, 4]), (334, [9, 3, 4]), (353, [31, 3, 4]), (363, [3, 362]), (365, [21, 3]), (372, [371, 371])]
noncomputable def E0 : Fz := { ti := Ad, tp := fun t => Rb tps t, fs := fun f => (fss[f]?).getD none, ext := fun f => if Nat.beq f 147 then some O1 else if Nat.beq f 267 then some O2 else if Nat.beq f 300 then some O3 else none, hm := fun f => [18, 19, 30, 31, 39, 49, 57, 63, 66, 72, 78, 79, 98, 99, 100, 101, 102, 118, 159, 160, 161, 178, 179, 180, 181, 184, 185, 186, 188, 195, 200, 217, 222, 257, 258, 259, 260, 261, 262, 264, 265, 270, 293, 294, 295, 297, 322, 332, 333, 334, 335, 336, 349, 351, 356, 357, 358, 366, 367, 382, 383, 384, 385, 386, 389].contains f }
noncomputable def PR (n : Nat) (β : Type) : Pr β := A2 E0 (Be E0 n) β
abbrev Yp (j : Nat) (f : (β : Type) → Pr β → Nat → AV → Aa → KO β → Option β) : Prop := ∀ {β : Type} (n : Nat) (a0 : AV) (H : Aa) (k : KO β), Be E0 (n + 1) β j [a0] H k = f β (PR n β) n a0 H k
abbrev G4 (j : Nat) (f : (β : Type) → Pr β → Nat → AV → AV → Aa → KO β → Option β) : Prop := ∀ {β : Type} (n : Nat) (a0 a1 : AV) (H : Aa) (k : KO β), Be E0 (n + 1) β j [a0, a1] H k = f β (PR n β) n a0 a1 H k
theorem Wr : Yp 142 @f142 := fun n => R3 (PR n _) n
theorem W6 : Yp 236 @f236 := fun n => Si (PR n _) n
theorem Wt : Yp 155 @f155 := fun n => R5 (PR n _) n
theorem Z2 : G4 46 @f46 := fun n => Uh (PR n _) n
theorem W3 : G4 183 @f183 := fun n => Sf (PR n _) n
theorem W9 : Yp 280 @f280 := fun n => Sl (PR n _) n
theorem W7 : Yp 238 @f238 := fun n => Sj (PR n _) n
theorem Z7 : G4 62 @f62 := fun n => Um (PR n _) n
theorem W8 : Yp 239 @f239 := fun n => Sk (PR n _) n
theorem Wu : Yp 156 @f156 := fun n => R6 (PR n _) n
theorem Z3 : G4 47 @f47 := fun n => Ui (PR n _) n
theorem Z8 : G4 95 @f95 := fun n => Uo (PR n _) n
theorem Wv : G4 157 @f157 := fun n => R7 (PR n _) n
theorem W4 : G4 215 @f215 := fun n => Sg (PR n _) n
theorem Z9 : G4 96 @f96 := fun n => Uq (PR n _) n
theorem Aaa : G4 97 @f97 := fun n => Us (PR n _) n
theorem Zz : G4 38 @f38 := fun n => Uc (PR n _) n
theorem Zy : G4 17 @f17 := fun n => T9 (PR n _) n
theorem Ww : G4 158 @f158 := fun n => R8 (PR n _) n
theorem Ws : G4 154 @f154 := fun n => R4 (PR n _) n
theorem Z4 : G4 48 @f48 := fun n => Uj (PR n _) n
theorem Wl : G4 100 @f100 := fun n => Rw (PR n _) n
theorem Wx : G4 159 @f159 := fun n => R9 (PR n _) n
theorem W5 : Yp 216 @f216 := fun n => Sh (PR n _) n
theorem Wm : G4 101 @f101 := fun n => Rx (PR n _) n
theorem Wn : G4 102 @f102 := fun n => Ry (PR n _) n
theorem Z0 : G4 39 @f39 := fun n => Ue (PR n _) n
theorem Wy : G4 160 @f160 := fun n => Sa (PR n _) n
theorem Wz : G4 161 @f161 := fun n => Sb (PR n _) n
theorem Z5 : G4 49 @f49 := fun n => Uk (PR n _) n
theorem Wo : G4 105 @f105 := fun n => Rz (PR n _) n
theorem W0 : G4 162 @f162 := fun n => Sc (PR n _) n
theorem Wp : G4 106 @f106 := fun n => R0 (PR n _) n
theorem Wq : G4 107 @f107 := fun n => R2 (PR n _) n
theorem Z1 : G4 40 @f40 := fun n => Ug (PR n _) n
theorem W1 : G4 163 @f163 := fun n => Sd (PR n _) n
theorem W2 : G4 164 @f164 := fun n => Se (PR n _) n
theorem Z6 : G4 50 @f50 := fun n => Ul (PR n _) n
theorem Aa6 : G4 7 @f7 := fun n => Xd (PR n _) n
end
section
open Go Go.Shelf Go.RowKit Go.Lib Go.Proofs
variable {P : Program} {ρ : Ren}
def ItAt (w w' : World) (s : ByteArray) (pos : Nat) : Prop := Below w.heap.size w w' ∧ w'.heap[w.heap.size]? = some (.stringIter s pos)
def Jg (w' : World) (a : Nat) (s : ByteArray) (pos : Nat) : World := { w' with heap := w'.heap.setIfInBounds a (.stringIter s pos) }
theorem Pt (w : World) (s : ByteArray) (pos : Nat) : ItAt w (w.iter s pos) s pos := ⟨(Below.refl _ w).alloc (Nat.le_refl _) _, World.iter_heap w s pos⟩
theorem ItAt.lt {w w' : World} {s : ByteArray} {pos : Nat} (h : ItAt w w' s pos) : w.heap.size < w'.heap.size := by
 have := h.2
 simp only [Array.getElem?_eq_some_iff] at this
 exact this.1
theorem ItAt.set {w w' : World} {s : ByteArray} {pos : Nat} (h : ItAt w w' s pos) (pos' : Nat) : ItAt w (Jg w' w.heap.size s pos') s pos' := by
 refine ⟨h.1.trans ⟨rfl, rfl, rfl, by simp [Jg], fun k hk => ?_⟩, ?_⟩
 ·simp only [Jg]
  rw [Array.getElem?_setIfInBounds_ne (by omega)]
 ·simp only [Jg]
  rw [Array.getElem?_setIfInBounds_self_of_lt h.lt]
theorem ItAt.below {w w1 w2 : World} {s : ByteArray} {pos : Nat} (h : ItAt w w1 s pos) (hb : Below w1.heap.size w1 w2) : ItAt w w2 s pos :=
 ⟨h.1.trans (hb.mono h.1.size), by rw [hb.block _ h.lt]; exact h.2⟩
theorem X1 {w w' : World} {s : ByteArray} {pos : Nat} (h : ItAt w w' s pos) (hp : pos < s.size) (ty : TypeId) :
  (Instr.next (.pointer (some ⟨w.heap.size, 0, none⟩)) true ty).run P w' = .ok (.tuple #[.bool true, .int .i64 pos, .int .i32 (Utf8.decode s pos).1]) (Jg w' w.heap.size s (pos + (Utf8.decode s pos).2)) := by
 simp only [Instr.next, getObj, setObj, Sem.run_bind, Sem.run, h.2, Result.andThen, hp, if_true]
 simp [goInt, Jg]
theorem Ve {w w' : World} {s : ByteArray} {pos : Nat} (h : ItAt w w' s pos) (hp : ¬ pos < s.size) (ty : TypeId) :
  (Instr.next (.pointer (some ⟨w.heap.size, 0, none⟩)) true ty).run P w' = .ok (.tuple #[.bool false]) w' := by
 simp [Instr.next, getObj, Sem.run, h.2, hp]
theorem Yf (s : ByteArray) (pos : Nat) : (Utf8.decode s pos).1 < 55296 ∨ (57343 < (Utf8.decode s pos).1 ∧ (Utf8.decode s pos).1 ≤ 1114111) := by
 rw [← Lib.decodeL_drop, Lib.decodeL_N]
 exact Lib.decodeN_valid _ _ _ _ _ (UInt8.toNat_lt _)
theorem Yd : phB.size = 2 := rfl
set_option maxHeartbeats 8000000 in
set_option maxRecDepth 1000000 in
theorem Vo (L : Lays.n152 P ρ) (r : Nat) (rs : ByteArray) (w : World) (h1 : 128 ≤ r) (hv : r < 55296 ∨ (57343 < r ∧ r ≤ 1114111)) (he : ¬ r = 65533) (hcv : ∀ w, (convert (ρ.t 21) (ρ.t 9) (.int .i32 r)).run P w = .ok (.string rs) w)
  (hs2 : 2 ≤ rs.size) (hs4 : rs.size ≤ 4) (hsl : rs.size = 2 → ∀ h : 1 < rs.size, 128 ≤ (rs[1]'h).toNat) :
  Calls P (ρ.f 152) #[.string phB, .int .i32 r] w fun e w' => e = .returned (.int .i64 (-1)) ∧ Below w.heap.size w w' := by
 have cV : ∀ w, Calls P (ρ.f 119) #[.int .i32 r] w _ := fun w => Any.utf8_ValidRune { L with } r w
 have cI : ∀ s c w, Calls P (ρ.f 137) #[.string s, .int .u8 c] w _ := fun s c w => Any.strings_IndexByte { L with } s c w
 have mixed := L.mixed
 have t3 := L.t3; have a3 := L.a3; have z3 := L.z3; have v3 := L.v3
 have t4 := L.t4; have a4 := L.a4; have z4 := L.z4; have v4 := L.v4
 have t5 := L.t5; have a5 := L.a5; have z5 := L.z5; have v5 := L.v5
 have t9 := L.t9; have a9 := L.a9; have z9 := L.z9; have v9 := L.v9
 have t21 := L.t21; have a21 := L.a21; have z21 := L.z21; have v21 := L.v21
 have e137 : ∀ args w, (callFunc (ρ.f 137) args).run P w = .ok (.enter (ρ.f 137) args) w := enters_of L.f137 (by kernel_rfl) rfl
 have e119 : ∀ args w, (callFunc (ρ.f 119) args).run P w = .ok (.enter (ρ.f 119) args) w := enters_of L.f119 (by kernel_rfl) rfl
 have hge : decide ((0 : Int) ≤ (r : Int)) = true := by simp
 have hlt : decide ((r : Int) < 128) = false := by simp; omega
 have bel : ∀ pos, Below w.heap.size w (w.iter phB pos) := fun pos => (Below.refl _ w).alloc (Nat.le_refl _) _
 have hne : ((r : Int) == 65533) = false := by simp; omega
 have hvr : Lib.validRune (r : Int) = true := by simp [Lib.validRune]; omega
 go_enter L.f152, Body.n152_ntmps ρ
 go_wp2_with (first
  | (go_at_fn (ρ.f 119); refine (cV _).mono ?_; rintro e w' ⟨rfl, hw⟩; rw [hw, hvr])
  | (go_at_fn (ρ.f 137); refine (cI _ _ _).mono ?_; rintro e w' ⟨rfl, hw⟩; rw [hw]))
 go_step3
 go_wp2
 go_loopg [9, 10] 1 (fun g i fl wx => g = 1 ∧ i = .int .i64 ((rs.size : Int) - 1) ∧ fl = .int .i64 0 ∧ wx = w)
 case atStart => exact ⟨rfl, rfl, rfl, rfl⟩
 case round =>
  obtain ⟨-, rfl, rfl, rfl⟩ := hrel
  by_cases h3 : 3 ≤ rs.size
  ·have hlt : decide ((rs.size : Int) - 1 < (phB.size : Int)) = false := by rw [Yd]; simp; omega
   go_wp2
   try rw [Exit.noGoto_ret]
   go_ret
   exact ⟨rfl, Below.refl _ _⟩
  ·have h2 : rs.size = 2 := by omega
   have hi1 : ((rs.size : Int) - 1) = 1 := by omega
   have hi : 1 < rs.size := by omega
   have hp : 1 < phB.size := by decide
   obtain ⟨x, hx⟩ : ∃ x : UInt8, rs[1]'hi = x := ⟨_, rfl⟩
   have hx128 : 128 ≤ x.toNat := by
    rw [← hx]
    exact hsl h2 hi
   have hp1 : phB[1]'hp = 35 := rfl
   have hlt : decide ((1 : Int) < (phB.size : Int)) = true := rfl
   have hne35 : (((35 : UInt8).toNat : Int) != (x.toNat : Int)) = true := by simp; omega
   have hib : Lib.indexByte (List.take (phB.size - 2) (List.drop 2 phB.data.toList)) x = -1 := rfl
   rw [hi1]
   clear hsl hs2 hs4
   go_wp2
   go_step3
   go_wp2
   go_region_o
   all_goals
    go_wp2
    go_region_with_o (go_at_fn (ρ.f 137); refine (cI _ _ _).mono ?_; rintro e w' ⟨rfl, hw⟩; rw [hw])
   all_goals
    go_wp2
    simp only [Exit.inBlock, Exit.then, Exit.noGoto]
    go_ret
    exact ⟨rfl, (Below.refl _ _).drew.drew⟩
set_option maxHeartbeats 8000000 in
set_option maxRecDepth 1000000 in
theorem Yg (L : Lays.n152 P ρ) (r : Nat) (w : World) (h1 : 128 ≤ r) (hv : r < 55296 ∨ (57343 < r ∧ r ≤ 1114111)) :
  Calls P (ρ.f 152) #[.string phB, .int .i32 r] w fun e w' => e = .returned (.int .i64 (-1)) ∧ Below w.heap.size w w' := by
 have cV : ∀ w, Calls P (ρ.f 119) #[.int .i32 r] w _ := fun w => Any.utf8_ValidRune { L with } r w
 have cI : ∀ s c w, Calls P (ρ.f 137) #[.string s, .int .u8 c] w _ := fun s c w => Any.strings_IndexByte { L with } s c w
 have t3 := L.t3; have a3 := L.a3; have z3 := L.z3; have v3 := L.v3
 have t4 := L.t4; have a4 := L.a4; have z4 := L.z4; have v4 := L.v4
 have t5 := L.t5; have a5 := L.a5; have z5 := L.z5; have v5 := L.v5
 have t9 := L.t9; have a9 := L.a9; have z9 := L.z9; have v9 := L.v9
 have t21 := L.t21; have a21 := L.a21; have z21 := L.z21; have v21 := L.v21
 have e137 : ∀ args w, (callFunc (ρ.f 137) args).run P w = .ok (.enter (ρ.f 137) args) w := enters_of L.f137 (by kernel_rfl) rfl
 have e119 : ∀ args w, (callFunc (ρ.f 119) args).run P w = .ok (.enter (ρ.f 119) args) w := enters_of L.f119 (by kernel_rfl) rfl
 have hge : decide ((0 : Int) ≤ (r : Int)) = true := by simp
 have hlt : decide ((r : Int) < 128) = false := by simp; omega
 have bel : ∀ pos, Below w.heap.size w (w.iter phB pos) := fun pos => (Below.refl _ w).alloc (Nat.le_refl _) _
 by_cases he : r = 65533
 ·subst he
  go_enter L.f152, Body.n152_ntmps ρ
  go_wp2
  go_loopg [5, 6] 2 (fun g _ _ wx => ∃ i : Nat, i + g = 2 ∧ wx = w.iter phB i)
  case atStart => exact ⟨0, by omega, rfl⟩
  case round =>
   obtain ⟨i, hig, rfl⟩ := hrel
   cases gk with
   | zero =>
    obtain rfl : i = 2 := by omega
    have hnx := fun ty => run_next_end (P := P) w phB 2 ty (by decide)
    go_wp2
    go_ret
    exact ⟨rfl, bel _⟩
   | succ g =>
    have hi : i < phB.size := by
     show i < 2
     omega
    have hx : (phB[i]'hi).toNat < 64 := by
     have : ∀ q : Fin 2, (phB[q.val]'q.isLt).toNat < 64 := by decide
     exact this ⟨i, hi⟩
    have hnx := fun ty => run_next_ascii (P := P) w phB i ty hi (by omega)
    generalize (phB[i]'hi).toNat = x at hnx hx
    have hxe : ((x : Int) == 65533) = false := by simp; omega
    go_wp2
    go_roundg g
    case measure => omega
    case rel => exact ⟨i + 1, by omega, rfl⟩
 ·obtain ⟨hs2, hs4, hsl⟩ := encode_facts (r : Int) (by simp [Utf8.valid]; omega) (by omega)
  refine Vo L r (Utf8.encode r) w h1 hv he (fun w => run_convert_int_string w _ _ _ _ (by rw [t21]; rfl) t9) hs2 hs4 ?_
  intro h2 hi
  have := hsl (by omega)
  simp only [h2] at this
  exact this
theorem Zw (l : List UInt8) (h : 128 ≤ (l.getD 0 0).toNat) : 128 ≤ (Lib.decodeL l).1 ∧ ∀ j, j < (Lib.decodeL l).2 → 128 ≤ (l.getD j 0).toNat := by
 rw [Lib.decodeL_N]
 generalize hn : l.length = n
 generalize h0 : (l.getD 0 0).toNat = b0 at h ⊢
 generalize h1 : (l.getD 1 0).toNat = b1
 generalize h2 : (l.getD 2 0).toNat = b2
 generalize h3 : (l.getD 3 0).toNat = b3
 have key : ∀ q, q ≤ 4 → (q = 2 → 128 ≤ b1) → (q = 3 → 128 ≤ b1 ∧ 128 ≤ b2) → (q = 4 → 128 ≤ b1 ∧ 128 ≤ b2 ∧ 128 ≤ b3) → ∀ j, j < q → 128 ≤ (l.getD j 0).toNat := by
  intro q hq k2 k3 k4 j hj
  have : j = 0 ∨ j = 1 ∨ j = 2 ∨ j = 3 := by omega
  rcases this with rfl | rfl | rfl | rfl
  ·rw [h0]; exact h
  ·rw [h1]; omega
  ·rw [h2]; omega
  ·rw [h3]; omega
 unfold Lib.decodeN
 rw [if_neg (by omega)]
 repeat' split
 all_goals
  refine ⟨?_, key _ ?_ ?_ ?_ ?_⟩ <;> simp only <;> omega
def S4 (l : List UInt8) : Bool := l.any fun c => c == 43 || c == 35
theorem N7 : ∀ (k : Nat) (l : List UInt8), (∀ j, j < k → 128 ≤ (l.getD j 0).toNat) → S4 l = S4 (l.drop k)
 | 0, l, _ => rfl
 | k + 1, [], _ => by simp
 | k + 1, b :: l, h => by
  have h0 : 128 ≤ b.toNat := h 0 (by omega)
  have ih := N7 k l fun j hj => h (j + 1) (by omega)
  have e1 : (b == 43) = false := by
   rw [beq_eq_false_iff_ne]
   rintro rfl
   simp at h0
  have e2 : (b == 35) = false := by
   rw [beq_eq_false_iff_ne]
   rintro rfl
   simp at h0
  show (List.any (b :: l) _) = _
  rw [List.any_cons, e1, e2, Bool.or_self, Bool.false_or, List.drop_succ_cons]
  exact ih
theorem Vl (l : List UInt8) (hne : l ≠ []) : S4 l = (((Lib.decodeL l).1 == 43 || (Lib.decodeL l).1 == 35) || S4 (l.drop (Lib.decodeL l).2)) := by
 cases l with
 | nil => exact absurd rfl hne
 | cons b l =>
  by_cases hb : 128 ≤ b.toNat
  ·obtain ⟨h1, h2⟩ := Zw (b :: l) hb
   have e1 : ((Lib.decodeL (b :: l)).1 == 43) = false := by simp; omega
   have e2 : ((Lib.decodeL (b :: l)).1 == 35) = false := by simp; omega
   rw [e1, e2, Bool.or_self, Bool.false_or]
   exact N7 _ _ h2
  ·have e : Lib.decodeL (b :: l) = (b.toNat, 1) := by
    rw [Lib.decodeL_N]
    unfold Lib.decodeN
    rw [if_pos (by simpa using hb)]
    rfl
   rw [e]
   show List.any (b :: l) _ = _
   rw [List.any_cons, List.drop_succ_cons, List.drop_zero]
   have e1 : (b == 43) = (b.toNat == 43) := by
    rw [Bool.eq_iff_iff, beq_iff_eq, beq_iff_eq, ← UInt8.toNat_inj]; rfl
   have e2 : (b == 35) = (b.toNat == 35) := by
    rw [Bool.eq_iff_iff, beq_iff_eq, beq_iff_eq, ← UInt8.toNat_inj]; rfl
   rw [e1, e2]
   rfl
theorem Rg (s : ByteArray) : S4 s.data.toList = vPH s := Oo _ _ _
theorem Wf (r : Nat) (h : r < 128) : decide (0 ≤ Lib.indexByte phB.data.toList r.toUInt8) = (r == 43 || r == 35) := by
 have : ∀ q : Fin 128, decide (0 ≤ Lib.indexByte phB.data.toList (q.val).toUInt8) = (q.val == 43 || q.val == 35) := by decide
 exact this ⟨r, h⟩
set_option maxHeartbeats 8000000 in
set_option maxRecDepth 1000000 in
theorem Vr (L : Lays.n153 P ρ) (s : ByteArray) (w : World) (h8 : s.size ≤ 8) :
  Calls P (ρ.f 153) #[.string s, .string phB] w fun e w' => (∃ z : Int, e = .returned (.int .i64 z) ∧ decide (0 ≤ z) = S4 s.data.toList) ∧ Below w.heap.size w w' := by
 have cA : ∀ (r : Nat) w, r < 128 → ∃ z : Int, decide (0 ≤ z) = (r == 43 || r == 35) ∧ Calls P (ρ.f 152) #[.string phB, .int .i32 r] w fun e w' => e = .returned (.int .i64 z) ∧ w' = w := fun r w h => ⟨_, Wf r h, Any.strings_IndexRune_ascii { L with } phB r w (by omega) (by omega)⟩
 have cR : ∀ (r : Nat) w, 128 ≤ r → r < 55296 ∨ (57343 < r ∧ r ≤ 1114111) → Calls P (ρ.f 152) #[.string phB, .int .i32 r] w _ := fun r w h h' => Yg { L with } r w h h'
 have hemp : phB.toList.isEmpty = false := by rw [Lib.toList_data]; rfl
 have hn1 : ((phB.size : Int) == 1) = false := rfl
 have h8z : decide ((8 : Int) < (s.size : Int)) = false := decide_eq_false (by omega)
 have t3 := L.t3; have a3 := L.a3; have z3 := L.z3; have v3 := L.v3
 have t4 := L.t4; have a4 := L.a4; have z4 := L.z4; have v4 := L.v4
 have t5 := L.t5; have a5 := L.a5; have z5 := L.z5; have v5 := L.v5
 have t9 := L.t9; have a9 := L.a9; have z9 := L.z9; have v9 := L.v9
 have t21 := L.t21; have a21 := L.a21; have z21 := L.z21; have v21 := L.v21
 have e152 : ∀ args w, (callFunc (ρ.f 152) args).run P w = .ok (.enter (ρ.f 152) args) w := enters_of L.f152 (by kernel_rfl) rfl
 have e226 : ∀ args w, (callFunc (ρ.f 226) args).run P w = .ok (.enter (ρ.f 226) args) w := enters_of L.f226 (by kernel_rfl) rfl
 go_enter L.f153, Body.n153_ntmps ρ
 go_wp2_with (go_at_fn (ρ.f 226); refine (Any.strings_shouldUseASCIISet { L with } _ _).mono ?_; rintro e w' ⟨rfl, hw⟩; rw [hw, h8z])
 go_loopg [9, 10] s.size (fun g _ _ wx => ∃ pos : Nat, s.size ≤ pos + g ∧ ItAt w wx s pos ∧ S4 (s.data.toList.drop pos) = S4 s.data.toList)
 case atStart => exact ⟨0, by omega, Pt w s 0, by simp⟩
 case round =>
  obtain ⟨pos, hpg, hit, hph⟩ := hrel
  have HIT : Aside (ItAt w wr s pos) := hit
  have HPH : Aside (S4 (s.data.toList.drop pos) = S4 s.data.toList) := hph
  by_cases hp : pos < s.size
  ·obtain ⟨g, rfl⟩ : ∃ g, gk = g + 1 := ⟨gk - 1, by omega⟩
   have hnx := fun ty => X1 (P := P) hit hp ty
   have hne : s.data.toList.drop pos ≠ [] := by
    intro h
    have := congrArg List.length h
    simp at this
    omega
   have hst := Vl _ hne
   rw [Lib.decodeL_drop, hph, List.drop_drop] at hst
   have hwd : 1 ≤ (Utf8.decode s pos).2 := by rw [← Lib.decodeL_drop s pos]; exact Lib.decodeL_width _
   have hru := Yf s pos
   have HIT2 : Aside (ItAt w (Jg wr w.heap.size s (pos + (Utf8.decode s pos).2)) s (pos + (Utf8.decode s pos).2)) := hit.set _
   clear hit hph
   generalize hr : (Utf8.decode s pos).1 = r at hnx hst hru
   have HST : Aside (S4 s.data.toList = ((r == 43 || r == 35) || S4 (s.data.toList.drop (pos + (Utf8.decode s pos).2)))) := hst
   clear hst
   by_cases h128 : r < 128
   ·obtain ⟨z, hz, cz⟩ := cA r (Jg wr w.heap.size s (pos + (Utf8.decode s pos).2)) h128
    clear cA
    cases hin : (r == 43 || r == 35)
    ·rw [hin] at hz
     have hlt : ¬ ((0 : Int) ≤ z) := of_decide_eq_false hz
     clear hz
     go_wp2_with (go_at_fn (ρ.f 152); refine cz.mono ?_; rintro e w' ⟨rfl, hw⟩; rw [hw])
     go_roundg g
     case measure => omega
     case rel => exact ⟨_, by omega, HIT2.out, by rw [HST.out, hin, Bool.false_or]⟩
    ·rw [hin] at hz
     have hge : (0 : Int) ≤ z := of_decide_eq_true hz
     clear hz
     go_wp2_with (go_at_fn (ρ.f 152); refine cz.mono ?_; rintro e w' ⟨rfl, hw⟩; rw [hw])
     go_ret
     exact ⟨⟨_, rfl, by rw [HST.out, hin, Bool.true_or]; simp⟩, HIT2.out.1⟩
   ·have hin : (r == 43 || r == 35) = false := by simp; omega
    go_wp2_with (go_at_fn (ρ.f 152); refine (cR r _ (by omega) hru).mono ?_; rintro e w' ⟨rfl, hw⟩)
    go_roundg g
    case measure => omega
    case rel => exact ⟨_, by omega, HIT2.out.below hw, by rw [HST.out, hin, Bool.false_or]⟩
  ·have hnx := fun ty => Ve (P := P) hit hp ty
   have hnil : s.data.toList.drop pos = [] := by
    apply List.drop_of_length_le
    simp
    omega
   rw [hnil] at hph
   go_wp2
   go_ret
   exact ⟨⟨_, rfl, by rw [← hph]; rfl⟩, HIT.out.1⟩
theorem Uz (L : Lays.n153 P ρ) (hv116 : ∀ w, (zeroValue (ρ.t 116)).run P w = .ok (.agg (Array.replicate 256 (.bool false))) w) (hi116 : (P.info? (ρ.t 116)).map (·.size) = some 256) (s : ByteArray) (w : World) (hs : s.size < 4294967281) :
  Calls P (ρ.f 153) #[.string s, .string phB] w fun e w' => (∃ z : Int, e = .returned (.int .i64 z) ∧ decide (0 ≤ z) = S4 s.data.toList) ∧ Below w.heap.size w w' := by
 by_cases h8 : s.size ≤ 8
 ·exact Vr L s w h8
 ·refine (Any.strings_IndexAny_long L hv116 hi116 s phB w (by decide) (by omega) hs (by decide) ?_).mono fun e w' ⟨h1, h2⟩ => ⟨⟨_, h1, ?_⟩, ?_⟩
  ·intro j b hb
   have : phB.data.toList = [43, 35] := rfl
   rw [this] at hb
   match j, hb with
   | 0, hb => cases hb; decide
   | 1, hb => cases hb; decide
  ·have := Aad s
   rw [Rg, ← this]
   rfl
  ·rw [h2]
   exact ((Below.refl _ _).alloc (Nat.le_refl _) _).alloc (by simp) _
set_option maxHeartbeats 1000000 in
theorem Nf (L : Lays.n150 P ρ) (hv116 : ∀ w, (zeroValue (ρ.t 116)).run P w = .ok (.agg (Array.replicate 256 (.bool false))) w) (hi116 : (P.info? (ρ.t 116)).map (·.size) = some 256) (s : ByteArray) (w : World) (hs : s.size < 4294967281) :
  Calls P (ρ.f 150) #[.string s, .string phB] w fun e w' => e = .returned (.bool (vPH s)) ∧ Below w.heap.size w w' := by
 have c := Uz { L with } hv116 hi116 s w hs
 have t3 := L.t3; have a3 := L.a3; have z3 := L.z3; have v3 := L.v3
 have t4 := L.t4; have a4 := L.a4; have z4 := L.z4; have v4 := L.v4
 have t9 := L.t9; have a9 := L.a9; have z9 := L.z9; have v9 := L.v9
 have e153 : ∀ args w, (callFunc (ρ.f 153) args).run P w = .ok (.enter (ρ.f 153) args) w := enters_of L.f153 (by kernel_rfl) rfl
 go_enter L.f150, Body.n150_ntmps ρ
 go_wp2_with (go_at_fn (ρ.f 153); refine c.mono ?_; rintro e w' ⟨⟨z, rfl, hz⟩, hw⟩)
 go_ret
 refine ⟨?_, hw⟩
 rw [← Rg, ← hz]
 rfl
end
end Go.Proofs.YtjiahcekpohehaaGreatDoor.Abs
set_option linter.unusedVariables false
set_option linter.unusedSimpArgs false
namespace Go.Proofs
open Go.RowKit Go.Shelf Go.Lib
def Tryz.laysValid_ren : Go.Shelf.Ren := ⟨fun | 196 => 234 | 259 => 278 | n => n, fun | 9 => 9 | 4 => 4 | 3 => 3 | 5 => 5 | 12 => 12 | 119 => 285 | 0 => 0 | 46 => 247 | 139 => 288 | 138 => 287 | 53 => 314 | n => n, fun | 3 => 0 | 4 => 1 | n => n⟩
theorem Tryz.laysValid : Go.Proofs.Lays.n196 Tryz.prog Tryz.laysValid_ren := {
 mixed := by kernel_rfl
 f196 := Tryz.func234.trans (congrArg some (by kernel_rfl))
 f259 := Tryz.func278.trans (congrArg some (by kernel_rfl))
 t0 := Tryz.underlying0
 a0 := Tryz.isAgg0
 z0 := Tryz.sizeOf0
 v0 := Tryz.zeroValue0
 t3 := Tryz.underlying3
 a3 := Tryz.isAgg3
 z3 := Tryz.sizeOf3
 v3 := Tryz.zeroValue3
 t4 := Tryz.underlying4
 a4 := Tryz.isAgg4
 z4 := Tryz.sizeOf4
 v4 := Tryz.zeroValue4
 t5 := Tryz.underlying5
 a5 := Tryz.isAgg5
 z5 := Tryz.sizeOf5
 v5 := Tryz.zeroValue5
 t9 := Tryz.underlying9
 a9 := Tryz.isAgg9
 z9 := Tryz.sizeOf9
 v9 := Tryz.zeroValue9
 t12 := Tryz.underlying12
 a12 := Tryz.isAgg12
 z12 := Tryz.sizeOf12
 v12 := Tryz.zeroValue12
 t46 := Tryz.underlying247
 a46 := Tryz.isAgg247
 z46 := Tryz.sizeOf247
 v46 := Tryz.zeroValue247
 t53 := Tryz.underlying314
 a53 := Tryz.isAgg314
 z53 := Tryz.sizeOf314
 v53 := Tryz.zeroValue314
 t119 := Tryz.underlying285
 a119 := Tryz.isAgg285
 z119 := Tryz.sizeOf285
 t138 := Tryz.underlying287
 a138 := Tryz.isAgg287
 z138 := Tryz.sizeOf287
 v138 := Tryz.zeroValue287
 t139 := Tryz.underlying288
 a139 := Tryz.isAgg288
 z139 := Tryz.sizeOf288
 v139 := Tryz.zeroValue288
 g3 := by kernel_rfl
 g4 := by kernel_rfl }
def Tryz.laysAny_ren : Go.Shelf.Ren := ⟨fun | 150 => 267 | 153 => 299 | 152 => 319 | 226 => 320 | 227 => 321 | 228 => 322 | 137 => 341 | 119 => 342 | 224 => 343 | 225 => 344 | 217 => 359 | 266 => 368 | n => n, fun | 9 => 9 | 4 => 4 | 3 => 3 | 5 => 5 | 21 => 21 | 117 => 329 | 116 => 328 | 0 => 0 | 46 => 247 | 124 => 351 | n => n, fun | n => n⟩
theorem Tryz.laysAny : Go.Proofs.Lays.n150 Tryz.prog Tryz.laysAny_ren := {
 mixed := by kernel_rfl
 f119 := Tryz.func342.trans (congrArg some (by kernel_rfl))
 f137 := Tryz.func341.trans (congrArg some (by kernel_rfl))
 f150 := Tryz.func267.trans (congrArg some (by kernel_rfl))
 f152 := Tryz.func319.trans (congrArg some (by kernel_rfl))
 f153 := Tryz.func299.trans (congrArg some (by kernel_rfl))
 f217 := Tryz.func359.trans (congrArg some (by kernel_rfl))
 f224 := Tryz.func343.trans (congrArg some (by kernel_rfl))
 f225 := Tryz.func344.trans (congrArg some (by kernel_rfl))
 f226 := Tryz.func320.trans (congrArg some (by kernel_rfl))
 f227 := Tryz.func321.trans (congrArg some (by kernel_rfl))
 f228 := Tryz.func322.trans (congrArg some (by kernel_rfl))
 f266 := Tryz.func368.trans (congrArg some (by kernel_rfl))
 t0 := Tryz.underlying0
 a0 := Tryz.isAgg0
 z0 := Tryz.sizeOf0
 v0 := Tryz.zeroValue0
 t3 := Tryz.underlying3
 a3 := Tryz.isAgg3
 z3 := Tryz.sizeOf3
 v3 := Tryz.zeroValue3
 t4 := Tryz.underlying4
 a4 := Tryz.isAgg4
 z4 := Tryz.sizeOf4
 v4 := Tryz.zeroValue4
 t5 := Tryz.underlying5
 a5 := Tryz.isAgg5
 z5 := Tryz.sizeOf5
 v5 := Tryz.zeroValue5
 t9 := Tryz.underlying9
 a9 := Tryz.isAgg9
 z9 := Tryz.sizeOf9
 v9 := Tryz.zeroValue9
 t21 := Tryz.underlying21
 a21 := Tryz.isAgg21
 z21 := Tryz.sizeOf21
 v21 := Tryz.zeroValue21
 t46 := Tryz.underlying247
 a46 := Tryz.isAgg247
 z46 := Tryz.sizeOf247
 v46 := Tryz.zeroValue247
 t116 := Tryz.underlying328
 a116 := Tryz.isAgg328
 z116 := Tryz.sizeOf328
 t117 := Tryz.underlying329
 a117 := Tryz.isAgg329
 z117 := Tryz.sizeOf329
 v117 := Tryz.zeroValue329
 t124 := Tryz.underlying351
 a124 := Tryz.isAgg351
 z124 := Tryz.sizeOf351
 v124 := Tryz.zeroValue351 }
def Tryz.laysSplit_ren : Go.Shelf.Ren := ⟨fun | 146 => 300 | 221 => 323 | 268 => 345 | 138 => 346 | 143 => 347 | 195 => 360 | 197 => 361 | 218 => 362 | 219 => 363 | 260 => 369 | 217 => 359 | 225 => 344 | 224 => 343 | 267 => 370 | 266 => 368 | 314 => 373 | n => n, fun | 9 => 9 | 31 => 33 | 3 => 3 | 4 => 4 | 0 => 0 | 105 => 365 | 21 => 21 | 5 => 5 | 46 => 247 | 119 => 285 | 139 => 288 | 138 => 287 | 146 => 372 | 51 => 371 | n => n, fun | 1 => 2 | 3 => 0 | 4 => 1 | n => n⟩
theorem Tryz.laysSplit : Go.Proofs.Lays.n146 Tryz.prog Tryz.laysSplit_ren := {
 mixed := by kernel_rfl
 f138 := Tryz.func346.trans (congrArg some (by kernel_rfl))
 f143 := Tryz.func347.trans (congrArg some (by kernel_rfl))
 f146 := Tryz.func300.trans (congrArg some (by kernel_rfl))
 f195 := Tryz.func360.trans (congrArg some (by kernel_rfl))
 f197 := Tryz.func361.trans (congrArg some (by kernel_rfl))
 f217 := Tryz.func359.trans (congrArg some (by kernel_rfl))
 f218 := Tryz.func362.trans (congrArg some (by kernel_rfl))
 f219 := Tryz.func363.trans (congrArg some (by kernel_rfl))
 f221 := Tryz.func323.trans (congrArg some (by kernel_rfl))
 f224 := Tryz.func343.trans (congrArg some (by kernel_rfl))
 f225 := Tryz.func344.trans (congrArg some (by kernel_rfl))
 f260 := Tryz.func369.trans (congrArg some (by kernel_rfl))
 f266 := Tryz.func368.trans (congrArg some (by kernel_rfl))
 f267 := Tryz.func370.trans (congrArg some (by kernel_rfl))
 f268 := Tryz.func345.trans (congrArg some (by kernel_rfl))
 f314 := Tryz.func373.trans (congrArg some (by kernel_rfl))
 t0 := Tryz.underlying0
 a0 := Tryz.isAgg0
 z0 := Tryz.sizeOf0
 v0 := Tryz.zeroValue0
 t3 := Tryz.underlying3
 a3 := Tryz.isAgg3
 z3 := Tryz.sizeOf3
 v3 := Tryz.zeroValue3
 t4 := Tryz.underlying4
 a4 := Tryz.isAgg4
 z4 := Tryz.sizeOf4
 v4 := Tryz.zeroValue4
 t5 := Tryz.underlying5
 a5 := Tryz.isAgg5
 z5 := Tryz.sizeOf5
 v5 := Tryz.zeroValue5
 t9 := Tryz.underlying9
 a9 := Tryz.isAgg9
 z9 := Tryz.sizeOf9
 v9 := Tryz.zeroValue9
 t21 := Tryz.underlying21
 a21 := Tryz.isAgg21
 z21 := Tryz.sizeOf21
 v21 := Tryz.zeroValue21
 t31 := Tryz.underlying33
 a31 := Tryz.isAgg33
 z31 := Tryz.sizeOf33
 v31 := Tryz.zeroValue33
 t46 := Tryz.underlying247
 a46 := Tryz.isAgg247
 z46 := Tryz.sizeOf247
 v46 := Tryz.zeroValue247
 t51 := Tryz.underlying371
 a51 := Tryz.isAgg371
 z51 := Tryz.sizeOf371
 v51 := Tryz.zeroValue371
 t105 := Tryz.underlying365
 a105 := Tryz.isAgg365
 z105 := Tryz.sizeOf365
 v105 := Tryz.zeroValue365
 t119 := Tryz.underlying285
 a119 := Tryz.isAgg285
 z119 := Tryz.sizeOf285
 t138 := Tryz.underlying287
 a138 := Tryz.isAgg287
 z138 := Tryz.sizeOf287
 v138 := Tryz.zeroValue287
 t139 := Tryz.underlying288
 a139 := Tryz.isAgg288
 z139 := Tryz.sizeOf288
 v139 := Tryz.zeroValue288
 t146 := Tryz.underlying372
 a146 := Tryz.isAgg372
 z146 := Tryz.sizeOf372
 v146 := Tryz.zeroValue372
 g1 := by kernel_rfl
 g3 := by kernel_rfl
 g4 := by kernel_rfl }
namespace YtjiahcekpohehaaGreatDoor.Abs
def V7 : Nat → List UInt8 → Bool
 | 0, _ => true
 | n + 1, l => if l = [] then true else if (Lib.decodeL l).1 = 0 then false else V7 n (l.drop (Lib.decodeL l).2)
def L4 (s : ByteArray) : Bool := V7 s.size s.data.toList && (Lib.validD s.data.toList && decide (s.size ≤ 60))
def JT (w : World) : Prop := Lib.Utf8Tabs (Tryz.laysValid_ren.g 3) (Tryz.laysValid_ren.g 4) w
def J0 (w : World) : Prop := JT w ∧ ∃ m, w.cell? ⟨Tryz.laysSplit_ren.g 1, 0, none⟩ = some (.int .i64 m)
theorem U2 : ∀ w w' : World, JT w → Below w.heap.size w w' → JT w' := fun _ _ h hb => Utf8Tabs_below h hb
theorem U1 : ∀ w w' : World, J0 w → Below w.heap.size w w' → J0 w' := fun w w' h hb => ⟨U2 w w' h.1 hb, by
 obtain ⟨m, hm⟩ := h.2
 have hlt := World.block_lt_of_cell? _ _ hm
 refine ⟨m, ?_⟩
 rw [← hm]
 simp only [World.cell?]
 rw [hb.block _ hlt]⟩
set_option maxHeartbeats 1000000 in
set_option maxRecDepth 1000000 in
theorem S9 (s : ByteArray) (w : World) (hs : s.size ≤ 9223372036854775807) (hT : JT w) :
  Calls Tryz.prog 147 #[.string s] w fun e w' => e = .returned (.bool (L4 s)) ∧ Below w.heap.size w w' := by
 have cV : ∀ w, JT w → Calls Tryz.prog 234 #[.string s] w _ := fun w hT => Any.utf8_ValidString Tryz.laysValid s w hs hT
 unfold L4
 generalize hV : Lib.validD s.data.toList = V at cV ⊢
 have bel : ∀ pos, Below w.heap.size w (w.iter s pos) := fun pos => (Below.refl _ w).alloc (Nat.le_refl _) _
 go_enter Tryz.func147, Tryz.ntmps147
 go_wp2
 go_loopw [] (fun w' => ∃ (pos b : Nat), w' = w.iter s pos ∧ V7 b (s.data.toList.drop pos) = V7 s.size s.data.toList ∧ s.size ≤ pos + b) (fun w' => s.size - w'.iterPos w.heap.size)
 case atStart => exact ⟨0, s.size, rfl, by simp, by omega⟩
 case round =>
  obtain ⟨pos, b, rfl, hc, hb⟩ := hrel
  by_cases hp : pos < s.size
  ·have hnx : ∀ ty, (Instr.next (.pointer (some ⟨w.heap.size, 0, none⟩)) true ty).run Tryz.prog (w.iter s pos) = _ := fun ty => run_next_any w s pos ty hp
   have hdd := Lib.decodeL_drop s pos
   have hwd : 1 ≤ (Utf8.decode s pos).2 := by rw [← hdd]; exact Lib.decodeL_width _
   obtain ⟨b, rfl⟩ : ∃ b', b = b' + 1 := ⟨b - 1, by omega⟩
   have hne : s.data.toList.drop pos ≠ [] := by
    intro h
    have := congrArg List.length h
    simp at this
    omega
   rw [V7, if_neg hne, hdd] at hc
   by_cases hz : (Utf8.decode s pos).1 = 0
   ·rw [if_pos hz] at hc
    have hz' : (((Utf8.decode s pos).1 : Int) == 0) = true := by simp [hz]
    go_wp2
    go_ret
    rw [← hc]
    exact ⟨by simp, bel _⟩
   ·rw [if_neg hz, List.drop_drop] at hc
    have hz' : (((Utf8.decode s pos).1 : Int) == 0) = false := by simp; omega
    go_wp2
    go_roundw
    case rel => exact ⟨pos + (Utf8.decode s pos).2, b, rfl, hc, by omega⟩
    case measure =>
     simp
     omega
  ·have hnx : ∀ ty, (Instr.next (.pointer (some ⟨w.heap.size, 0, none⟩)) true ty).run Tryz.prog (w.iter s pos) = _ := fun ty => run_next_end w s pos ty hp
   have hnil : s.data.toList.drop pos = [] := by
    apply List.drop_of_length_le
    simp
    omega
   have hc2 : V7 s.size s.data.toList = true := by
    rw [← hc, hnil]
    cases b <;> simp [V7]
   rw [hc2]
   have cV2 := cV (w.iter s pos) (Utf8Tabs_below hT (bel pos))
   go_wp2_with (go_at_call 234; refine cV2.mono ?_; rintro e w' ⟨rfl, hb2⟩)
   all_goals
    go_ret
    refine ⟨?_, (bel pos).trans (hb2.mono (bel pos).size)⟩
   ·simp_all
    omega
   ·simp_all
theorem Ls : ∀ (n : Nat) (l : List UInt8), Mr n l = (V7 n l && Lib.validGoD n l)
 | 0, _ => rfl
 | n + 1, l => by
  rw [Mr, V7, Lib.validGoD, Ls n]
  by_cases h : l = []
  ·simp [h]
  ·by_cases h1 : (Lib.decodeL l).1 = 65533 ∧ (Lib.decodeL l).2 = 1
   ·simp [h, h1]
   ·by_cases h2 : (Lib.decodeL l).1 = 0
    ·simp [h, h2]
    ·simp [h, h1, h2]
theorem To (s : ByteArray) : L4 s = Ms s := by
 have e : s.data.toList.length = s.size := by simp
 unfold L4 Ms Lib.validD
 rw [Ls, e]
 cases V7 s.size s.data.toList <;> cases Lib.validGoD s.size s.data.toList <;> simp
theorem AaS {c : ByteArray} (h : c.data.toList = [43, 35]) : c = phB := by
 cases c with
 | mk d =>
  have : d = #[43, 35] := by apply Array.ext'; simpa using h
  subst this
  rfl
theorem Aav {c : ByteArray} (h : c.data.toList = [47]) : c = K0 := by
 cases c with
 | mk d =>
  have : d = #[47] := by apply Array.ext'; simpa using h
  subst this
  rfl
theorem Vp : (Tryz.prog.info? (Tryz.laysAny_ren.t 116)).map (fun i => (i.zero, i.size)) = some (some (.agg (Array.replicate 256 (.bool false))), 256) := by kernel_rfl
theorem hi9 : (Tryz.prog.info? (Tryz.laysSplit_ren.t 9)).map (fun i => (i.zero, i.size, i.bytes)) = some (some (.string ByteArray.empty), 1, 16) := by kernel_rfl
theorem Xn {w w' : World} (hb : Below w.heap.size w w') : HR w Bq w' [] := by
 refine ⟨hb, ?_, ?_, ?_, ?_⟩
 ·intro i k b o sz hi
  cases hi
 ·intro i k hi
  cases hi
 ·intro i i' k k' b o sz o' sz' hi
  cases hi
 ·intro i p hp
  cases hp
theorem Qm {w w' : World} (hb : Below w.heap.size w w') (ty : Nat) (v : Value) : ∃ φ' Hc x ids, HR w φ' w' Hc ∧ VR w φ' x v ∧ A0 E0.ti E0.tp Hc 8 ty x = some (.sc v, ids) ∧ ids.Nodup :=
 ⟨Bq, [], .sc v, [], Xn hb, Bm _ _ _, rfl, List.nodup_nil⟩
theorem N4 {ti : Nat → Option TI} {tp : Nat → Option (List Nat)} {H : Aa} {d : Nat} : ∀ (ts : List Nat) (l : List Value), ts.length = l.length → Bb (A0 ti tp H (d + 1)) ts (l.map AV.sc) = some (l.map AV.sc, [])
 | [], [], _ => rfl
 | t :: ts, v :: l, h => by
  have ih := N4 (ti := ti) (tp := tp) (H := H) (d := d) ts l (by simpa using h)
  simp only [List.map_cons, Bb, ih, Option.bind_some]
  rfl
theorem Ya {ti : Nat → Option TI} {tp : Nat → Option (List Nat)} {H : Aa} {d ty id off n z : Nat} : A0 ti tp H (d + 1) ty (.sl id off n z) = (ti ty).bind fun i => (ti i.elem).bind fun j => if z = j.size then (if Gz H id then (Ae H id off (n * z)).bind fun cs => (Bb (A0 ti tp H d) (List.replicate n j.cty).flatten cs).bind fun q => some (.ro n q.1, id :: q.2) else none) else none := rfl
theorem Tx (w : World) (l : List ByteArray) (e : TypeId) : ∃ φ' Hc x ids, HR w φ' (w.alloc (.cells (l.map Value.string).toArray e)) Hc ∧ VR w φ' x (.slice (some ⟨w.heap.size, 0, none⟩) l.length l.length) ∧
  A0 E0.ti E0.tp Hc 8 33 x = some (.ro l.length (l.map fun s => .sc (.string s)), ids) ∧ ids.Nodup := by
 have hcs : VRs w Bq ((l.map Value.string).map AV.sc) (fun j => (l.map Value.string).toArray[0 + j]?) := by
  rw [Aj]
  intro j x hj
  rw [List.getElem?_map] at hj
  obtain ⟨v, hv, rfl⟩ := Option.map_eq_some_iff.1 hj
  exact ⟨v, by simpa using hv, Bm _ _ _⟩
 obtain ⟨h1, h2⟩ := (HR.start w).alloc (Bf w (.cells (l.map Value.string).toArray e)) (b := w.heap.size) (o := 0) (k := ⟨(l.map Value.string).map AV.sc, true, true⟩) (Nat.le_refl _) (Ey w _) (by simp) (fun _ => rfl) (.inl rfl) hcs
 refine ⟨_, _, .sl 0 0 l.length 1, [0], h1, ?_, ?_, by simp⟩
 ·rw [VR]
  refine .inr ⟨w.heap.size, 0, _, A9 _ _ _, .inr ⟨l.length, Nat.le_refl _, rfl, ?_⟩⟩
  simp
 ·rw [Ya]
  have hr : Ae ([] ++ [⟨(l.map Value.string).map AV.sc, true, true⟩]) 0 0 (l.length * 1) = some ((l.map Value.string).map AV.sc) := by
   simp [Ae, List.take_of_length_le]
  have e1 : E0.ti 33 = Ad 33 := rfl
  obtain ⟨i, j, hi, hj, hz, hc⟩ : ∃ i j, Ad 33 = some i ∧ Ad i.elem = some j ∧ j.size = 1 ∧ j.cty = [i.elem] := ⟨_, _, rfl, rfl, rfl, rfl⟩
  simp only [e1, hi, Option.bind_some, show E0.ti i.elem = some j from hj, hz, if_true, hr, hc]
  have ho := N4 (ti := E0.ti) (tp := E0.tp) (H := [] ++ [⟨(l.map Value.string).map AV.sc, true, true⟩]) (d := 6) (List.replicate l.length [i.elem]).flatten (l.map Value.string) (by simp)
  rw [ho]
  have ha : Gz ([] ++ [(⟨(l.map Value.string).map AV.sc, true, true⟩ : C3)]) 0 = true := rfl
  rw [if_pos ha]
  simp [List.map_map]
theorem Ti (s : ByteArray) (w : World) (hs : s.size < 4294967281) : Calls Tryz.prog 267 #[.string s, .string phB] w fun e w' => e = .returned (.bool (vPH s)) ∧ Below w.heap.size w w' :=
 Nf Tryz.laysAny (zero_of_info Vp).1 (zero_of_info Vp).2 s w hs
theorem Qa (s : ByteArray) (w : World) (hs : s.size < 4294967281) (hm : ∃ m, w.cell? ⟨Tryz.laysSplit_ren.g 1, 0, none⟩ = some (.int .i64 m)) : Calls Tryz.prog 300 #[.string s, .string K0] w fun e w' =>
  e = .returned (.slice (some ⟨w.heap.size, 0, none⟩) (Ds s).length (Ds s).length) ∧ w' = w.alloc (.cells ((Ds s).map Value.string).toArray (Tryz.laysSplit_ren.t 9)) := by
 obtain ⟨m, hm⟩ := hm
 have h := Any.strings_Split Tryz.laysSplit hi9 s K0 m w hs hm (Nat.le_refl _)
 rw [Ij, ← Pw] at h
 exact h
theorem X8 {w : World} {x : Value} {us : List Value} (hl : us.length = 1) (hv : VRs w Bq [.sc x] (fun j => us[j]?)) : us = [x] := by
 match us, hl with
 | [y], _ =>
  rw [VRs] at hv
  obtain ⟨⟨u, hu, hv⟩, _⟩ := hv
  rw [VR] at hv
  simp at hu
  rw [hu, hv]
theorem Og {w : World} {x y : Value} {us : List Value} (hl : us.length = 2) (hv : VRs w Bq [.sc x, .sc y] (fun j => us[j]?)) : us = [x, y] := by
 match us, hl with
 | [a, b], _ =>
  rw [VRs, VRs] at hv
  obtain ⟨⟨u, hu, hv⟩, ⟨u2, hu2, hv2⟩, _⟩ := hv
  rw [VR] at hv hv2
  simp at hu hu2
  rw [hu, hv, hu2, hv2]
theorem Ab0 : Yq Tryz.prog E0 J0 := by
 intro f g hg w hj ty vs us t hl hv ht
 have hf : E0.ext f = if Nat.beq f 147 then some O1 else if Nat.beq f 267 then some O2 else if Nat.beq f 300 then some O3 else none := rfl
 rw [hf] at hg
 split at hg
 ·rename_i hfe
  obtain rfl := Nat.eq_of_beq_eq_true hfe
  cases hg
  unfold O1 at ht
  split at ht
  case h_2 => cases ht
  rename_i s
  split at ht
  case isFalse => cases ht
  rename_i hs
  cases ht
  have hm : maxLen = 9223372036854775807 := by decide
  rw [hm] at hs
  obtain rfl := X8 hl hv
  refine .inr ⟨enters_of Tryz.func147 (by kernel_rfl) rfl _ _, (S9 s w hs hj.1).mono fun e w' ⟨he, hb⟩ => ⟨_, he, ?_⟩⟩
  rw [To]
  exact Qm hb _ _
 split at hg
 ·rename_i hfe
  obtain rfl := Nat.eq_of_beq_eq_true hfe
  cases hg
  unfold O2 at ht
  split at ht
  case h_2 => cases ht
  rename_i s c
  split at ht
  case isFalse => cases ht
  rename_i hs
  cases ht
  obtain rfl := Og hl hv
  obtain ⟨hc, hs⟩ := hs
  obtain rfl := AaS hc
  exact .inr ⟨enters_of Tryz.func267 (by kernel_rfl) rfl _ _, (Ti s w hs).mono fun e w' ⟨he, hb⟩ => ⟨_, he, Qm hb _ _⟩⟩
 split at hg
 ·rename_i hfe
  obtain rfl := Nat.eq_of_beq_eq_true hfe
  cases hg
  unfold O3 at ht
  split at ht
  case h_2 => cases ht
  rename_i s c
  split at ht
  case isFalse => cases ht
  rename_i hs
  cases ht
  obtain rfl := Og hl hv
  obtain ⟨rfl, hc, hs⟩ := hs
  obtain rfl := Aav hc
  exact .inr ⟨enters_of Tryz.func300 (by kernel_rfl) rfl _ _, (Qa s w hs hj.2).mono fun e w' ⟨he, hw⟩ => ⟨_, he, by subst hw; exact Tx w (Ds s) _⟩⟩
 ·cases hg
end YtjiahcekpohehaaGreatDoor.Abs
end Go.Proofs
namespace Go.Proofs.YtjiahcekpohehaaGreatDoor.Abs
section
open Go
theorem AaV : Vt Tryz.prog 0 tis = true := by kernel_rfl
theorem Aa4 : Ut E0 fss = true := by kernel_rfl
theorem Vu : C1 Tryz.prog Ad := by
 intro t i h
 unfold Ad at h
 cases hl : tis[t]? with
 | none => rw [hl] at h; cases h
 | some o =>
  rw [hl] at h
  simp only [Option.getD_some] at h
  subst h
  simpa using (Mq tis 0 t i AaV hl).1
theorem Aa3 : ∀ t i, Ad t = some i → i.ik = some .u8 → i.size = 1 := by
 intro t i h
 unfold Ad at h
 cases hl : tis[t]? with
 | none => rw [hl] at h; cases h
 | some o =>
  rw [hl] at h
  simp only [Option.getD_some] at h
  subst h
  exact (Mq tis 0 t i AaV hl).2
def FnQ (n : Nat) (c : Code) (t : Nat) (f : Func) : Prop := ∃ fn, Tryz.prog.funcs[n]? = some fn ∧ (fn.name == "runtime.NumGoroutine") = false ∧ fn.body = some c ∧ fn.ntmps = t ∧ fn.results.toList = f.results.toList
theorem E4 {c : Code} {t : Nat} {f : Func} {o : List (Nat × PI)} {i : C9} {n : Nat} (e : some (some (⟨c, t, f.results.toList, o⟩ : C9)) = some (some i)) (h : FnQ n c t f) : ∃ fn, Tryz.prog.funcs[n]? = some fn ∧ (fn.name == "runtime.NumGoroutine") = false ∧ fn.body = some i.body ∧ fn.ntmps = i.ntmps ∧ fn.results.toList = i.results := by cases e; exact h
theorem AaG : ∀ (f : Nat) (i : C9), f < 281 → fss[f]? = some (some i) → ∃ fn, Tryz.prog.funcs[f]? = some fn ∧ (fn.name == "runtime.NumGoroutine") = false ∧ fn.body = some i.body ∧ fn.ntmps = i.ntmps ∧ fn.results.toList = i.results
 | 0, i, _, h => nomatch Option.some.inj h
 | 1, i, _, h => nomatch Option.some.inj h
 | 2, i, _, h => nomatch Option.some.inj h
 | 3, i, _, h => nomatch Option.some.inj h
 | 4, i, _, h => nomatch Option.some.inj h
 | 5, i, _, h => nomatch Option.some.inj h
 | 6, i, _, h => nomatch Option.some.inj h
 | 7, i, _, h => E4 (f := Tryz.f7) h ⟨_, Tryz.func7, by kernel_rfl, by kernel_rfl, rfl, rfl⟩
 | 8, i, _, h => nomatch Option.some.inj h
 | 9, i, _, h => nomatch Option.some.inj h
 | 10, i, _, h => nomatch Option.some.inj h
 | 11, i, _, h => nomatch Option.some.inj h
 | 12, i, _, h => nomatch Option.some.inj h
 | 13, i, _, h => nomatch Option.some.inj h
 | 14, i, _, h => nomatch Option.some.inj h
 | 15, i, _, h => nomatch Option.some.inj h
 | 16, i, _, h => nomatch Option.some.inj h
 | 17, i, _, h => E4 (f := Tryz.f17) h ⟨_, Tryz.func17, by kernel_rfl, by kernel_rfl, rfl, rfl⟩
 | 18, i, _, h => nomatch Option.some.inj h
 | 19, i, _, h => nomatch Option.some.inj h
 | 20, i, _, h => nomatch Option.some.inj h
 | 21, i, _, h => nomatch Option.some.inj h
 | 22, i, _, h => nomatch Option.some.inj h
 | 23, i, _, h => nomatch Option.some.inj h
 | 24, i, _, h => nomatch Option.some.inj h
 | 25, i, _, h => nomatch Option.some.inj h
 | 26, i, _, h => nomatch Option.some.inj h
 | 27, i, _, h => nomatch Option.some.inj h
 | 28, i, _, h => nomatch Option.some.inj h
 | 29, i, _, h => nomatch Option.some.inj h
 | 30, i, _, h => nomatch Option.some.inj h
 | 31, i, _, h => nomatch Option.some.inj h
 | 32, i, _, h => nomatch Option.some.inj h
 | 33, i, _, h => nomatch Option.some.inj h
 | 34, i, _, h => nomatch Option.some.inj h
 | 35, i, _, h => nomatch Option.some.inj h
 | 36, i, _, h => nomatch Option.some.inj h
 | 37, i, _, h => nomatch Option.some.inj h
 | 38, i, _, h => E4 (f := Tryz.f38) h ⟨_, Tryz.func38, by kernel_rfl, by kernel_rfl, rfl, rfl⟩
 | 39, i, _, h => E4 (f := Tryz.f39) h ⟨_, Tryz.func39, by kernel_rfl, by kernel_rfl, rfl, rfl⟩
 | 40, i, _, h => E4 (f := Tryz.f40) h ⟨_, Tryz.func40, by kernel_rfl, by kernel_rfl, rfl, rfl⟩
 | 41, i, _, h => nomatch Option.some.inj h
 | 42, i, _, h => nomatch Option.some.inj h
 | 43, i, _, h => nomatch Option.some.inj h
 | 44, i, _, h => nomatch Option.some.inj h
 | 45, i, _, h => nomatch Option.some.inj h
 | 46, i, _, h => E4 (f := Tryz.f46) h ⟨_, Tryz.func46, by kernel_rfl, by kernel_rfl, rfl, rfl⟩
 | 47, i, _, h => E4 (f := Tryz.f47) h ⟨_, Tryz.func47, by kernel_rfl, by kernel_rfl, rfl, rfl⟩
 | 48, i, _, h => E4 (f := Tryz.f48) h ⟨_, Tryz.func48, by kernel_rfl, by kernel_rfl, rfl, rfl⟩
 | 49, i, _, h => E4 (f := Tryz.f49) h ⟨_, Tryz.func49, by kernel_rfl, by kernel_rfl, rfl, rfl⟩
 | 50, i, _, h => E4 (f := Tryz.f50) h ⟨_, Tryz.func50, by kernel_rfl, by kernel_rfl, rfl, rfl⟩
 | 51, i, _, h => nomatch Option.some.inj h
 | 52, i, _, h => nomatch Option.some.inj h
 | 53, i, _, h => nomatch Option.some.inj h
 | 54, i, _, h => nomatch Option.some.inj h
 | 55, i, _, h => nomatch Option.some.inj h
 | 56, i, _, h => nomatch Option.some.inj h
 | 57, i, _, h => nomatch Option.some.inj h
 | 58, i, _, h => nomatch Option.some.inj h
 | 59, i, _, h => nomatch Option.some.inj h
 | 60, i, _, h => nomatch Option.some.inj h
 | 61, i, _, h => nomatch Option.some.inj h
 | 62, i, _, h => E4 (f := Tryz.f62) h ⟨_, Tryz.func62, by kernel_rfl, by kernel_rfl, rfl, rfl⟩
 | 63, i, _, h => nomatch Option.some.inj h
 | 64, i, _, h => nomatch Option.some.inj h
 | 65, i, _, h => nomatch Option.some.inj h
 | 66, i, _, h => nomatch Option.some.inj h
 | 67, i, _, h => nomatch Option.some.inj h
 | 68, i, _, h => nomatch Option.some.inj h
 | 69, i, _, h => nomatch Option.some.inj h
 | 70, i, _, h => nomatch Option.some.inj h
 | 71, i, _, h => nomatch Option.some.inj h
 | 72, i, _, h => nomatch Option.some.inj h
 | 73, i, _, h => nomatch Option.some.inj h
 | 74, i, _, h => nomatch Option.some.inj h
 | 75, i, _, h => nomatch Option.some.inj h
 | 76, i, _, h => nomatch Option.some.inj h
 | 77, i, _, h => nomatch Option.some.inj h
 | 78, i, _, h => nomatch Option.some.inj h
 | 79, i, _, h => nomatch Option.some.inj h
 | 80, i, _, h => nomatch Option.some.inj h
 | 81, i, _, h => nomatch Option.some.inj h
 | 82, i, _, h => nomatch Option.some.inj h
 | 83, i, _, h => nomatch Option.some.inj h
 | 84, i, _, h => nomatch Option.some.inj h
 | 85, i, _, h => nomatch Option.some.inj h
 | 86, i, _, h => nomatch Option.some.inj h
 | 87, i, _, h => nomatch Option.some.inj h
 | 88, i, _, h => nomatch Option.some.inj h
 | 89, i, _, h => nomatch Option.some.inj h
 | 90, i, _, h => nomatch Option.some.inj h
 | 91, i, _, h => nomatch Option.some.inj h
 | 92, i, _, h => nomatch Option.some.inj h
 | 93, i, _, h => nomatch Option.some.inj h
 | 94, i, _, h => nomatch Option.some.inj h
 | 95, i, _, h => E4 (f := Tryz.f95) h ⟨_, Tryz.func95, by kernel_rfl, by kernel_rfl, rfl, rfl⟩
 | 96, i, _, h => E4 (f := Tryz.f96) h ⟨_, Tryz.func96, by kernel_rfl, by kernel_rfl, rfl, rfl⟩
 | 97, i, _, h => E4 (f := Tryz.f97) h ⟨_, Tryz.func97, by kernel_rfl, by kernel_rfl, rfl, rfl⟩
 | 98, i, _, h => nomatch Option.some.inj h
 | 99, i, _, h => nomatch Option.some.inj h
 | 100, i, _, h => E4 (f := Tryz.f100) h ⟨_, Tryz.func100, by kernel_rfl, by kernel_rfl, rfl, rfl⟩
 | 101, i, _, h => E4 (f := Tryz.f101) h ⟨_, Tryz.func101, by kernel_rfl, by kernel_rfl, rfl, rfl⟩
 | 102, i, _, h => E4 (f := Tryz.f102) h ⟨_, Tryz.func102, by kernel_rfl, by kernel_rfl, rfl, rfl⟩
 | 103, i, _, h => nomatch Option.some.inj h
 | 104, i, _, h => nomatch Option.some.inj h
 | 105, i, _, h => E4 (f := Tryz.f105) h ⟨_, Tryz.func105, by kernel_rfl, by kernel_rfl, rfl, rfl⟩
 | 106, i, _, h => E4 (f := Tryz.f106) h ⟨_, Tryz.func106, by kernel_rfl, by kernel_rfl, rfl, rfl⟩
 | 107, i, _, h => E4 (f := Tryz.f107) h ⟨_, Tryz.func107, by kernel_rfl, by kernel_rfl, rfl, rfl⟩
 | 108, i, _, h => nomatch Option.some.inj h
 | 109, i, _, h => nomatch Option.some.inj h
 | 110, i, _, h => nomatch Option.some.inj h
 | 111, i, _, h => nomatch Option.some.inj h
 | 112, i, _, h => nomatch Option.some.inj h
 | 113, i, _, h => nomatch Option.some.inj h
 | 114, i, _, h => nomatch Option.some.inj h
 | 115, i, _, h => nomatch Option.some.inj h
 | 116, i, _, h => nomatch Option.some.inj h
 | 117, i, _, h => nomatch Option.some.inj h
 | 118, i, _, h => nomatch Option.some.inj h
 | 119, i, _, h => nomatch Option.some.inj h
 | 120, i, _, h => nomatch Option.some.inj h
 | 121, i, _, h => nomatch Option.some.inj h
 | 122, i, _, h => nomatch Option.some.inj h
 | 123, i, _, h => nomatch Option.some.inj h
 | 124, i, _, h => nomatch Option.some.inj h
 | 125, i, _, h => nomatch Option.some.inj h
 | 126, i, _, h => nomatch Option.some.inj h
 | 127, i, _, h => nomatch Option.some.inj h
 | 128, i, _, h => nomatch Option.some.inj h
 | 129, i, _, h => nomatch Option.some.inj h
 | 130, i, _, h => nomatch Option.some.inj h
 | 131, i, _, h => nomatch Option.some.inj h
 | 132, i, _, h => nomatch Option.some.inj h
 | 133, i, _, h => nomatch Option.some.inj h
 | 134, i, _, h => nomatch Option.some.inj h
 | 135, i, _, h => nomatch Option.some.inj h
 | 136, i, _, h => nomatch Option.some.inj h
 | 137, i, _, h => nomatch Option.some.inj h
 | 138, i, _, h => nomatch Option.some.inj h
 | 139, i, _, h => nomatch Option.some.inj h
 | 140, i, _, h => nomatch Option.some.inj h
 | 141, i, _, h => nomatch Option.some.inj h
 | 142, i, _, h => E4 (f := Tryz.f142) h ⟨_, Tryz.func142, by kernel_rfl, by kernel_rfl, rfl, rfl⟩
 | 143, i, _, h => nomatch Option.some.inj h
 | 144, i, _, h => nomatch Option.some.inj h
 | 145, i, _, h => nomatch Option.some.inj h
 | 146, i, _, h => nomatch Option.some.inj h
 | 147, i, _, h => nomatch Option.some.inj h
 | 148, i, _, h => nomatch Option.some.inj h
 | 149, i, _, h => nomatch Option.some.inj h
 | 150, i, _, h => nomatch Option.some.inj h
 | 151, i, _, h => nomatch Option.some.inj h
 | 152, i, _, h => nomatch Option.some.inj h
 | 153, i, _, h => nomatch Option.some.inj h
 | 154, i, _, h => E4 (f := Tryz.f154) h ⟨_, Tryz.func154, by kernel_rfl, by kernel_rfl, rfl, rfl⟩
 | 155, i, _, h => E4 (f := Tryz.f155) h ⟨_, Tryz.func155, by kernel_rfl, by kernel_rfl, rfl, rfl⟩
 | 156, i, _, h => E4 (f := Tryz.f156) h ⟨_, Tryz.func156, by kernel_rfl, by kernel_rfl, rfl, rfl⟩
 | 157, i, _, h => E4 (f := Tryz.f157) h ⟨_, Tryz.func157, by kernel_rfl, by kernel_rfl, rfl, rfl⟩
 | 158, i, _, h => E4 (f := Tryz.f158) h ⟨_, Tryz.func158, by kernel_rfl, by kernel_rfl, rfl, rfl⟩
 | 159, i, _, h => E4 (f := Tryz.f159) h ⟨_, Tryz.func159, by kernel_rfl, by kernel_rfl, rfl, rfl⟩
 | 160, i, _, h => E4 (f := Tryz.f160) h ⟨_, Tryz.func160, by kernel_rfl, by kernel_rfl, rfl, rfl⟩
 | 161, i, _, h => E4 (f := Tryz.f161) h ⟨_, Tryz.func161, by kernel_rfl, by kernel_rfl, rfl, rfl⟩
 | 162, i, _, h => E4 (f := Tryz.f162) h ⟨_, Tryz.func162, by kernel_rfl, by kernel_rfl, rfl, rfl⟩
 | 163, i, _, h => E4 (f := Tryz.f163) h ⟨_, Tryz.func163, by kernel_rfl, by kernel_rfl, rfl, rfl⟩
 | 164, i, _, h => E4 (f := Tryz.f164) h ⟨_, Tryz.func164, by kernel_rfl, by kernel_rfl, rfl, rfl⟩
 | 165, i, _, h => nomatch Option.some.inj h
 | 166, i, _, h => nomatch Option.some.inj h
 | 167, i, _, h => nomatch Option.some.inj h
 | 168, i, _, h => nomatch Option.some.inj h
 | 169, i, _, h => nomatch Option.some.inj h
 | 170, i, _, h => nomatch Option.some.inj h
 | 171, i, _, h => nomatch Option.some.inj h
 | 172, i, _, h => nomatch Option.some.inj h
 | 173, i, _, h => nomatch Option.some.inj h
 | 174, i, _, h => nomatch Option.some.inj h
 | 175, i, _, h => nomatch Option.some.inj h
 | 176, i, _, h => nomatch Option.some.inj h
 | 177, i, _, h => nomatch Option.some.inj h
 | 178, i, _, h => nomatch Option.some.inj h
 | 179, i, _, h => nomatch Option.some.inj h
 | 180, i, _, h => nomatch Option.some.inj h
 | 181, i, _, h => nomatch Option.some.inj h
 | 182, i, _, h => nomatch Option.some.inj h
 | 183, i, _, h => E4 (f := Tryz.f183) h ⟨_, Tryz.func183, by kernel_rfl, by kernel_rfl, rfl, rfl⟩
 | 184, i, _, h => nomatch Option.some.inj h
 | 185, i, _, h => nomatch Option.some.inj h
 | 186, i, _, h => nomatch Option.some.inj h
 | 187, i, _, h => nomatch Option.some.inj h
 | 188, i, _, h => nomatch Option.some.inj h
 | 189, i, _, h => nomatch Option.some.inj h
 | 190, i, _, h => nomatch Option.some.inj h
 | 191, i, _, h => nomatch Option.some.inj h
 | 192, i, _, h => nomatch Option.some.inj h
 | 193, i, _, h => nomatch Option.some.inj h
 | 194, i, _, h => nomatch Option.some.inj h
 | 195, i, _, h => nomatch Option.some.inj h
 | 196, i, _, h => nomatch Option.some.inj h
 | 197, i, _, h => nomatch Option.some.inj h
 | 198, i, _, h => nomatch Option.some.inj h
 | 199, i, _, h => nomatch Option.some.inj h
 | 200, i, _, h => nomatch Option.some.inj h
 | 201, i, _, h => nomatch Option.some.inj h
 | 202, i, _, h => nomatch Option.some.inj h
 | 203, i, _, h => nomatch Option.some.inj h
 | 204, i, _, h => nomatch Option.some.inj h
 | 205, i, _, h => nomatch Option.some.inj h
 | 206, i, _, h => nomatch Option.some.inj h
 | 207, i, _, h => nomatch Option.some.inj h
 | 208, i, _, h => nomatch Option.some.inj h
 | 209, i, _, h => nomatch Option.some.inj h
 | 210, i, _, h => nomatch Option.some.inj h
 | 211, i, _, h => nomatch Option.some.inj h
 | 212, i, _, h => nomatch Option.some.inj h
 | 213, i, _, h => nomatch Option.some.inj h
 | 214, i, _, h => nomatch Option.some.inj h
 | 215, i, _, h => E4 (f := Tryz.f215) h ⟨_, Tryz.func215, by kernel_rfl, by kernel_rfl, rfl, rfl⟩
 | 216, i, _, h => E4 (f := Tryz.f216) h ⟨_, Tryz.func216, by kernel_rfl, by kernel_rfl, rfl, rfl⟩
 | 217, i, _, h => nomatch Option.some.inj h
 | 218, i, _, h => nomatch Option.some.inj h
 | 219, i, _, h => nomatch Option.some.inj h
 | 220, i, _, h => nomatch Option.some.inj h
 | 221, i, _, h => nomatch Option.some.inj h
 | 222, i, _, h => nomatch Option.some.inj h
 | 223, i, _, h => nomatch Option.some.inj h
 | 224, i, _, h => nomatch Option.some.inj h
 | 225, i, _, h => nomatch Option.some.inj h
 | 226, i, _, h => nomatch Option.some.inj h
 | 227, i, _, h => nomatch Option.some.inj h
 | 228, i, _, h => nomatch Option.some.inj h
 | 229, i, _, h => nomatch Option.some.inj h
 | 230, i, _, h => nomatch Option.some.inj h
 | 231, i, _, h => nomatch Option.some.inj h
 | 232, i, _, h => E4 (f := Tryz.f232) h ⟨_, Tryz.func232, by kernel_rfl, by kernel_rfl, rfl, rfl⟩
 | 233, i, _, h => nomatch Option.some.inj h
 | 234, i, _, h => nomatch Option.some.inj h
 | 235, i, _, h => nomatch Option.some.inj h
 | 236, i, _, h => E4 (f := Tryz.f236) h ⟨_, Tryz.func236, by kernel_rfl, by kernel_rfl, rfl, rfl⟩
 | 237, i, _, h => nomatch Option.some.inj h
 | 238, i, _, h => E4 (f := Tryz.f238) h ⟨_, Tryz.func238, by kernel_rfl, by kernel_rfl, rfl, rfl⟩
 | 239, i, _, h => E4 (f := Tryz.f239) h ⟨_, Tryz.func239, by kernel_rfl, by kernel_rfl, rfl, rfl⟩
 | 240, i, _, h => nomatch Option.some.inj h
 | 241, i, _, h => nomatch Option.some.inj h
 | 242, i, _, h => nomatch Option.some.inj h
 | 243, i, _, h => nomatch Option.some.inj h
 | 244, i, _, h => nomatch Option.some.inj h
 | 245, i, _, h => nomatch Option.some.inj h
 | 246, i, _, h => nomatch Option.some.inj h
 | 247, i, _, h => nomatch Option.some.inj h
 | 248, i, _, h => nomatch Option.some.inj h
 | 249, i, _, h => nomatch Option.some.inj h
 | 250, i, _, h => nomatch Option.some.inj h
 | 251, i, _, h => nomatch Option.some.inj h
 | 252, i, _, h => nomatch Option.some.inj h
 | 253, i, _, h => nomatch Option.some.inj h
 | 254, i, _, h => nomatch Option.some.inj h
 | 255, i, _, h => nomatch Option.some.inj h
 | 256, i, _, h => nomatch Option.some.inj h
 | 257, i, _, h => nomatch Option.some.inj h
 | 258, i, _, h => nomatch Option.some.inj h
 | 259, i, _, h => nomatch Option.some.inj h
 | 260, i, _, h => nomatch Option.some.inj h
 | 261, i, _, h => nomatch Option.some.inj h
 | 262, i, _, h => nomatch Option.some.inj h
 | 263, i, _, h => nomatch Option.some.inj h
 | 264, i, _, h => nomatch Option.some.inj h
 | 265, i, _, h => nomatch Option.some.inj h
 | 266, i, _, h => nomatch Option.some.inj h
 | 267, i, _, h => nomatch Option.some.inj h
 | 268, i, _, h => nomatch Option.some.inj h
 | 269, i, _, h => nomatch Option.some.inj h
 | 270, i, _, h => nomatch Option.some.inj h
 | 271, i, _, h => nomatch Option.some.inj h
 | 272, i, _, h => nomatch Option.some.inj h
 | 273, i, _, h => nomatch Option.some.inj h
 | 274, i, _, h => nomatch Option.some.inj h
 | 275, i, _, h => nomatch Option.some.inj h
 | 276, i, _, h => nomatch Option.some.inj h
 | 277, i, _, h => nomatch Option.some.inj h
 | 278, i, _, h => nomatch Option.some.inj h
 | 279, i, _, h => E4 (f := Tryz.f279) h ⟨_, Tryz.func279, by kernel_rfl, by kernel_rfl, rfl, rfl⟩
 | 280, i, _, h => E4 (f := Tryz.f280) h ⟨_, Tryz.func280, by kernel_rfl, by kernel_rfl, rfl, rfl⟩
 | n + 281, i, hlt, h => by omega
theorem Ab1 : ∀ f i, E0.fs f = some i → Zg Tryz.prog E0 f i := by
 intro f i h
 have hl : fss[f]? = some (some i) := by
  have h : (fss[f]?).getD none = some i := h
  cases hl : fss[f]? with
  | none => rw [hl] at h; cases h
  | some o => rw [hl] at h; simp only [Option.getD_some] at h; rw [h]
 refine ⟨?_, Qz Aa4 hl⟩
 have hlt : f < 281 := (List.getElem?_eq_some_iff.1 hl).1
 exact AaG f i hlt hl
theorem Aby : Mw Tryz.prog E0 J0 := ⟨Vu, Aa3, by kernel_rfl, Ab1, Ab0, (fun f q h => by cases h), U1⟩
end
section
open Go
variable {β : Type} {n : Nat}
section
variable {k : KO β} {k1 : AV → Option β} {H : Aa}
@[simp] theorem Bj : (PR n β).load = Ao := rfl
@[simp] theorem Dy : (PR n β).store = Cb := rfl
@[simp] theorem G5 : (PR n β).new = Mk := rfl
@[simp] theorem C4 : (PR n β).box = Mj := rfl
@[simp] theorem Aa2 : (PR n β).newSl = Dj := rfl
@[simp] theorem B5 : (PR n β).fadr = Di := rfl
@[simp] theorem Abe : (PR n β).fld = Yc := rfl
@[simp] theorem Lu : (PR n β).iadr = Bh := rfl
@[simp] theorem Abf : (PR n β).idx = Aat := rfl
@[simp] theorem Wc : (PR n β).lenS = Vj := rfl
@[simp] theorem F3 : (PR n β).len = Fc := rfl
@[simp] theorem Aaz : (PR n β).sliceS = Mm := rfl
@[simp] theorem Th : (PR n β).slice = Ml := rfl
@[simp] theorem Abd : (PR n β).app = Yb := rfl
@[simp] theorem AaW : (PR n β).appS = Rc := rfl
@[simp] theorem Ch : (PR n β).bin = An := rfl
@[simp] theorem Fj : (PR n β).binB = G0 := rfl
@[simp] theorem AaX : (PR n β).binA = Rd := rfl
@[simp] theorem Dg : (PR n β).un = Vk := rfl
@[simp] theorem Da : (PR n β).pick = N6 := rfl
@[simp] theorem Zh : (PR n β).cvI = S3 := rfl
@[simp] theorem Aba : (PR n β).cvSS = Vi := rfl
@[simp] theorem Wb : (PR n β).cvBS = Jd := rfl
@[simp] theorem AaZ : (PR n β).cvSB = Re := rfl
@[simp] theorem Jl : (PR n β).extr = N5 := rfl
@[simp] theorem Abg : (PR n β).nil = Aau := rfl
@[simp] theorem Jm : (PR n β).fill = fun a l k => (Eg a l).bind k := rfl
@[simp] theorem Abb : (PR n β).make = Rf := rfl
@[simp] theorem Cm : (PR n β).guard = Ft := rfl
@[simp] theorem Bu : (PR n β).cond = A7 := rfl
@[simp] theorem Aa1 : (PR n β).clear = Kv := rfl
@[simp] theorem AaY : (PR n β).both = Id := rfl
@[simp] theorem Aa0 : (PR n β).apart = Mi := rfl
@[simp] theorem Abc : (PR n β).same = Lq := rfl
noncomputable def Bl (f : Nat) : Bool := E0.hm f || (E0.ext f).isSome
theorem N8 {f : Nat} (h : Bl f = false) : E0.hm f = false := by
 unfold Bl at h
 simp only [Bool.or_eq_false_iff] at h
 exact h.1
theorem Lr {f : Nat} (h : Bl f = false) : E0.ext f = none := by
 unfold Bl at h
 simp only [Bool.or_eq_false_iff] at h
 simpa using h.2
theorem Do {ty : Nat} {f : FuncId} {args vs : List AV} {t : AV} (hh : Bl f = false) (hv : args.mapM (Au H 8) = some vs) (ht : Bp E0 n ty f vs = some t) :
  (PR n β).call ty (.fn f [] []) args H k = k (Ag Ad E0.tp H.length ty t).1 (H ++ (Ag Ad E0.tp H.length ty t).2) := by
 show Gu E0 (Be E0 n) ty f ([] ++ args ++ []) H k = _
 simp only [Gu, Lr hh, N8 hh, List.nil_append, List.append_nil, Bool.false_eq_true, if_false, M9, hv, Option.bind_some]
 have ht : Ix E0 (Be E0 n) ty f vs = some t := ht
 rw [ht]
 rfl
end
theorem Ax (n ty : Nat) (f : FuncId) (args : List AV) : Bp E0 n ty f args = Be E0 n AV f args [] fun x H => A6 Ad E0.tp ty H x := rfl
@[simp] theorem Aas {ti : Nat → Option TI} {tp : Nat → Option (List Nat)} (ty : Nat) (H : Aa) (v : Value) : A6 ti tp ty H (.sc v) = some (.sc v) := rfl
theorem Ib {ti : Nat → Option TI} {tp : Nat → Option (List Nat)} {H : Aa} {d ty id off n z : Nat} : A0 ti tp H (d + 1) ty (.sl id off n z) = (ti ty).bind fun i => (ti i.elem).bind fun j => if z = j.size then (if Gz H id then (Ae H id off (n * z)).bind fun cs => (Bb (A0 ti tp H d) (List.replicate n j.cty).flatten cs).bind fun q => some (.ro n q.1, id :: q.2) else none) else none := rfl
theorem D7 {ti : Nat → Option TI} {tp : Nat → Option (List Nat)} {H : Aa} {d ty : Nat} {cs : List AV} : A0 ti tp H (d + 1) ty (.agg cs) = (ti ty).bind fun i => (Bb (A0 ti tp H d) i.cty cs).bind fun q => some (.agg q.1, q.2) := rfl
theorem Fb {ti : Nat → Option TI} {tp : Nat → Option (List Nat)} {H : Aa} {d ty : Nat} {cs : List AV} : A0 ti tp H (d + 1) ty (.tup cs) = (tp ty).bind fun ts => (Bb (A0 ti tp H d) ts cs).bind fun q => some (.tup q.1, q.2) := rfl
theorem X9 {ti : Nat → Option TI} {tp : Nat → Option (List Nat)} {H : Aa} {d ty : Nat} {v : Value} : A0 ti tp H (d + 1) ty (.sc v) = some (.sc v, []) := rfl
theorem B0 {ti : Nat → Option TI} {tp : Nat → Option (List Nat)} {n ty : Nat} {v : Value} : Ag ti tp n ty (.sc v) = (.sc v, []) := rfl
theorem E7 {ti : Nat → Option TI} {tp : Nat → Option (List Nat)} {n ty : Nat} {cs : List AV} : Ag ti tp n ty (.agg cs) = (.agg (Ab ti tp n ((ti ty).getD default).cty cs).1, (Ab ti tp n ((ti ty).getD default).cty cs).2) := rfl
theorem Li {ti : Nat → Option TI} {tp : Nat → Option (List Nat)} {n ty : Nat} {cs : List AV} : Ag ti tp n ty (.tup cs) = (.tup (Ab ti tp n ((tp ty).getD []) cs).1, (Ab ti tp n ((tp ty).getD []) cs).2) := rfl
theorem K6 {H : Aa} {d id off n z : Nat} : Au H (d + 1) (.sl id off n z) = (Ae H id off (n * z)).bind fun cs => (cs.mapM (Au H d)).bind fun vs => some (.ro n vs) := rfl
theorem Ff {H : Aa} {d : Nat} {cs : List AV} : Au H (d + 1) (.agg cs) = (cs.mapM (Au H d)).bind fun vs => some (.agg vs) := rfl
theorem V2 {H : Aa} {d n : Nat} {cs : List AV} : Au H (d + 1) (.ro n cs) = some (.ro n cs) := rfl
theorem I4 (s : ByteArray) : (Br s).length = s.size := by simp [Br]
theorem Fl : ∀ (l : List UInt8), (l.map fun b => AV.sc (.int .u8 (b.toNat : Int))).mapM F5 = some l
 | [] => rfl
 | b :: l => by
  have e : F5 (.sc (.int .u8 (b.toNat : Int))) = some b := by simp [F5]
  simp only [List.map_cons, List.mapM_cons, e, Fl l, Option.pure_def, Option.bind_eq_bind, Option.bind_some]
end
section
open Go
section gen
variable {ti : Nat → Option TI} {tp : Nat → Option (List Nat)}
def B7 (f : Nat → AV → Prop) : List Nat → List AV → Prop
 | [], [] => True
 | t :: ts, x :: xs => f t x ∧ B7 f ts xs
 | _, _ => False
def C2 (ti : Nat → Option TI) (tp : Nat → Option (List Nat)) : Nat → Nat → AV → Prop
 | 0, _, _ => False
 | d + 1, ty, x =>
  match x with
  | .sc _ => True
  | .ro n cells => ∃ i j, ti ty = some i ∧ ti i.elem = some j ∧ cells.length = n * j.size ∧ B7 (C2 ti tp d) (List.replicate n j.cty).flatten cells
  | .agg cs => ∃ i, ti ty = some i ∧ B7 (C2 ti tp d) i.cty cs
  | .tup cs => ∃ ts, tp ty = some ts ∧ B7 (C2 ti tp d) ts cs
  | _ => False
theorem Ek {f : Nat → AV → Prop} : ∀ {ts : List Nat} {cs : List AV} {ts' : List Nat} {cs' : List AV}, B7 f ts cs → B7 f ts' cs' → B7 f (ts ++ ts') (cs ++ cs')
 | [], [], _, _, _, h => h
 | _ :: ts, _ :: cs, _, _, h, h' => ⟨h.1, Ek h.2 h'⟩
theorem Lo {α : Type} {f : Nat → AV → Prop} {cty : List Nat} {enc : α → List AV} : ∀ (l : List α), (∀ x ∈ l, B7 f cty (enc x)) → B7 f (List.replicate l.length cty).flatten (l.map enc).flatten
 | [], _ => by simp [B7]
 | x :: l, h => by
  rw [List.length_cons, List.replicate_succ, List.flatten_cons, List.map_cons, List.flatten_cons]
  exact Ek (h x List.mem_cons_self) (Lo l fun y hy => h y (List.mem_cons_of_mem _ hy))
theorem Gb {f g : Nat → AV → Prop} (hfg : ∀ t x, f t x → g t x) : ∀ {ts : List Nat} {cs : List AV}, B7 f ts cs → X5 g ts cs
 | [], [], _ => trivial
 | _ :: ts, _ :: cs, h => ⟨hfg _ _ h.1, Gb hfg h.2⟩
theorem Ge : ∀ (d : Nat) (ty : Nat) (x : AV), C2 ti tp d ty x → N0 ti tp d ty x
 | 0, _, _, h => h
 | d + 1, ty, x, h => by
  cases x with
  | sc v => trivial
  | ro n cells =>
   obtain ⟨i, j, h1, h2, h3, h4⟩ := h
   show cells.length = n * (((ti ty).bind fun i => ti i.elem).getD default).size ∧ _
   simp only [h1, Option.bind_some, h2, Option.getD_some]
   exact ⟨h3, Gb (Ge d) h4⟩
  | agg cs =>
   obtain ⟨i, h1, h2⟩ := h
   show X5 _ ((ti ty).getD default).cty cs
   rw [h1]
   exact Gb (Ge d) h2
  | tup cs =>
   obtain ⟨ts, h1, h2⟩ := h
   show X5 _ ((tp ty).getD []) cs
   rw [h1]
   exact Gb (Ge d) h2
  | _ => cases h
theorem It {H : Aa} {d : Nat} (hd : ∀ ty t N, C2 ti tp d ty t → Lies H N (Ag ti tp N ty t).2 → (∀ b ∈ (Ag ti tp N ty t).2, b.live = true ∧ b.app = true) → A0 ti tp H d ty (Ag ti tp N ty t).1 = some (t, List.range' N (Ag ti tp N ty t).2.length)) :
  ∀ (ts : List Nat) (cs : List AV) (N : Nat), B7 (C2 ti tp d) ts cs → Lies H N (Ab ti tp N ts cs).2 → (∀ b ∈ (Ab ti tp N ts cs).2, b.live = true ∧ b.app = true) → Bb (A0 ti tp H d) ts (Ab ti tp N ts cs).1 = some (cs, List.range' N (Ab ti tp N ts cs).2.length)
 | [], [], N, _, _, _ => rfl
 | t :: ts, x :: cs, N, h, hl, hb => by
  simp only [Ab, List.headD_cons, List.tail_cons] at hl hb ⊢
  have h1 := hd t x N h.1 hl.left fun b hb' => hb b (List.mem_append_left _ hb')
  have h2 := It hd ts cs _ h.2 hl.right fun b hb' => hb b (List.mem_append_right _ hb')
  have e := List.range'_append (s := N) (m := (Ag ti tp N t x).2.length) (n := (Ab ti tp (N + (Ag ti tp N t x).2.length) ts cs).2.length) (step := 1)
  rw [Nat.one_mul] at e
  simp only [Bb, h1, h2, Option.bind_some, List.length_append, e]
mutual
theorem Sz : ∀ (x : AV) (N ty : Nat), ∀ b ∈ (Ag ti tp N ty x).2, b.live = true ∧ b.app = true
 | .sc v, N, ty => by intro b h; cases h
 | .ro n cells, N, ty => by
  intro b h
  simp only [Ag, List.mem_cons] at h
  rcases h with rfl | h
  ·exact ⟨rfl, rfl⟩
  ·exact B9 cells _ _ b h
 | .agg cs, N, ty => fun b h => B9 cs _ _ b h
 | .tup cs, N, ty => fun b h => B9 cs _ _ b h
 | .any, N, ty => by intro b h; cases h
 | .nl, N, ty => by intro b h; cases h
 | .sl .., N, ty => by intro b h; cases h
 | .ptr .., N, ty => by intro b h; cases h
 | .rp .., N, ty => by intro b h; cases h
 | .fn .., N, ty => by intro b h; cases h
theorem B9 : ∀ (cs : List AV) (N : Nat) (ts : List Nat), ∀ b ∈ (Ab ti tp N ts cs).2, b.live = true ∧ b.app = true
 | [], N, ts => by intro b h; cases h
 | x :: cs, N, ts => by
  intro b h
  simp only [Ab, List.mem_append] at h
  rcases h with h | h
  ·exact Sz x _ _ b h
  ·exact B9 cs _ _ b h
end
theorem Kt {H : Aa} : ∀ (d ty : Nat) (t : AV) (N : Nat), C2 ti tp d ty t → Lies H N (Ag ti tp N ty t).2 → A0 ti tp H d ty (Ag ti tp N ty t).1 = some (t, List.range' N (Ag ti tp N ty t).2.length)
 | 0, _, _, _, h, _ => by cases h
 | d + 1, ty, t, N, h, hl => by
  have ih := It (H := H) (d := d) (ti := ti) (tp := tp) (fun ty t N h h' _ => Kt d ty t N h h')
  cases t with
  | sc v => rfl
  | ro n cells =>
   obtain ⟨i, j, h1, h2, h3, h4⟩ := h
   have e : Ag ti tp N ty (.ro n cells) = (.sl N 0 n j.size, ⟨(Ab ti tp (N + 1) (List.replicate n j.cty).flatten cells).1, true, true⟩ :: (Ab ti tp (N + 1) (List.replicate n j.cty).flatten cells).2) := by
    simp only [Ag, h1, Option.bind_some, h2, Option.getD_some]
   rw [e] at hl ⊢
   have hb := hl 0 _ rfl
   rw [Nat.add_zero] at hb
   have hv := ih (List.replicate n j.cty).flatten cells (N + 1) h4 hl.tail (B9 _ _ _)
   have hlen := Ct (ti := ti) (tp := tp) (N + 1) (List.replicate n j.cty).flatten cells
   have e2 : Ae H N 0 (n * j.size) = some (Ab ti tp (N + 1) (List.replicate n j.cty).flatten cells).1 := by
    simp only [Ae, hb, if_true, List.drop_zero, Nat.zero_add]
    rw [if_pos (by rw [hlen, h3]; exact Nat.le_refl _), ← h3, ← hlen, List.take_length]
   have e3 : Gz H N = true := by simp only [Gz, hb]
   rw [Ib]
   simp only [h1, h2, Option.bind_some, if_true, e2, e3, hv, List.length_cons]
   rw [List.range'_succ]
  | agg cs =>
   obtain ⟨i, h1, h2⟩ := h
   have e : Ag ti tp N ty (.agg cs) = (.agg (Ab ti tp N i.cty cs).1, (Ab ti tp N i.cty cs).2) := by rw [E7, h1]; rfl
   rw [e] at hl ⊢
   rw [D7]
   simp only [h1, Option.bind_some, ih i.cty cs N h2 hl (B9 _ _ _)]
  | tup cs =>
   obtain ⟨ts, h1, h2⟩ := h
   have e : Ag ti tp N ty (.tup cs) = (.tup (Ab ti tp N ts cs).1, (Ab ti tp N ts cs).2) := by rw [Li, h1]; rfl
   rw [e] at hl ⊢
   rw [Fb]
   simp only [h1, Option.bind_some, ih ts cs N h2 hl (B9 _ _ _)]
  | _ => cases h
theorem Qg (A B X : List C3) : Lies (A ++ B ++ X) A.length B := fun j b hj => by
 have hlt := (List.getElem?_eq_some_iff.1 hj).1
 rw [List.append_assoc, List.getElem?_append_right (by omega), Nat.add_sub_cancel_left, List.getElem?_append_left hlt]
 exact hj
theorem Mz (A B : List C3) : Lies (A ++ B) A.length B := by
 have := Qg A B []
 rwa [List.append_nil] at this
def Vw (H : Aa) (x v : AV) : Prop := ∀ X : List C3, Au (H ++ X) 8 x = some v
theorem Vw.grow {H : Aa} {x v : AV} (h : Vw H x v) (X : List C3) : Vw (H ++ X) x v := fun Y => by
 rw [List.append_assoc]
 exact h _
theorem Vw.now {H : Aa} {x v : AV} (h : Vw H x v) : Au H 8 x = some v := by
 have := h []
 rwa [List.append_nil] at this
theorem I1 (H : Aa) (v : Value) : Vw H (.sc v) (.sc v) := fun _ => rfl
def Dp : AV → Bool
 | .sc v => H5 v
 | .ro _ _ => true
 | _ => false
theorem Xi {cs : List AV} (h : cs.all Dp = true) : cs.all Am = true := by
 rw [List.all_eq_true] at h ⊢
 intro x hx
 have := h x hx
 cases x <;> simp_all [Dp, Am]
theorem Np {cs : List AV} (h : cs.all Dp = true) : Bv (.agg cs) = some cs := by
 show (if cs.all Am then some cs else none) = _
 rw [if_pos (Xi h)]
theorem Ma {H : Aa} {d : Nat} : ∀ {cs : List AV}, cs.all Dp = true → cs.mapM (Au H (d + 1)) = some cs
 | [], _ => rfl
 | x :: cs, h => by
  rw [List.all_cons, Bool.and_eq_true] at h
  have e : Au H (d + 1) x = some x := by
   have := h.1
   cases x <;> first | rfl | (exfalso; simp [Dp] at this)
  simp only [List.mapM_cons, e, Ma h.2, Option.pure_def, Option.bind_eq_bind, Option.bind_some]
theorem On (H : Aa) {cs : List AV} (h : cs.all Dp = true) : Vw H (.agg cs) (.agg cs) := fun X => by
 rw [Ff, Ma h]
 rfl
theorem D4 : ∀ (cs : List AV) (N : Nat) (ts : List Nat), cs.all Dp = true → (Ab ti tp N ts cs).1.all Am = true
 | [], _, _, _ => rfl
 | x :: cs, N, ts, h => by
  rw [List.all_cons, Bool.and_eq_true] at h
  simp only [Ab, List.all_cons, Bool.and_eq_true]
  refine ⟨?_, D4 cs _ _ h.2⟩
  have := h.1
  cases x <;> first | exact this | rfl | (exfalso; simp [Dp] at this)
theorem Cz : ∀ (ts : List Nat) (cs : List AV) (ts' : List Nat) (cs' : List AV) (N : Nat), ts.length = cs.length →
  Ab ti tp N (ts ++ ts') (cs ++ cs') = ((Ab ti tp N ts cs).1 ++ (Ab ti tp (N + (Ab ti tp N ts cs).2.length) ts' cs').1, (Ab ti tp N ts cs).2 ++ (Ab ti tp (N + (Ab ti tp N ts cs).2.length) ts' cs').2)
 | [], [], ts', cs', N, _ => by simp [Ab]
 | t :: ts, x :: cs, ts', cs', N, h => by
  have ih := Cz ts cs ts' cs' (N + (Ag ti tp N t x).2.length) (by simpa using h)
  simp only [List.cons_append, Ab, List.headD_cons, List.tail_cons, ih, List.length_append, List.append_assoc, Nat.add_assoc]
end gen
section ops
variable {β : Type}
theorem Jp (w len : Nat) (cells : List AV) (i : Nat) (k : AV → Option β) (h : i < len) (h2 : i * w < cells.length) : Bh w (.ro len cells) (.sc (.int .i64 i)) k = k (.rp (cells.drop (i * w))) := by
 simp only [Bh, V4, Option.bind_some, Int.toNat_natCast]
 rw [if_pos ⟨by omega, by omega⟩, if_pos h2]
theorem Xo (w len id off : Nat) (i : Nat) (k : AV → Option β) (h : i < len) : Bh w (.sl id off len w) (.sc (.int .i64 i)) k = k (.ptr id (off + i * w)) := by
 simp only [Bh, V4, Option.bind_some, Int.toNat_natCast, if_true]
 rw [if_pos ⟨by omega, by omega⟩]
theorem Y7 (w : Nat) (cs r : List AV) (H : Aa) (k : AV → Option β) (h : cs.length = w) : Ao true w (.rp (cs ++ r)) H k = k (.agg cs) := by
 simp only [Ao, List.length_append, h, Nat.le_add_right, if_true, List.take_left' h]
theorem Pu (c : AV) (r : List AV) (H : Aa) (k : AV → Option β) : Ao false 1 (.rp (c :: r)) H k = k c := by
 simp only [Ao, List.length_cons, Nat.le_add_left, if_true, Bool.false_eq_true, if_false]
 rfl
theorem Vs (w id off : Nat) (y : AV) (b : C3) (cs : List AV) (H : Aa) (k : Aa → Option β) (h : H[id]? = some b) (hc : Bv y = some cs) (hl : cs.length = w) (ho : off + w ≤ b.cells.length) (hb : b.live = true) : Cb w (.ptr id off) y H k = k (H.set id { b with cells := B4 b.cells off cs }) := by
 simp only [Cb, h, hc, Option.bind_some, hb, if_true, hl, ho]
theorem P9 (A z C cs : List AV) (h : z.length = cs.length) : B4 (A ++ (z ++ C)) A.length cs = A ++ (cs ++ C) := by
 unfold B4
 rw [List.take_left' rfl, ← List.append_assoc A z C, List.drop_append_of_le_length (by rw [List.length_append]; omega), ← h, ← List.length_append, List.drop_length, List.nil_append, List.append_assoc]
theorem Ei (a b : Nat) (k : AV → Option β) : An .lss (.sc (.int .i64 a)) (.sc (.int .i64 b)) k = k (.sc (.bool (decide (a < b)))) := by
 show k (.sc (.bool (decide ((a : Int) < (b : Int))))) = _
 rw [show decide ((a : Int) < (b : Int)) = decide (a < b) from by simp]
theorem Jq (a : Nat) (k : AV → Option β) (h : a < 9223372036854775807) : An .add (.sc (.int .i64 a)) (.sc (.int .i64 1)) k = k (.sc (.int .i64 (a + 1 : Nat))) := by
 show k (.sc (.int .i64 (IntKind.i64.wrap ((a : Int) + 1)))) = _
 have e : IntKind.i64.wrap ((a : Int) + 1) = ((a + 1 : Nat) : Int) := by
  rw [IntKind.wrap_i64, Int.natCast_add]
  simp only [Int.cast_ofNat_Int]
  omega
 rw [e]
theorem Bi (b : Bool) (x y : Option β) : A7 (.sc (.bool b)) x y = if b then x else y := rfl
theorem Eo (n : Nat) (cs : List AV) (k : AV → Option β) : Fc (.ro n cs) k = k (.sc (.int .i64 n)) := rfl
theorem Qf (n : Int) (h0 : -9223372036854775808 ≤ n) (h1 : n ≤ 9223372036854775807) : IntKind.i64.wrap n = n := by
 rw [IntKind.wrap_i64]; omega
theorem Q6 (a b : Int) (k : AV → Option β) : An .lss (.sc (.int .i64 a)) (.sc (.int .i64 b)) k = k (.sc (.bool (decide (a < b)))) := rfl
theorem Ru {α : Type} {w : Nat} {enc : α → List AV} (hw : ∀ x, (enc x).length = w) (pre r : List α) : ((pre ++ r).map enc).flatten.drop (pre.length * w) = (r.map enc).flatten := by
 have hl : ((pre.map enc).flatten).length = pre.length * w := by
  induction pre with
  | nil => simp
  | cons x pre ih => rw [List.map_cons, List.flatten_cons, List.length_append, ih, hw, List.length_cons, Nat.succ_mul, Nat.add_comm]
 rw [List.map_append, List.flatten_append, List.drop_append_of_le_length (by omega), ← hl, List.drop_length, List.nil_append]
theorem Ob {α : Type} {w : Nat} {enc : α → List AV} (hw : ∀ x, (enc x).length = w) (l : List α) : ((l.map enc).flatten).length = l.length * w := by
 induction l with
 | nil => simp
 | cons x l ih => rw [List.map_cons, List.flatten_cons, List.length_append, ih, hw, List.length_cons, Nat.succ_mul, Nat.add_comm]
theorem Aa5 {α : Type} {w : Nat} {enc : α → List AV} (hw : ∀ x, (enc x).length = w) (h0 : 0 < w) (pre : List α) (x : α) (r : List α) (k : AV → Option β) :
  Bh w (.ro (pre ++ x :: r).length ((pre ++ x :: r).map enc).flatten) (.sc (.int .i64 pre.length)) k = k (.rp (enc x ++ (r.map enc).flatten)) := by
 have hl := Ob hw (pre ++ x :: r)
 have h1 : pre.length < (pre ++ x :: r).length := by simp
 rw [Jp w _ _ pre.length k h1 (by rw [hl]; exact Nat.mul_lt_mul_of_pos_right h1 h0), Ru hw pre (x :: r), List.map_cons, List.flatten_cons]
theorem Ql {α : Type} {n tb g w : Nat} (enc : α → List AV) (k : KO β) (hw : ∀ x, (enc x).length = w) (h0 : 0 < w) (hfl : ∀ x, (enc x).all Dp = true) (hh : Bl g = false) (L : Nat → AV → AV → KO β)
  (hL : ∀ m a b i H, L (m + 1) a b i H = Fc a fun t13 => An .lss i t13 fun t14 => A7 t14 (Bh w a i fun t19 => Ao true w t19 H fun t20 => Bh w b i fun t23 => Ao true w t23 H fun t24 => (PR n β).call tb (.fn g [] []) [t20, t24] H fun t25 H => Vk .not t25 fun t26 => A7 t26 (k (.sc (.bool false)) H) (An .add i (.sc (.int .i64 1)) fun t16 => L m a b t16 H)) (k (.sc (.bool true)) H))
  (l : List α) (heq : ∀ x ∈ l, Bp E0 n tb g [.agg (enc x), .agg (enc x)] = some (.sc (.bool true))) (hlen : l.length ≤ 1048576) (H : Aa) : ∀ (r pre : List α) (m : Nat), l = pre ++ r → r.length < m →
   L m (.ro l.length (l.map enc).flatten) (.ro l.length (l.map enc).flatten) (.sc (.int .i64 pre.length)) H = k (.sc (.bool true)) H
 | [], pre, m + 1, hl, hm => by
  rw [List.append_nil] at hl
  subst hl
  rw [hL, Eo, Ei, Bi]
  simp
 | x :: r, pre, m + 1, hl, hm => by
  have hlt : pre.length < l.length := by rw [hl]; simp
  rw [hL, Eo, Ei, Bi, if_pos (by simpa using hlt)]
  have hel := fun k => Aa5 (β := β) hw h0 pre x r k
  rw [← hl] at hel
  rw [hel, Y7 w _ _ _ _ (hw x), hel, Y7 w _ _ _ _ (hw x)]
  rw [Do (vs := [.agg (enc x), .agg (enc x)]) hh (by simp only [List.mapM_cons, (On _ (hfl x)).now]; rfl) (heq x (by rw [hl]; simp))]
  rw [B0]
  simp only [Vk, Bool.not_true, List.append_nil]
  rw [Bi, if_neg (by simp), Jq _ _ (by omega)]
  have ih := Ql enc k hw h0 hfl hh L hL l heq hlen H r (pre ++ [x]) m (by rw [hl]; simp) (by simpa using hm)
  rw [List.length_append, List.length_singleton] at ih
  exact ih
theorem Q9 (a b : Nat) (k : AV → Option β) : An .neq (.sc (.int .i64 a)) (.sc (.int .i64 b)) k = k (.sc (.bool (decide (a ≠ b)))) := by
 show k (.sc (.bool ((a : Int) != (b : Int)))) = _
 congr 3
 by_cases h : a = b
 ·subst h; simp
 ·simp [bne, h]; omega
theorem Nl {α : Type} {n tb f g w : Nat} (enc : α → List AV) (hw : ∀ x, (enc x).length = w) (h0 : 0 < w) (hfl : ∀ x, (enc x).all Dp = true) (hh : Bl g = false) (L : (AV → Aa → Option AV) → Nat → AV → AV → AV → Aa → Option AV)
  (hL : ∀ k m a b i H, L k (m + 1) a b i H = Fc a fun t13 => An .lss i t13 fun t14 => A7 t14 (Bh w a i fun t19 => Ao true w t19 H fun t20 => Bh w b i fun t23 => Ao true w t23 H fun t24 => (PR n AV).call tb (.fn g [] []) [t20, t24] H fun t25 H => Vk .not t25 fun t26 => A7 t26 (k (.sc (.bool false)) H) (An .add i (.sc (.int .i64 1)) fun t16 => L k m a b t16 H)) (k (.sc (.bool true)) H))
  (hF : ∀ a b H k, Be E0 (n + 1) AV f [a, b] H k = Fc a fun t7 => Fc b fun t9 => An .neq t7 t9 fun t10 => A7 t10 (k (.sc (.bool false)) H) (L k n a b (.sc (.int .i64 0)) H))
  (l : List α) (heq : ∀ x ∈ l, Bp E0 n tb g [.agg (enc x), .agg (enc x)] = some (.sc (.bool true))) (hlen : l.length ≤ 1048576) (hn : 1048576 < n) (tb' : Nat) :
  Bp E0 (n + 1) tb' f [.ro l.length (l.map enc).flatten, .ro l.length (l.map enc).flatten] = some (.sc (.bool true)) := by
 rw [Ax, hF, Eo, Eo, Q9, Bi, if_neg (by simp)]
 have key := Ql (n := n) (tb := tb) (g := g) enc (fun x H => A6 Ad E0.tp tb' H x) hw h0 hfl hh (L fun x H => A6 Ad E0.tp tb' H x) (hL fun x H => A6 Ad E0.tp tb' H x) l heq hlen [] l [] n (by simp) (by omega)
 simp only [List.length_nil, Int.natCast_zero] at key
 rw [key]
 rfl
theorem Nm {α : Type} {n : Nat} (e : α → Value) (k : KO β) (hne : ∀ (x : α) (γ : Type) (k : AV → Option γ), An .neq (.sc (e x)) (.sc (e x)) k = k (.sc (.bool false))) (L : Nat → AV → AV → KO β)
  (hL : ∀ m a b i H, L (m + 1) a b i H = Fc a fun t13 => An .lss i t13 fun t14 => A7 t14 (Bh 1 a i fun t19 => Ao false 1 t19 H fun t20 => Bh 1 b i fun t23 => Ao false 1 t23 H fun t24 => An .neq t20 t24 fun t25 => A7 t25 (k (.sc (.bool false)) H) (An .add i (.sc (.int .i64 1)) fun t16 => L m a b t16 H)) (k (.sc (.bool true)) H))
  (l : List α) (hlen : l.length ≤ 1048576) (H : Aa) : ∀ (r pre : List α) (m : Nat), l = pre ++ r → r.length < m →
   L m (.ro l.length (l.map fun x => .sc (e x))) (.ro l.length (l.map fun x => .sc (e x))) (.sc (.int .i64 pre.length)) H = k (.sc (.bool true)) H
 | [], pre, m + 1, hl, hm => by
  rw [List.append_nil] at hl
  subst hl
  rw [hL, Eo, Ei, Bi]
  simp
 | x :: r, pre, m + 1, hl, hm => by
  have hlt : pre.length < l.length := by rw [hl]; simp
  rw [hL, Eo, Ei, Bi, if_pos (by simpa using hlt)]
  have hd : (l.map fun x => AV.sc (e x)).drop (pre.length * 1) = .sc (e x) :: r.map fun x => .sc (e x) := by
   rw [Nat.mul_one, hl, List.map_append, List.drop_append_of_le_length (by simp)]
   rw [show pre.length = (pre.map fun x => AV.sc (e x)).length by simp, List.drop_length]
   rfl
  rw [Jp 1 _ _ pre.length _ hlt (by simpa using hlt), hd, Pu, Jp 1 _ _ pre.length _ hlt (by simpa using hlt), hd, Pu, hne, Bi, if_neg (by simp), Jq _ _ (by omega)]
  have ih := Nm (n := n) e k hne L hL l hlen H r (pre ++ [x]) m (by rw [hl]; simp) (by simpa using hm)
  rw [List.length_append, List.length_singleton] at ih
  exact ih
theorem L8 {α : Type} {n f : Nat} (e : α → Value) (hne : ∀ (x : α) (γ : Type) (k : AV → Option γ), An .neq (.sc (e x)) (.sc (e x)) k = k (.sc (.bool false))) (L : (AV → Aa → Option AV) → Nat → AV → AV → AV → Aa → Option AV)
  (hL : ∀ k m a b i H, L k (m + 1) a b i H = Fc a fun t13 => An .lss i t13 fun t14 => A7 t14 (Bh 1 a i fun t19 => Ao false 1 t19 H fun t20 => Bh 1 b i fun t23 => Ao false 1 t23 H fun t24 => An .neq t20 t24 fun t25 => A7 t25 (k (.sc (.bool false)) H) (An .add i (.sc (.int .i64 1)) fun t16 => L k m a b t16 H)) (k (.sc (.bool true)) H))
  (hF : ∀ a b H k, Be E0 (n + 1) AV f [a, b] H k = Fc a fun t7 => Fc b fun t9 => An .neq t7 t9 fun t10 => A7 t10 (k (.sc (.bool false)) H) (L k n a b (.sc (.int .i64 0)) H))
  (l : List α) (hlen : l.length ≤ 1048576) (hn : 1048576 < n) (tb' : Nat) :
  Bp E0 (n + 1) tb' f [.ro l.length (l.map fun x => .sc (e x)), .ro l.length (l.map fun x => .sc (e x))] = some (.sc (.bool true)) := by
 rw [Ax, hF, Eo, Eo, Q9, Bi, if_neg (by simp)]
 have key := Nm (n := n) e (fun x H => A6 Ad E0.tp tb' H x) hne (L fun x H => A6 Ad E0.tp tb' H x) (hL fun x H => A6 Ad E0.tp tb' H x) l hlen [] l [] n (by simp) (by omega)
 simp only [List.length_nil, Int.natCast_zero] at key
 rw [key]
 rfl
def Td {α : Type} (wt : α → Nat) : List α → Nat
 | [] => 0
 | x :: l => 1 + wt x + Td wt l
def wtS {α : Type} (wt : α → Nat) : List α → Nat
 | [] => 0
 | x :: l => wt x + wtS wt l
theorem Fx {α : Type} (wt : α → Nat) : ∀ l : List α, Td wt l = l.length + wtS wt l
 | [] => rfl
 | x :: l => by rw [Td, wtS, Fx wt l, List.length_cons]; omega
theorem Ju {α : Type} {wt : α → Nat} : ∀ {l : List α} {x : α}, x ∈ l → wt x ≤ wtS wt l
 | y :: l, x, h => by
  rw [wtS]
  rcases List.mem_cons.1 h with rfl | h
  ·omega
  ·have := Ju (wt := wt) h
   omega
end ops
end
section
open Go
variable {β : Type} {n : Nat}
theorem D1 (cs : List AV) (H : Aa) (k : KO β) (h : cs.all Dp = true) : Mj (.agg cs) H k = k (.ptr H.length 0) (H ++ [⟨cs, true, true⟩]) := by
 rw [Mj, Np h]
 rfl
theorem ldT {m id off : Nat} {H : Aa} {cs : List AV} (h : Ae H id off m = some cs) (k : AV → Option β) : Ao true m (.ptr id off) H k = k (.agg cs) := by
 simp only [Ao, h, Option.bind_some, if_true]
theorem V6 {id off : Nat} {H : Aa} {c : AV} (h : Ae H id off 1 = some [c]) (k : AV → Option β) : Ao false 1 (.ptr id off) H k = k c := by
 simp only [Ao, h, Option.bind_some, Bool.false_eq_true, if_false, one]
theorem Cx {o : Nat} {H : Aa} {v : Value} {A K r : Option β} (h0 : Ae H 0 o 1 = some [.sc v]) (h1 : Ae H 1 o 1 = some [.sc v]) (hv : ∀ k : AV → Option β, An .neq (.sc v) (.sc v) k = k (.sc (.bool false))) (h : K = r) :
  (Di o (.ptr 0 0) fun t5 => Ao false 1 t5 H fun t6 => Di o (.ptr 1 0) fun t7 => Ao false 1 t7 H fun t8 => An .neq t6 t8 fun t9 => A7 t9 A K) = r := by
 simp only [Di, Nat.zero_add]
 rw [V6 h0, V6 h1, hv, Bi]
 exact h
theorem Hk {o : Nat} {H : Aa} {b : Bool} {A K r : Option β} (h0 : Ae H 0 o 1 = some [.sc (.bool b)]) (h1 : Ae H 1 o 1 = some [.sc (.bool b)]) (h : K = r) :
  (Di o (.ptr 0 0) fun t5 => Ao false 1 t5 H fun t6 => Di o (.ptr 1 0) fun t7 => Ao false 1 t7 H fun t8 => G0 .neq t6 t8 fun t9 => A7 t9 A K) = r := by
 simp only [Di, Nat.zero_add]
 rw [V6 h0, V6 h1]
 simp only [G0, Ys, Option.bind_some, binB, beq_self_eq_true, Bool.not_true]
 exact h
theorem Gv {o tb g : Nat} {H : Aa} {len : Nat} {cells : List AV} {A : Aa → Option β} {K : Aa → Option β} {r : Option β} (h0 : Ae H 0 o 1 = some [.ro len cells]) (h1 : Ae H 1 o 1 = some [.ro len cells]) (hh : Bl g = false) (ht : Bp E0 n tb g [.ro len cells, .ro len cells] = some (.sc (.bool true))) (h : K H = r) :
  (Di o (.ptr 0 0) fun t5 => Ao false 1 t5 H fun t6 => Di o (.ptr 1 0) fun t7 => Ao false 1 t7 H fun t8 => (PR n β).call tb (.fn g [] []) [t6, t8] H fun t H => Vk .not t fun t9 => A7 t9 (A H) (K H)) = r := by
 simp only [Di, Nat.zero_add]
 rw [V6 h0, V6 h1, Do (vs := [.ro len cells, .ro len cells]) hh (by simp only [List.mapM_cons, V2]; rfl) ht, B0, List.append_nil]
 exact h
theorem Tw {o tb g w : Nat} {H : Aa} {cells : List AV} {A : Aa → Option β} {K : Aa → Option β} {r : Option β} (h0 : Ae H 0 o w = some cells) (h1 : Ae H 1 o w = some cells) (hh : Bl g = false) (hfl : cells.all Dp = true) (ht : Bp E0 n tb g [.agg cells, .agg cells] = some (.sc (.bool true))) (h : K H = r) :
  (Di o (.ptr 0 0) fun t5 => Ao true w t5 H fun t6 => Di o (.ptr 1 0) fun t7 => Ao true w t7 H fun t8 => (PR n β).call tb (.fn g [] []) [t6, t8] H fun t H => Vk .not t fun t9 => A7 t9 (A H) (K H)) = r := by
 simp only [Di, Nat.zero_add]
 rw [ldT h0, ldT h1, Do (vs := [.agg cells, .agg cells]) hh (by simp only [List.mapM_cons, (On _ hfl).now]; rfl) ht, B0, List.append_nil]
 exact h
theorem C5 (z : Int) (k : AV → Option β) : An .neq (.sc (.int .i64 z)) (.sc (.int .i64 z)) k = k (.sc (.bool false)) := by
 show k (.sc (.bool (z != z))) = _
 rw [bne_self_eq_false]
theorem Ga (s : ByteArray) (k : AV → Option β) : An .neq (.sc (.string s)) (.sc (.string s)) k = k (.sc (.bool false)) := by
 show k (.sc (.bool (!(s.toList == s.toList)))) = _
 rw [beq_self_eq_true, Bool.not_true]
theorem AaQ (z : Int) (k : AV → Option β) : An .neq (.sc (.int .u8 z)) (.sc (.int .u8 z)) k = k (.sc (.bool false)) := by
 show k (.sc (.bool (z != z))) = _
 rw [bne_self_eq_false]
abbrev As (s : ByteArray) : AV := .ro s.size (Br s)
abbrev H3 (l : List Int) : AV := .ro l.length (l.map fun z => .sc (.int .i64 z))
abbrev Ik (l : List ByteArray) : AV := .ro l.length (l.map fun s => .sc (.string s))
abbrev C0 {α : Type} (enc : α → List AV) (l : List α) : AV := .ro l.length (l.map enc).flatten
def okI (z : Int) : Prop := -9223372036854775808 ≤ z ∧ z ≤ 9223372036854775807
theorem Ln {f : Nat → AV → Prop} {α : Type} (e : α → Value) (hf : ∀ t v, f t (.sc v)) : ∀ (ts : List Nat) (l : List α), ts.length = l.length → B7 f ts (l.map fun x => .sc (e x))
 | [], [], _ => trivial
 | t :: ts, x :: l, h => ⟨hf _ _, Ln e hf ts l (by simpa using h)⟩
 | [], _ :: _, h => by simp at h
 | _ :: _, [], h => by simp at h
theorem Gc {α : Type} {ty d : Nat} (e : α → Value) (hty : ∃ i j, Ad ty = some i ∧ Ad i.elem = some j ∧ j.size = 1 ∧ j.cty.length = 1) (l : List α) : C2 Ad E0.tp (d + 2) ty (.ro l.length (l.map fun x => .sc (e x))) := by
 obtain ⟨i, j, h1, h2, h3, h4⟩ := hty
 exact ⟨i, j, h1, h2, by simp [h3], Ln e (fun _ _ => trivial) _ l (by simp [h4])⟩
theorem C6 {d ty : Nat} (hty : ∃ i j, Ad ty = some i ∧ Ad i.elem = some j ∧ j.size = 1 ∧ j.cty.length = 1) (s : ByteArray) : C2 Ad E0.tp (d + 2) ty (As s) := by
 have := Gc (d := d) (fun b : UInt8 => .int .u8 b.toNat) hty s.data.toList
 have e : s.data.toList.length = s.size := by simp
 rw [e] at this
 exact this
theorem Kr {α : Type} {ty d w : Nat} {cty : List Nat} {enc : α → List AV} (hw : ∀ x, (enc x).length = w) (hty : ∃ i j, Ad ty = some i ∧ Ad i.elem = some j ∧ j.size = w ∧ j.cty = cty) (he : ∀ x, B7 (C2 Ad E0.tp d) cty (enc x)) (l : List α) : C2 Ad E0.tp (d + 1) ty (C0 enc l) := by
 obtain ⟨i, j, h1, h2, h3, rfl⟩ := hty
 exact ⟨i, j, h1, h2, by rw [Ob hw, h3], Lo l fun x _ => he x⟩
theorem Nz {n : Nat} {cs : List AV} (h : Zb Ad n 3 cs) : ∃ z : Int, cs = [.sc (.int .i64 z)] ∧ okI z := by
 cases n with
 | zero => cases h
 | succ n =>
  obtain ⟨i, hi, h⟩ := h
  obtain rfl := Option.some.inj (show some _ = some i from hi)
  obtain ⟨z, h1, h2⟩ := (show ∃ z, cs = [.sc (.int .i64 z)] ∧ (Lit.int .i64 z).wf = true from h)
  refine ⟨z, h1, ?_⟩
  have hw' : IntKind.i64.min ≤ z ∧ z ≤ IntKind.i64.max := by simpa [Lit.wf] using h2
  have e1 : IntKind.i64.min = -9223372036854775808 := by decide
  have e2 : IntKind.i64.max = 9223372036854775807 := by decide
  rw [e1, e2] at hw'
  exact hw'
end
section
open Go
theorem Fw : ∃ i j, Ad 31 = some i ∧ Ad i.elem = some j ∧ j.size = 1 ∧ j.cty.length = 1 := ⟨_, _, rfl, rfl, rfl, rfl⟩
theorem Dv (n : Nat) (hn : 1048576 < n) (tb : Nat) (s : ByteArray) (h : s.size ≤ 1048576) : Bp E0 (n + 1) tb 95 [As s, As s] = some (.sc (.bool true)) := by
 have e : s.data.toList.length = s.size := by simp
 have h0 := L8 (n := n) (fun b : UInt8 => .int .u8 b.toNat) (fun x γ k => AaQ _ k) (fun k => J8 (PR n AV) n k) (fun k m a b i H => rfl) (fun a b H k => Z8 n a b H k) s.data.toList (by rw [e]; exact h) hn tb
 rw [e] at h0
 exact h0
theorem Vy : ∃ i j, Ad 34 = some i ∧ Ad i.elem = some j ∧ j.size = 1 ∧ j.cty.length = 1 := ⟨_, _, rfl, rfl, rfl, rfl⟩
theorem Tu (n : Nat) (hn : 1048576 < n) (tb : Nat) (s : List Int) (h : s.length ≤ 1048576) : Bp E0 (n + 1) tb 38 [H3 s, H3 s] = some (.sc (.bool true)) :=
 L8 (n := n) (fun z : Int => .int .i64 z) (fun x γ k => C5 _ k) (fun k => J5 (PR n AV) n k) (fun k m a b i H => rfl) (fun a b H k => Zz n a b H k) s h hn tb
theorem Lt : ∃ i j, Ad 33 = some i ∧ Ad i.elem = some j ∧ j.size = 1 ∧ j.cty.length = 1 := ⟨_, _, rfl, rfl, rfl, rfl⟩
theorem Nk (n : Nat) (hn : 1048576 < n) (tb : Nat) (s : List ByteArray) (h : s.length ≤ 1048576) : Bp E0 (n + 1) tb 97 [Ik s, Ik s] = some (.sc (.bool true)) :=
 L8 (n := n) (fun s : ByteArray => .string s) (fun x γ k => Ga _ k) (fun k => Ka (PR n AV) n k) (fun k m a b i H => rfl) (fun a b H k => Aaa n a b H k) s h hn tb
structure Om where
 fTopic : ByteArray
 fBody : ByteArray
 fQos : Int
 fRetain : Bool
def D3 (x : Om) : List AV := .sc (.string x.fTopic) :: As x.fBody :: .sc (.int .i64 x.fQos) :: .sc (.bool x.fRetain) :: []
def Ok (x : Om) : Nat := x.fTopic.size + (x.fBody.size + 0)
theorem I6 (x : Om) : (D3 x).all Dp = true := rfl
def L6 : List Nat := [9, 31, 3, 4]
theorem Aaq (d : Nat) (x : Om) : B7 (C2 Ad E0.tp (d + 2)) L6 (D3 x) := ⟨trivial, ⟨C6 (d := d + 0) Fw x.fBody, ⟨trivial, ⟨trivial, trivial⟩⟩⟩⟩
theorem Wj (n : Nat) (hn : 1048576 < n) (tb : Nat) (x : Om) (h : Ok x ≤ 1048576) : Bp E0 (n + 2) tb 154 [.agg (D3 x), .agg (D3 x)] = some (.sc (.bool true)) := by
 rw [Ax, Ws, f154]
 simp only [C4, B5, Bj, Ch, Fj, Dg, Bu]
 rw [D1 _ _ _ (I6 x), D1 _ _ _ (I6 x)]
 simp only [List.length_nil, List.nil_append, List.length_cons, List.cons_append, Nat.zero_add, Nat.reduceAdd]
 refine Cx (v := .string x.fTopic) rfl rfl (fun k => Ga _ k) ?_
 refine Gv rfl rfl rfl (Dv (n + 0) (by omega) _ x.fBody (by unfold Ok at h; omega)) ?_
 refine Cx (v := .int .i64 x.fQos) rfl rfl (fun k => C5 _ k) ?_
 refine Hk (b := x.fRetain) rfl rfl ?_
 rfl
structure Ew where
 fFilter : ByteArray
 fQos : Int
def Bw (x : Ew) : List AV := .sc (.string x.fFilter) :: .sc (.int .i64 x.fQos) :: []
def Eb (x : Ew) : Nat := x.fFilter.size + 0
theorem Mf (x : Ew) : (Bw x).length = 2 := rfl
theorem Pi (x : Ew) : (Bw x).all Dp = true := rfl
def L7 : List Nat := [9, 3]
theorem Ra (d : Nat) (x : Ew) : B7 (C2 Ad E0.tp (d + 1)) L7 (Bw x) := ⟨trivial, ⟨trivial, trivial⟩⟩
theorem Yk : ∃ i j, Ad 32 = some i ∧ Ad i.elem = some j ∧ j.size = 2 ∧ j.cty = L7 := ⟨_, _, rfl, rfl, rfl, rfl⟩
theorem Tv (n : Nat) (hn : 1048576 < n) (tb : Nat) (x : Ew) (h : Eb x ≤ 1048576) : Bp E0 (n + 1) tb 215 [.agg (Bw x), .agg (Bw x)] = some (.sc (.bool true)) := by
 rw [Ax, W4, f215]
 simp only [C4, B5, Bj, Ch, Fj, Dg, Bu]
 rw [D1 _ _ _ (Pi x), D1 _ _ _ (Pi x)]
 simp only [List.length_nil, List.nil_append, List.length_cons, List.cons_append, Nat.zero_add, Nat.reduceAdd]
 refine Cx (v := .string x.fFilter) rfl rfl (fun k => Ga _ k) ?_
 refine Cx (v := .int .i64 x.fQos) rfl rfl (fun k => C5 _ k) ?_
 rfl
theorem Rv (n : Nat) (hn : 1048576 < n) (tb : Nat) (l : List Ew) (h : Td Eb l ≤ 1048576) : Bp E0 (n + 2) tb 96 [C0 Bw l, C0 Bw l] = some (.sc (.bool true)) := by
 have e := Fx Eb l
 exact Nl (n := n + 1) Bw Mf (by decide) Pi rfl (fun k => J9 (PR (n + 1) AV) (n + 1) k) (fun k m a b i H => rfl) (fun a b H k => Z9 (n + 1) a b H k) l (fun x hx => Tv n hn _ x (by have := Ju (wt := Eb) hx; omega)) (by omega) (by omega) tb
structure B6 where
 fType : Int
 fDup : Bool
 fQos : Int
 fRetain : Bool
 fId : Int
 fTopic : ByteArray
 fBody : ByteArray
 fClient : ByteArray
 fLevel : Int
 fClean : Bool
 fKeep : Int
 fHasWill : Bool
 fWTopic : ByteArray
 fWBody : ByteArray
 fWQos : Int
 fWRetain : Bool
 fHasUser : Bool
 fUser : ByteArray
 fHasPass : Bool
 fPass : ByteArray
 fCode : Int
 fPresent : Bool
 fWants : List Ew
 fNames : List ByteArray
 fCodes : List Int
def Ap (x : B6) : List AV := .sc (.int .i64 x.fType) :: .sc (.bool x.fDup) :: .sc (.int .i64 x.fQos) :: .sc (.bool x.fRetain) :: .sc (.int .i64 x.fId) :: .sc (.string x.fTopic) :: As x.fBody :: .sc (.string x.fClient) :: .sc (.int .i64 x.fLevel) :: .sc (.bool x.fClean) :: .sc (.int .i64 x.fKeep) :: .sc (.bool x.fHasWill) :: .sc (.string x.fWTopic) :: As x.fWBody :: .sc (.int .i64 x.fWQos) :: .sc (.bool x.fWRetain) :: .sc (.bool x.fHasUser) :: .sc (.string x.fUser) :: .sc (.bool x.fHasPass) :: As x.fPass :: .sc (.int .i64 x.fCode) :: .sc (.bool x.fPresent) :: C0 Bw x.fWants :: Ik x.fNames :: H3 x.fCodes :: []
def Ba (x : B6) : Nat := x.fTopic.size + (x.fBody.size + (x.fClient.size + (x.fWTopic.size + (x.fWBody.size + (x.fUser.size + (x.fPass.size + (Td Eb x.fWants + (Td ByteArray.size x.fNames + (x.fCodes.length + 0)))))))))
theorem Lk (x : B6) : (Ap x).length = 25 := rfl
theorem Kd (x : B6) : (Ap x).all Dp = true := rfl
def Gi : List Nat := [3, 4, 3, 4, 3, 9, 31, 9, 3, 4, 3, 4, 9, 31, 3, 4, 4, 9, 4, 31, 3, 4, 32, 33, 34]
theorem S2 (d : Nat) (x : B6) : B7 (C2 Ad E0.tp (d + 2)) Gi (Ap x) := ⟨trivial, ⟨trivial, ⟨trivial, ⟨trivial, ⟨trivial, ⟨trivial, ⟨C6 (d := d + 0) Fw x.fBody, ⟨trivial, ⟨trivial, ⟨trivial, ⟨trivial, ⟨trivial, ⟨trivial, ⟨C6 (d := d + 0) Fw x.fWBody, ⟨trivial, ⟨trivial, ⟨trivial, ⟨trivial, ⟨trivial, ⟨C6 (d := d + 0) Fw x.fPass, ⟨trivial, ⟨trivial, ⟨Kr (d := d + 1) Mf Yk (Ra (d + 0)) x.fWants, ⟨Gc (d := d + 0) (fun s : ByteArray => .string s) Lt x.fNames, ⟨Gc (d := d + 0) (fun z : Int => .int .i64 z) Vy x.fCodes, trivial⟩⟩⟩⟩⟩⟩⟩⟩⟩⟩⟩⟩⟩⟩⟩⟩⟩⟩⟩⟩⟩⟩⟩⟩⟩
theorem Tc : ∃ i j, Ad 93 = some i ∧ Ad i.elem = some j ∧ j.size = 25 ∧ j.cty = Gi := ⟨_, _, rfl, rfl, rfl, rfl⟩
theorem O0 (n : Nat) (hn : 1048576 < n) (tb : Nat) (x : B6) (h : Ba x ≤ 1048576) : Bp E0 (n + 3) tb 17 [.agg (Ap x), .agg (Ap x)] = some (.sc (.bool true)) := by
 rw [Ax, Zy, f17]
 simp only [C4, B5, Bj, Ch, Fj, Dg, Bu]
 rw [D1 _ _ _ (Kd x), D1 _ _ _ (Kd x)]
 simp only [List.length_nil, List.nil_append, List.length_cons, List.cons_append, Nat.zero_add, Nat.reduceAdd]
 refine Cx (v := .int .i64 x.fType) rfl rfl (fun k => C5 _ k) ?_
 refine Hk (b := x.fDup) rfl rfl ?_
 refine Cx (v := .int .i64 x.fQos) rfl rfl (fun k => C5 _ k) ?_
 refine Hk (b := x.fRetain) rfl rfl ?_
 refine Cx (v := .int .i64 x.fId) rfl rfl (fun k => C5 _ k) ?_
 refine Cx (v := .string x.fTopic) rfl rfl (fun k => Ga _ k) ?_
 refine Gv rfl rfl rfl (Dv (n + 1) (by omega) _ x.fBody (by unfold Ba at h; omega)) ?_
 refine Cx (v := .string x.fClient) rfl rfl (fun k => Ga _ k) ?_
 refine Cx (v := .int .i64 x.fLevel) rfl rfl (fun k => C5 _ k) ?_
 refine Hk (b := x.fClean) rfl rfl ?_
 refine Cx (v := .int .i64 x.fKeep) rfl rfl (fun k => C5 _ k) ?_
 refine Hk (b := x.fHasWill) rfl rfl ?_
 refine Cx (v := .string x.fWTopic) rfl rfl (fun k => Ga _ k) ?_
 refine Gv rfl rfl rfl (Dv (n + 1) (by omega) _ x.fWBody (by unfold Ba at h; omega)) ?_
 refine Cx (v := .int .i64 x.fWQos) rfl rfl (fun k => C5 _ k) ?_
 refine Hk (b := x.fWRetain) rfl rfl ?_
 refine Hk (b := x.fHasUser) rfl rfl ?_
 refine Cx (v := .string x.fUser) rfl rfl (fun k => Ga _ k) ?_
 refine Hk (b := x.fHasPass) rfl rfl ?_
 refine Gv rfl rfl rfl (Dv (n + 1) (by omega) _ x.fPass (by unfold Ba at h; omega)) ?_
 refine Cx (v := .int .i64 x.fCode) rfl rfl (fun k => C5 _ k) ?_
 refine Hk (b := x.fPresent) rfl rfl ?_
 refine Gv rfl rfl rfl (Rv (n + 0) (by omega) _ x.fWants (by unfold Ba at h; omega)) ?_
 refine Gv rfl rfl rfl (Nk (n + 1) (by omega) _ x.fNames (by unfold Ba at h; have := Fx ByteArray.size x.fNames; omega)) ?_
 refine Gv rfl rfl rfl (Tu (n + 1) (by omega) _ x.fCodes (by unfold Ba at h; omega)) ?_
 rfl
theorem Nj (n : Nat) (hn : 1048576 < n) (tb : Nat) (l : List B6) (h : Td Ba l ≤ 1048576) : Bp E0 (n + 4) tb 158 [C0 Ap l, C0 Ap l] = some (.sc (.bool true)) := by
 have e := Fx Ba l
 exact Nl (n := n + 3) Ap Lk (by decide) Kd rfl (fun k => Ht (PR (n + 3) AV) (n + 3) k) (fun k m a b i H => rfl) (fun a b H k => Ww (n + 3) a b H k) l (fun x hx => O0 n hn _ x (by have := Ju (wt := Ba) hx; omega)) (by omega) (by omega) tb
structure Jv where
 fHeld : ByteArray
 fBad : Bool
def En (x : Jv) : List AV := As x.fHeld :: .sc (.bool x.fBad) :: []
def Oj (x : Jv) : Nat := x.fHeld.size + 0
theorem Kc (x : Jv) : (En x).all Dp = true := rfl
def L5 : List Nat := [31, 4]
theorem Aap (d : Nat) (x : Jv) : B7 (C2 Ad E0.tp (d + 2)) L5 (En x) := ⟨C6 (d := d + 0) Fw x.fHeld, ⟨trivial, trivial⟩⟩
theorem Wi (n : Nat) (hn : 1048576 < n) (tb : Nat) (x : Jv) (h : Oj x ≤ 1048576) : Bp E0 (n + 2) tb 157 [.agg (En x), .agg (En x)] = some (.sc (.bool true)) := by
 rw [Ax, Wv, f157]
 simp only [C4, B5, Bj, Ch, Fj, Dg, Bu]
 rw [D1 _ _ _ (Kc x), D1 _ _ _ (Kc x)]
 simp only [List.length_nil, List.nil_append, List.length_cons, List.cons_append, Nat.zero_add, Nat.reduceAdd]
 refine Gv rfl rfl rfl (Dv (n + 0) (by omega) _ x.fHeld (by unfold Oj at h; omega)) ?_
 refine Hk (b := x.fBad) rfl rfl ?_
 rfl
structure Df where
 fOpen : Bool
 fGen : Int
 fB : Jv
 fPend : List B6
 fUp : Bool
 fClient : ByteArray
 fKeep : Int
 fLast : Int
 fHasWill : Bool
 fW : Om
 fGone : Bool
 fOut : ByteArray
def A3 (x : Df) : List AV := .sc (.bool x.fOpen) :: .sc (.int .i64 x.fGen) :: (En x.fB ++ C0 Ap x.fPend :: .sc (.bool x.fUp) :: .sc (.string x.fClient) :: .sc (.int .i64 x.fKeep) :: .sc (.int .i64 x.fLast) :: .sc (.bool x.fHasWill) :: (D3 x.fW ++ .sc (.bool x.fGone) :: As x.fOut :: []))
def Ea (x : Df) : Nat := Oj x.fB + (Td Ba x.fPend + (x.fClient.size + (Ok x.fW + (x.fOut.size + 0))))
theorem Db (x : Df) : (A3 x).length = 16 := rfl
theorem Fn (x : Df) : (A3 x).all Dp = true := rfl
def Jo : List Nat := [4, 3, 31, 4, 93, 4, 9, 3, 3, 4, 9, 31, 3, 4, 4, 31]
theorem Qd : ∃ i, Ad 95 = some i ∧ i.cty = Jo := ⟨_, rfl, rfl⟩
theorem Gq (d : Nat) (x : Df) : B7 (C2 Ad E0.tp (d + 3)) Jo (A3 x) := ⟨trivial, ⟨trivial, Ek (ts := L5) (ts' := [93, 4, 9, 3, 3, 4, 9, 31, 3, 4, 4, 31]) (Aap (d + 1) x.fB) ⟨Kr (d := d + 2) Lk Tc (S2 (d + 0)) x.fPend, ⟨trivial, ⟨trivial, ⟨trivial, ⟨trivial, ⟨trivial, Ek (ts := L6) (ts' := [4, 31]) (Aaq (d + 1) x.fW) ⟨trivial, ⟨C6 (d := d + 1) Fw x.fOut, trivial⟩⟩⟩⟩⟩⟩⟩⟩⟩⟩
theorem Ni (n : Nat) (hn : 1048576 < n) (tb : Nat) (x : Df) (h : Ea x ≤ 1048576) : Bp E0 (n + 5) tb 48 [.agg (A3 x), .agg (A3 x)] = some (.sc (.bool true)) := by
 rw [Ax, Z4, f48]
 simp only [C4, B5, Bj, Ch, Fj, Dg, Bu]
 rw [D1 _ _ _ (Fn x), D1 _ _ _ (Fn x)]
 simp only [List.length_nil, List.nil_append, List.length_cons, List.cons_append, Nat.zero_add, Nat.reduceAdd]
 refine Hk (b := x.fOpen) rfl rfl ?_
 refine Cx (v := .int .i64 x.fGen) rfl rfl (fun k => C5 _ k) ?_
 refine Tw (cells := En x.fB) rfl rfl rfl (Kc _) (Wi (n + 2) (by omega) _ x.fB (by unfold Ea at h; omega)) ?_
 refine Gv rfl rfl rfl (Nj (n + 0) (by omega) _ x.fPend (by unfold Ea at h; omega)) ?_
 refine Hk (b := x.fUp) rfl rfl ?_
 refine Cx (v := .string x.fClient) rfl rfl (fun k => Ga _ k) ?_
 refine Cx (v := .int .i64 x.fKeep) rfl rfl (fun k => C5 _ k) ?_
 refine Cx (v := .int .i64 x.fLast) rfl rfl (fun k => C5 _ k) ?_
 refine Hk (b := x.fHasWill) rfl rfl ?_
 refine Tw (cells := D3 x.fW) rfl rfl rfl (I6 _) (Wj (n + 2) (by omega) _ x.fW (by unfold Ea at h; omega)) ?_
 refine Hk (b := x.fGone) rfl rfl ?_
 refine Gv rfl rfl rfl (Dv (n + 3) (by omega) _ x.fOut (by unfold Ea at h; omega)) ?_
 rfl
end
section
open Go
variable {β : Type} {n : Nat} {H : Aa} {r : Option β}
theorem Qe : ([] : List AV).mapM (Au H 8) = some [] := rfl
theorem El {x v : AV} {xs vs : List AV} (h : Vw H x v) (hs : xs.mapM (Au H 8) = some vs) : (x :: xs).mapM (Au H 8) = some (v :: vs) := by
 simp only [List.mapM_cons, h.now, hs, Option.pure_def, Option.bind_eq_bind, Option.bind_some]
theorem E2 {i : Nat} {b : C3} (h : H[i]? = some b) (X : List C3) : (H ++ X)[i]? = some b := by
 rw [List.getElem?_append_left (List.getElem?_eq_some_iff.1 h).1]
 exact h
theorem Kl {i w : Nat} {cs : List AV} {K : AV → Option β} (hi : H[i]? = some ⟨cs, true, true⟩) (hw : cs.length = w) (h : K (.agg cs) = r) : Ao true w (.ptr i 0) H (fun x => K x) = r := by
 have e : Ae H i 0 w = some cs := by
  simp only [Ae, hi, if_true, List.drop_zero, Nat.zero_add, ← hw, Nat.le_refl, List.take_length]
 rw [ldT e]
 exact h
theorem Y9 {ty f : Nat} {args vs : List AV} {v : Value} {K : KO β} (hh : Bl f = false) (hv : args.mapM (Au H 8) = some vs) (ht : Bp E0 n ty f vs = some (.sc v)) (h : K (.sc v) H = r) : (PR n β).call ty (.fn f [] []) args H (fun x H => K x H) = r := by
 rw [Do hh hv ht, B0, List.append_nil]
 exact h
theorem Za (a b : Int) (k : AV → Option β) : An .neq (.sc (.int .i64 a)) (.sc (.int .i64 b)) k = k (.sc (.bool (a != b))) := rfl
theorem AaP (a b : Int) (k : AV → Option β) : An .leq (.sc (.int .i64 a)) (.sc (.int .i64 b)) k = k (.sc (.bool (decide (a ≤ b)))) := rfl
theorem AaM (a b : Int) (k : AV → Option β) : An .gtr (.sc (.int .i64 a)) (.sc (.int .i64 b)) k = k (.sc (.bool (decide (a > b)))) := rfl
theorem Ab3 (a b : ByteArray) (k : AV → Option β) : An .neq (.sc (.string a)) (.sc (.string b)) k = k (.sc (.bool (!(a.toList == b.toList)))) := rfl
theorem Ab2 (a b : Bool) (k : AV → Option β) : G0 .neq (.sc (.bool a)) (.sc (.bool b)) k = k (.sc (.bool (!(a == b)))) := rfl
theorem AaR (ty : Nat) (H : Aa) (v : Value) : A6 Ad E0.tp ty H (.sc v) = some (.sc v) := rfl
end
section
open Go
section
variable {β : Type} {n : Nat} {H : Aa} {r : Option β} {K : AV → Option β} {KH : KO β}
theorem Gt {g : Prop} (b : Bool) (ht : b = true → g) (hf : b = false → g) : g := by
 cases h : b
 ·exact hf h
 ·exact ht h
theorem Tg {ty : Nat} {f : FuncId} {caps args vs : List AV} {t : AV} {k : KO β} (hh : Bl f = false) (hv : (args ++ caps).mapM (Au H 8) = some vs) (ht : Bp E0 n ty f vs = some t) :
  (PR n β).call ty (.fn f [] caps) args H k = k (Ag Ad E0.tp H.length ty t).1 (H ++ (Ag Ad E0.tp H.length ty t).2) := by
 show Gu E0 (Be E0 n) ty f ([] ++ args ++ caps) H k = _
 simp only [Gu, Lr hh, N8 hh, List.nil_append, Bool.false_eq_true, if_false, M9, hv, Option.bind_some]
 have ht : Ix E0 (Be E0 n) ty f vs = some t := ht
 rw [ht]
 rfl
theorem nT {b : Bool} (h : b = false) : (!b) = true := by rw [h]; rfl
theorem nF {b : Bool} (h : b = true) : (!b) = false := by rw [h]; rfl
end
end
section
open Go
theorem M7 (n : Nat) (ty : Nat) (s t : ByteArray) : Bp E0 (n + 1) ty 183 [As s, As t] = some (.sc (.bool (s.toList == t.toList))) := by
 rw [Ax, W3, f183]
 have e : ∀ u : ByteArray, Bn [] 1 (.ro u.size (Br u)) = some (Br u) := by
  intro u
  simp [Bn, I4]
 have eb : ∀ u : ByteArray, (Br u).mapM F5 = some u.data.toList := fun u => Fl _
 simp only [Wb, Ch, Jd, e, eb, Option.bind_some, An, L0]
 simp
end
section
open Go
section own
variable {ti : Nat → Option TI} {tp : Nat → Option (List Nat)}
theorem Dx {f : Nat → AV → Option (AV × List Nat)} {t : Nat} {ts : List Nat} {x : AV} {xs : List AV} {p : List AV × List Nat} (h : Bb f (t :: ts) (x :: xs) = some p) :
  ∃ a b, f t x = some a ∧ Bb f ts xs = some b ∧ p = (a.1 :: b.1, a.2 ++ b.2) := by
 simp only [Bb, Option.bind_eq_some_iff] at h
 obtain ⟨a, h1, b, h2, h3⟩ := h
 exact ⟨a, b, h1, h2, (Option.some.inj h3).symm⟩
theorem Fa {f : Nat → AV → Option (AV × List Nat)} {ts : List Nat} {p : List AV × List Nat} (h : Bb f ts [] = some p) : ts = [] ∧ p = ([], []) := by
 cases ts with
 | nil => exact ⟨rfl, (Option.some.inj h).symm⟩
 | cons t ts => simp [Bb] at h
theorem N2 {f : Nat → AV → Option (AV × List Nat)} : ∀ {ts : List Nat} {xs : List AV} {p : List AV × List Nat}, Bb f ts xs = some p → ts.length = xs.length ∧ p.1.length = xs.length
 | ts, [], p, h => by
  obtain ⟨rfl, rfl⟩ := Fa h
  exact ⟨rfl, rfl⟩
 | [], _ :: _, p, h => by simp [Bb] at h
 | t :: ts, x :: xs, p, h => by
  obtain ⟨a, b, h1, h2, rfl⟩ := Dx h
  obtain ⟨e1, e2⟩ := N2 h2
  simp [e1, e2]
theorem Jc {f : Nat → AV → Option (AV × List Nat)} : ∀ {ts us : List Nat} {xs ys : List AV} {p q : List AV × List Nat}, Bb f ts xs = some p → Bb f us ys = some q → Bb f (ts ++ us) (xs ++ ys) = some (p.1 ++ q.1, p.2 ++ q.2)
 | ts, us, [], ys, p, q, h, h' => by
  obtain ⟨rfl, rfl⟩ := Fa h
  exact h'
 | [], _, _ :: _, _, _, _, h, _ => by simp [Bb] at h
 | t :: ts, us, x :: xs, ys, p, q, h, h' => by
  obtain ⟨a, b, h1, h2, rfl⟩ := Dx h
  have ih := Jc h2 h'
  rw [List.cons_append, List.cons_append, Bb, h1, Option.bind_some, ih]
  simp
theorem D6 {f f' : Nat → AV → Option (AV × List Nat)} : ∀ {ts : List Nat} {xs : List AV} {p : List AV × List Nat}, (∀ t x a, f t x = some a → (∀ i ∈ a.2, i ∈ p.2) → f' t x = some a) → Bb f ts xs = some p → Bb f' ts xs = some p
 | ts, [], p, _, h => by
  obtain ⟨rfl, rfl⟩ := Fa h
  rfl
 | [], _ :: _, p, _, h => by simp [Bb] at h
 | t :: ts, x :: xs, p, hf, h => by
  obtain ⟨a, b, h1, h2, rfl⟩ := Dx h
  have e1 := hf t x a h1 fun i hi => List.mem_append_left _ hi
  have e2 := D6 (f' := f') (fun t x a' h hi => hf t x a' h fun i hi' => List.mem_append_right _ (hi i hi')) h2
  rw [Bb, e1, Option.bind_some, e2]
  rfl
theorem Cg {H H' : Aa} : ∀ (d ty : Nat) (x : AV) (p : AV × List Nat), A0 ti tp H d ty x = some p → (∀ i ∈ p.2, H'[i]? = H[i]?) → A0 ti tp H' d ty x = some p
 | 0, _, _, _, h, _ => by simp [A0] at h
 | d + 1, ty, x, p, h, hs => by
  cases x with
  | sc v => exact h
  | nl => exact h
  | sl id off n z =>
   rw [Ib] at h ⊢
   simp only [Option.bind_eq_some_iff] at h
   obtain ⟨i, h1, j, h2, h3⟩ := h
   split at h3
   case isFalse => cases h3
   rename_i hz
   split at h3
   case isFalse => cases h3
   rename_i ha
   simp only [Option.bind_eq_some_iff] at h3
   obtain ⟨cs, h4, q, h5, h6⟩ := h3
   obtain rfl := (Option.some.inj h6).symm
   have hid := hs id List.mem_cons_self
   have e1 : Gz H' id = true := by simpa only [Gz, hid] using ha
   have e2 : Ae H' id off (n * z) = some cs := by simpa only [Ae, hid] using h4
   have e3 := D6 (f' := A0 ti tp H' d) (fun t x a h hi => Cg d t x a h fun i' hi' => hs i' (List.mem_cons_of_mem _ (hi i' hi'))) h5
   simp only [h1, h2, Option.bind_some, hz, if_true, e1, e3]
   rw [hz] at e2
   rw [e2]
   simp only [Option.bind_some, e3]
  | agg cs =>
   rw [D7] at h ⊢
   simp only [Option.bind_eq_some_iff] at h
   obtain ⟨i, h1, q, h2, h3⟩ := h
   obtain rfl := (Option.some.inj h3).symm
   have e3 := D6 (f' := A0 ti tp H' d) (fun t x a h hi => Cg d t x a h fun i' hi' => hs i' (hi i' hi')) h2
   rw [h1, Option.bind_some, e3]
   rfl
  | tup cs =>
   rw [Fb] at h ⊢
   simp only [Option.bind_eq_some_iff] at h
   obtain ⟨i, h1, q, h2, h3⟩ := h
   obtain rfl := (Option.some.inj h3).symm
   have e3 := D6 (f' := A0 ti tp H' d) (fun t x a h hi => Cg d t x a h fun i' hi' => hs i' (hi i' hi')) h2
   rw [h1, Option.bind_some, e3]
   rfl
  | _ => simp [A0] at h
theorem Ia {f : Nat → AV → Option (AV × List Nat)} {N : Nat} : ∀ {ts : List Nat} {xs : List AV} {p : List AV × List Nat}, (∀ t x a, f t x = some a → ∀ i ∈ a.2, i < N) → Bb f ts xs = some p → ∀ i ∈ p.2, i < N
 | ts, [], p, _, h => by
  obtain ⟨rfl, rfl⟩ := Fa h
  intro i hi
  cases hi
 | [], _ :: _, p, _, h => by simp [Bb] at h
 | t :: ts, x :: xs, p, hf, h => by
  obtain ⟨a, b, h1, h2, rfl⟩ := Dx h
  intro i hi
  rcases List.mem_append.1 hi with hi | hi
  ·exact hf t x a h1 i hi
  ·exact Ia hf h2 i hi
theorem Ha {H : Aa} : ∀ (d ty : Nat) (x : AV) (p : AV × List Nat), A0 ti tp H d ty x = some p → ∀ i ∈ p.2, i < H.length
 | 0, _, _, _, h => by simp [A0] at h
 | d + 1, ty, x, p, h => by
  cases x with
  | sc v =>
   obtain rfl := (Option.some.inj h).symm
   intro i hi
   cases hi
  | nl =>
   obtain rfl := (Option.some.inj h).symm
   intro i hi
   cases hi
  | sl id off n z =>
   rw [Ib] at h
   simp only [Option.bind_eq_some_iff] at h
   obtain ⟨i, h1, j, h2, h3⟩ := h
   split at h3
   case isFalse => cases h3
   split at h3
   case isFalse => cases h3
   rename_i ha
   simp only [Option.bind_eq_some_iff] at h3
   obtain ⟨cs, h4, q, h5, h6⟩ := h3
   obtain rfl := (Option.some.inj h6).symm
   intro i' hi'
   rcases List.mem_cons.1 hi' with rfl | hi'
   ·unfold Gz at ha
    cases hg : H[i']? with
    | none => rw [hg] at ha; cases ha
    | some b => exact (List.getElem?_eq_some_iff.1 hg).1
   ·exact Ia (fun t x a h => Ha d t x a h) h5 i' hi'
  | agg cs =>
   rw [D7] at h
   simp only [Option.bind_eq_some_iff] at h
   obtain ⟨i, h1, q, h2, h3⟩ := h
   obtain rfl := (Option.some.inj h3).symm
   exact Ia (fun t x a h => Ha d t x a h) h2
  | tup cs =>
   rw [Fb] at h
   simp only [Option.bind_eq_some_iff] at h
   obtain ⟨i, h1, q, h2, h3⟩ := h
   obtain rfl := (Option.some.inj h3).symm
   exact Ia (fun t x a h => Ha d t x a h) h2
  | _ => simp [A0] at h
end own
def OwnC (d : Nat) (H : Aa) (ts : List Nat) (raw cells : List AV) (ids : List Nat) : Prop := Bb (A0 Ad E0.tp H d) ts raw = some (cells, ids)
theorem OwnC.frame {d : Nat} {H H' : Aa} {ts : List Nat} {raw cells : List AV} {ids : List Nat} (h : OwnC d H ts raw cells ids) (hs : ∀ i ∈ ids, H'[i]? = H[i]?) : OwnC d H' ts raw cells ids :=
 D6 (fun t x a h hi => Cg d t x a h fun i hi' => hs i (hi i hi')) h
theorem OwnC.lt {d : Nat} {H : Aa} {ts : List Nat} {raw cells : List AV} {ids : List Nat} (h : OwnC d H ts raw cells ids) : ∀ i ∈ ids, i < H.length := Ia (fun t x a h => Ha d t x a h) h
theorem OwnC.grow {d : Nat} {H : Aa} {ts : List Nat} {raw cells : List AV} {ids : List Nat} (h : OwnC d H ts raw cells ids) (X : List C3) : OwnC d (H ++ X) ts raw cells ids :=
 h.frame fun i hi => List.getElem?_append_left (h.lt i hi)
theorem OwnC.append {d : Nat} {H : Aa} {ts us : List Nat} {raw raw' cells cells' : List AV} {ids ids' : List Nat} (h : OwnC d H ts raw cells ids) (h' : OwnC d H us raw' cells' ids') : OwnC d H (ts ++ us) (raw ++ raw') (cells ++ cells') (ids ++ ids') := Jc h h'
theorem OwnC.len {d : Nat} {H : Aa} {ts : List Nat} {raw cells : List AV} {ids : List Nat} (h : OwnC d H ts raw cells ids) : ts.length = raw.length ∧ cells.length = raw.length := N2 h
def OwnS (d : Nat) (H : Aa) (w : Nat) (cty : List Nat) (x : AV) (k : Nat) (cells : List AV) : Prop :=
 (x = .nl ∧ k = 0 ∧ cells = []) ∨ ∃ id raw ids, x = .sl id 0 k w ∧ H[id]? = some ⟨raw, true, true⟩ ∧ raw.length = k * w ∧ OwnC d H (List.replicate k cty).flatten raw cells ids ∧ (id :: ids).Nodup
theorem OwnS.nil (d : Nat) (H : Aa) (w : Nat) (cty : List Nat) : OwnS d H w cty .nl 0 [] := .inl ⟨rfl, rfl, rfl⟩
theorem OwnS.grow {d : Nat} {H : Aa} {w : Nat} {cty : List Nat} {x : AV} {k : Nat} {cells : List AV} (h : OwnS d H w cty x k cells) (X : List C3) : OwnS d (H ++ X) w cty x k cells := by
 rcases h with h | ⟨id, raw, ids, h1, h2, h3, h4, h5⟩
 ·exact .inl h
 ·exact .inr ⟨id, raw, ids, h1, by rw [List.getElem?_append_left (List.getElem?_eq_some_iff.1 h2).1]; exact h2, h3, h4.grow X, h5⟩
variable {β : Type} {n : Nat} {r : Option β}
theorem Vq (A : Aa) (b b' : C3) (R : Aa) : (A ++ b :: R).set A.length b' = A ++ b' :: R := by
 rw [List.set_append_right _ _ (Nat.le_refl _), Nat.sub_self]
 rfl
theorem Kg (A : Aa) (b : C3) (R : Aa) : (A ++ b :: R)[A.length]? = some b := by
 rw [List.getElem?_append_right (Nat.le_refl _), Nat.sub_self]
 rfl
end
section
open Go
section
variable {ti : Nat → Option TI} {tp : Nat → Option (List Nat)} {H : Aa}
theorem Gf {d d' : Nat} (hd : ∀ ty x t I, A0 ti tp H d ty x = some (t, I) → C2 ti tp d' ty t → A0 ti tp H d' ty x = some (t, I)) : ∀ (ts : List Nat) (xs cells : List AV) (I : List Nat), Bb (A0 ti tp H d) ts xs = some (cells, I) → B7 (C2 ti tp d') ts cells → Bb (A0 ti tp H d') ts xs = some (cells, I)
 | ts, [], cells, I, h, _ => by
  obtain ⟨rfl, e⟩ := Fa h
  cases e
  rfl
 | [], _ :: _, _, _, h, _ => by simp [Bb] at h
 | t :: ts, x :: xs, cells, I, h, ho => by
  obtain ⟨a, b, h1, h2, e⟩ := Dx h
  cases e
  have e1 := hd t x a.1 a.2 h1 ho.1
  have e2 := Gf hd ts xs b.1 b.2 h2 ho.2
  rw [Bb, e1, Option.bind_some, e2]
  rfl
theorem Dr : ∀ (d d' ty : Nat) (x t : AV) (I : List Nat), A0 ti tp H d ty x = some (t, I) → C2 ti tp d' ty t → A0 ti tp H d' ty x = some (t, I)
 | 0, _, _, _, _, _, h, _ => by simp [A0] at h
 | d + 1, 0, _, _, _, _, _, ho => by cases ho
 | d + 1, d' + 1, ty, x, t, I, h, ho => by
  cases x with
  | sc v =>
   obtain ⟨rfl, rfl⟩ : AV.sc v = t ∧ [] = I := by simpa [A0] using h
   rfl
  | nl =>
   obtain ⟨rfl, rfl⟩ : AV.ro 0 [] = t ∧ [] = I := by simpa [A0] using h
   rfl
  | sl id off n z =>
   rw [Ib] at h ⊢
   simp only [Option.bind_eq_some_iff] at h
   obtain ⟨i, h1, j, h2, h3⟩ := h
   split at h3
   case isFalse => cases h3
   rename_i hz
   split at h3
   case isFalse => cases h3
   rename_i ha
   simp only [Option.bind_eq_some_iff] at h3
   obtain ⟨cs, h4, q, h5, h6⟩ := h3
   obtain ⟨rfl, rfl⟩ : AV.ro n q.1 = t ∧ id :: q.2 = I := by simpa using h6
   obtain ⟨i', j', g1, g2, g3, g4⟩ := ho
   rw [h1] at g1
   cases g1
   rw [h2] at g2
   cases g2
   have e3 := Gf (fun ty x t I h ho => Dr d d' ty x t I h ho) _ _ _ _ h5 g4
   rw [hz] at h4
   simp only [h1, h2, Option.bind_some, hz, if_true, ha, h4, e3]
  | agg cs =>
   rw [D7] at h ⊢
   simp only [Option.bind_eq_some_iff] at h
   obtain ⟨i, h1, q, h2, h3⟩ := h
   obtain ⟨rfl, rfl⟩ : AV.agg q.1 = t ∧ q.2 = I := by simpa using h3
   obtain ⟨i', g1, g2⟩ := ho
   rw [h1] at g1
   cases g1
   have e3 := Gf (fun ty x t I h ho => Dr d d' ty x t I h ho) _ _ _ _ h2 g2
   rw [h1, Option.bind_some, e3]
   rfl
  | tup cs =>
   rw [Fb] at h ⊢
   simp only [Option.bind_eq_some_iff] at h
   obtain ⟨i, h1, q, h2, h3⟩ := h
   obtain ⟨rfl, rfl⟩ : AV.tup q.1 = t ∧ q.2 = I := by simpa using h3
   obtain ⟨i', g1, g2⟩ := ho
   rw [h1] at g1
   cases g1
   have e3 := Gf (fun ty x t I h ho => Dr d d' ty x t I h ho) _ _ _ _ h2 g2
   rw [h1, Option.bind_some, e3]
   rfl
  | _ => simp [A0] at h
theorem Lp {d : Nat} (hd : ∀ ty x t I, A0 ti tp H d ty x = some (t, I) → Au H d x = some t) : ∀ (ts : List Nat) (xs cells : List AV) (I : List Nat), Bb (A0 ti tp H d) ts xs = some (cells, I) → xs.mapM (Au H d) = some cells
 | ts, [], cells, I, h => by
  obtain ⟨rfl, e⟩ := Fa h
  cases e
  rfl
 | [], _ :: _, _, _, h => by simp [Bb] at h
 | t :: ts, x :: xs, cells, I, h => by
  obtain ⟨a, b, h1, h2, e⟩ := Dx h
  cases e
  simp only [List.mapM_cons, hd t x a.1 a.2 h1, Lp hd ts xs b.1 b.2 h2, Option.pure_def, Option.bind_eq_bind, Option.bind_some]
theorem Gg : ∀ (d ty : Nat) (x t : AV) (I : List Nat), A0 ti tp H d ty x = some (t, I) → Au H d x = some t
 | 0, _, _, _, _, h => by simp [A0] at h
 | d + 1, ty, x, t, I, h => by
  have ih := Lp (ti := ti) (tp := tp) (H := H) (d := d) (fun ty x t I h => Gg d ty x t I h)
  cases x with
  | sc v =>
   obtain ⟨rfl, rfl⟩ : AV.sc v = t ∧ [] = I := by simpa [A0] using h
   rfl
  | nl =>
   obtain ⟨rfl, rfl⟩ : AV.ro 0 [] = t ∧ [] = I := by simpa [A0] using h
   rfl
  | sl id off n z =>
   rw [Ib] at h
   simp only [Option.bind_eq_some_iff] at h
   obtain ⟨i, h1, j, h2, h3⟩ := h
   split at h3
   case isFalse => cases h3
   split at h3
   case isFalse => cases h3
   simp only [Option.bind_eq_some_iff] at h3
   obtain ⟨cs, h4, q, h5, h6⟩ := h3
   obtain ⟨rfl, rfl⟩ : AV.ro n q.1 = t ∧ id :: q.2 = I := by simpa using h6
   rw [K6, h4, Option.bind_some, ih _ _ _ _ h5]
   rfl
  | agg cs =>
   rw [D7] at h
   simp only [Option.bind_eq_some_iff] at h
   obtain ⟨i, h1, q, h2, h3⟩ := h
   obtain ⟨rfl, rfl⟩ : AV.agg q.1 = t ∧ q.2 = I := by simpa using h3
   rw [Ff, ih _ _ _ _ h2]
   rfl
  | tup cs =>
   rw [Fb] at h
   simp only [Option.bind_eq_some_iff] at h
   obtain ⟨i, h1, q, h2, h3⟩ := h
   obtain ⟨rfl, rfl⟩ : AV.tup q.1 = t ∧ q.2 = I := by simpa using h3
   show (cs.mapM (Au H d)).bind _ = _
   rw [ih _ _ _ _ h2]
   rfl
  | _ => simp [A0] at h
theorem E9 {f g : Nat → AV → Prop} (hfg : ∀ t x, f t x → g t x) : ∀ {ts : List Nat} {cs : List AV}, B7 f ts cs → B7 g ts cs
 | [], [], h => h
 | _ :: ts, _ :: cs, h => ⟨hfg _ _ h.1, E9 hfg h.2⟩
theorem H9 : ∀ (d ty : Nat) (x : AV), C2 ti tp d ty x → C2 ti tp (d + 1) ty x
 | 0, _, _, h => by cases h
 | d + 1, ty, x, h => by
  cases x with
  | sc v => trivial
  | ro n cells =>
   obtain ⟨i, j, h1, h2, h3, h4⟩ := h
   exact ⟨i, j, h1, h2, h3, E9 (H9 d) h4⟩
  | agg cs =>
   obtain ⟨i, h1, h2⟩ := h
   exact ⟨i, h1, E9 (H9 d) h2⟩
  | tup cs =>
   obtain ⟨i, h1, h2⟩ := h
   exact ⟨i, h1, E9 (H9 d) h2⟩
  | _ => cases h
theorem Kq {d d' ty : Nat} {x : AV} (h : C2 ti tp d ty x) (hd : d ≤ d') : C2 ti tp d' ty x := by
 induction hd with
 | refl => exact h
 | step _ ih => exact H9 _ _ _ ih
theorem X6 {d d' : Nat} {ts : List Nat} {cs : List AV} (h : B7 (C2 ti tp d) ts cs) (hd : d ≤ d') : B7 (C2 ti tp d') ts cs := E9 (fun _ _ h => Kq h hd) h
end
inductive Ck where
 | blk (id : Nat) (cs : List AV) (a : Bool)
 | own (x : AV) (ty : Nat) (t : AV)
 | shr (x : AV) (ty : Nat) (t : AV) (y : AV) (ty' : Nat) (t' : AV)
 | shs (x : AV) (ty : Nat) (t : AV) (ys : List (AV × Nat × AV))
def CkOk (H : Aa) (c : Ck) (I : List Nat) : Prop :=
 match c with
 | .blk id cs a => I = [id] ∧ H[id]? = some ⟨cs, true, a⟩
 | .own x ty t => Am x = true ∧ C2 Ad E0.tp 6 ty t ∧ A0 Ad E0.tp H 6 ty x = some (t, I)
 | .shr x ty t y ty' t' => (Am x = true ∧ C2 Ad E0.tp 6 ty t ∧ A0 Ad E0.tp H 6 ty x = some (t, I)) ∧ C2 Ad E0.tp 6 ty' t' ∧ ∃ J, A0 Ad E0.tp H 6 ty' y = some (t', J) ∧ ∀ i ∈ J, i ∈ I
 | .shs x ty t ys => (Am x = true ∧ C2 Ad E0.tp 6 ty t ∧ A0 Ad E0.tp H 6 ty x = some (t, I)) ∧ ∀ q ∈ ys, C2 Ad E0.tp 6 q.2.1 q.2.2 ∧ ∃ J, A0 Ad E0.tp H 6 q.2.1 q.1 = some (q.2.2, J) ∧ ∀ i ∈ J, i ∈ I
def SepI (H : Aa) : List Ck → List Nat → Prop
 | [], I => I = []
 | c :: L, I => ∃ J R, I = J ++ R ∧ CkOk H c J ∧ SepI H L R
def Sep (H : Aa) (L : List Ck) : Prop := ∃ I, SepI H L I ∧ I.Nodup
inductive Pk : List Ck → Ck → List Ck → Prop
 | here {c : Ck} {L : List Ck} : Pk (c :: L) c L
 | there {a c : Ck} {L L' : List Ck} : Pk L c L' → Pk (a :: L) c (a :: L')
section
variable {H H' : Aa} {L L' L1 L2 : List Ck} {c : Ck} {I J R : List Nat}
theorem Dc : Sep H [] := ⟨[], rfl, List.nodup_nil⟩
theorem CkOk.frame (h : CkOk H c I) (hs : ∀ i ∈ I, H'[i]? = H[i]?) : CkOk H' c I := by
 cases c with
 | blk id cs a =>
  obtain ⟨rfl, h2⟩ := h
  exact ⟨rfl, by rw [hs id (by simp)]; exact h2⟩
 | own x ty t => exact ⟨h.1, h.2.1, Cg 6 ty x _ h.2.2 hs⟩
 | shr x ty t y ty' t' =>
  obtain ⟨⟨h1, h2, h3⟩, h4, J, h5, h6⟩ := h
  exact ⟨⟨h1, h2, Cg 6 ty x _ h3 hs⟩, h4, J, Cg 6 ty' y _ h5 fun i hi => hs i (h6 i hi), h6⟩
 | shs x ty t ys =>
  obtain ⟨⟨h1, h2, h3⟩, h4⟩ := h
  exact ⟨⟨h1, h2, Cg 6 ty x _ h3 hs⟩, fun q hq => by
   obtain ⟨g1, J, g2, g3⟩ := h4 q hq
   exact ⟨g1, J, Cg 6 _ _ _ g2 fun i hi => hs i (g3 i hi), g3⟩⟩
theorem CkOk.lt (h : CkOk H c I) : ∀ i ∈ I, i < H.length := by
 cases c with
 | blk id cs a =>
  obtain ⟨rfl, h2⟩ := h
  intro i hi
  rw [List.mem_singleton] at hi
  subst hi
  exact (List.getElem?_eq_some_iff.1 h2).1
 | own x ty t => exact Ha 6 ty x _ h.2.2
 | shr x ty t y ty' t' => exact Ha 6 ty x _ h.1.2.2
 | shs x ty t ys => exact Ha 6 ty x _ h.1.2.2
theorem SepI.frame : ∀ {L : List Ck} {I : List Nat}, SepI H L I → (∀ i ∈ I, H'[i]? = H[i]?) → SepI H' L I
 | [], I, h, _ => h
 | c :: L, I, h, hs => by
  obtain ⟨J, R, rfl, h1, h2⟩ := h
  exact ⟨J, R, rfl, h1.frame fun i hi => hs i (List.mem_append_left _ hi), h2.frame fun i hi => hs i (List.mem_append_right _ hi)⟩
theorem SepI.lt : ∀ {L : List Ck} {I : List Nat}, SepI H L I → ∀ i ∈ I, i < H.length
 | [], I, h => by
  cases (show I = [] from h)
  intro i hi
  cases hi
 | c :: L, I, h => by
  obtain ⟨J, R, rfl, h1, h2⟩ := h
  intro i hi
  rcases List.mem_append.1 hi with hi | hi
  ·exact h1.lt i hi
  ·exact h2.lt i hi
theorem SepI.grow (h : SepI H L I) (X : List C3) : SepI (H ++ X) L I := h.frame fun i hi => List.getElem?_append_left (h.lt i hi)
theorem Sep.grow (h : Sep H L) (X : List C3) : Sep (H ++ X) L := by
 obtain ⟨I, h1, h2⟩ := h
 exact ⟨I, h1.grow X, h2⟩
theorem Sep.new {X : List C3} (hs : Sep H L) (hc : CkOk (H ++ X) c J) (hJ : J.Nodup) (hge : ∀ i ∈ J, H.length ≤ i) : Sep (H ++ X) (c :: L) := by
 obtain ⟨I, h1, h2⟩ := hs
 refine ⟨J ++ I, ⟨J, I, rfl, hc, h1.grow X⟩, List.nodup_append.2 ⟨hJ, h2, fun a ha b hb e => ?_⟩⟩
 have := h1.lt b hb
 have := hge a ha
 omega
theorem Pk.sepI : ∀ {L L' : List Ck} {c : Ck} {I : List Nat}, Pk L c L' → SepI H L I → ∃ J R, CkOk H c J ∧ SepI H L' R ∧ I.Perm (J ++ R)
 | _, _, _, _, .here, h => by
  obtain ⟨J, R, rfl, h1, h2⟩ := h
  exact ⟨J, R, h1, h2, List.Perm.refl _⟩
 | _, _, _, _, .there p, h => by
  obtain ⟨J, R, rfl, h1, h2⟩ := h
  obtain ⟨J', R', g1, g2, g3⟩ := p.sepI h2
  refine ⟨J', J ++ R', g1, ⟨J, R', rfl, h1, g2⟩, ?_⟩
  refine (List.Perm.append_left J g3).trans ?_
  rw [← List.append_assoc, ← List.append_assoc]
  exact List.Perm.append_right R' List.perm_append_comm
theorem Sep.pick (h : Sep H L) (p : Pk L c L') : Sep H (c :: L') := by
 obtain ⟨I, h1, h2⟩ := h
 obtain ⟨J, R, g1, g2, g3⟩ := p.sepI h1
 exact ⟨J ++ R, ⟨J, R, rfl, g1, g2⟩, g3.nodup_iff.1 h2⟩
theorem Sep.tail (h : Sep H (c :: L)) : Sep H L := by
 obtain ⟨I, ⟨J, R, rfl, h1, h2⟩, h3⟩ := h
 exact ⟨R, h2, (List.nodup_append.1 h3).2.1⟩
theorem Sep.blk {id : Nat} {cs : List AV} {a : Bool} (h : Sep H L) (p : Pk L (.blk id cs a) L') : H[id]? = some ⟨cs, true, a⟩ := by
 obtain ⟨I, ⟨J, R, rfl, h1, h2⟩, h3⟩ := h.pick p
 exact h1.2
theorem Sep.put {id : Nat} {cs : List AV} {a : Bool} (h : Sep H L) (p : Pk L (.blk id cs a) L') (cs' : List AV) (a' : Bool) : Sep (H.set id ⟨cs', true, a'⟩) (.blk id cs' a' :: L') := by
 obtain ⟨I, ⟨J, R, rfl, ⟨rfl, h1⟩, h2⟩, h3⟩ := h.pick p
 have hn := (List.nodup_cons.1 h3).1
 have hl := (List.getElem?_eq_some_iff.1 h1).1
 refine ⟨[id] ++ R, ⟨[id], R, rfl, ⟨rfl, by rw [List.getElem?_set_self hl]⟩, h2.frame fun i hi => ?_⟩, h3⟩
 rw [List.getElem?_set_ne]
 rintro rfl
 exact hn hi
theorem Sep.own {x t : AV} {ty : Nat} (h : Sep H L) (p : Pk L (.own x ty t) L') : Am x = true ∧ C2 Ad E0.tp 6 ty t ∧ ∃ I, A0 Ad E0.tp H 6 ty x = some (t, I) ∧ I.Nodup := by
 obtain ⟨I, ⟨J, R, rfl, ⟨h0, h1, h1'⟩, h2⟩, h3⟩ := h.pick p
 exact ⟨h0, h1, J, h1', (List.nodup_append.1 h3).1⟩
theorem Sep.seen {x t y t' : AV} {ty ty' : Nat} (h : Sep H L) (p : Pk L (.shr x ty t y ty' t') L') : C2 Ad E0.tp 6 ty' t' ∧ ∃ I, A0 Ad E0.tp H 6 ty' y = some (t', I) := by
 obtain ⟨I, ⟨J, R, rfl, ⟨h0, h1, J', h1', h3⟩, h2⟩, h4⟩ := h.pick p
 exact ⟨h1, J', h1'⟩
theorem Sep.ofShs {x t : AV} {ty : Nat} {ys : List (AV × Nat × AV)} (h : Sep H L) (p : Pk L (.shs x ty t ys) L') : Sep H (.own x ty t :: L') := by
 obtain ⟨I, ⟨J, R, rfl, ⟨h0, _⟩, h2⟩, h3⟩ := h.pick p
 exact ⟨J ++ R, ⟨J, R, rfl, h0, h2⟩, h3⟩
theorem Sep.seenS {x t : AV} {ty k : Nat} {ys : List (AV × Nat × AV)} {q : AV × Nat × AV} (h : Sep H L) (p : Pk L (.shs x ty t ys) L') (hk : ys[k]? = some q) : C2 Ad E0.tp 6 q.2.1 q.2.2 ∧ ∃ I, A0 Ad E0.tp H 6 q.2.1 q.1 = some (q.2.2, I) := by
 obtain ⟨I, ⟨J, R, rfl, ⟨h0, h1⟩, h2⟩, h4⟩ := h.pick p
 obtain ⟨g1, J', g2, _⟩ := h1 q (List.mem_of_getElem? hk)
 exact ⟨g1, J', g2⟩
theorem Sep.nl {ty : Nat} (h : Sep H L) (hty : ∃ i j, Ad ty = some i ∧ Ad i.elem = some j) : Sep H (.own .nl ty (.ro 0 []) :: L) := by
 obtain ⟨I, h1, h2⟩ := h
 obtain ⟨i, j, e1, e2⟩ := hty
 exact ⟨[] ++ I, ⟨[], I, rfl, ⟨rfl, ⟨i, j, e1, e2, by simp, by simp [B7]⟩, rfl⟩, h1⟩, h2⟩
inductive OwnR : List Ck → List AV → List Nat → List AV → List Ck → Prop
 | nil {L : List Ck} : OwnR L [] [] [] L
 | sc {L L' : List Ck} {v : Value} {raw cells : List AV} {ty : Nat} {tys : List Nat} : OwnR L raw tys cells L' → OwnR L (.sc v :: raw) (ty :: tys) (.sc v :: cells) L'
 | nl {L L' : List Ck} {raw cells : List AV} {ty : Nat} {tys : List Nat} : OwnR L raw tys cells L' → OwnR L (.nl :: raw) (ty :: tys) (.ro 0 [] :: cells) L'
 | own {L L1 L' : List Ck} {x t : AV} {raw cells : List AV} {ty : Nat} {tys : List Nat} : Pk L (.own x ty t) L1 → OwnR L1 raw tys cells L' → OwnR L (x :: raw) (ty :: tys) (t :: cells) L'
 | agg {L L1 L' : List Ck} {cs ts raw cells : List AV} {ty : Nat} {tys cty : List Nat} : (∃ i, Ad ty = some i ∧ i.cty = cty) → OwnR L cs cty ts L1 → OwnR L1 raw tys cells L' → OwnR L (.agg cs :: raw) (ty :: tys) (.agg ts :: cells) L'
theorem OwnR.sound : ∀ {L L' : List Ck} {raw cells : List AV} {tys : List Nat} {I : List Nat}, OwnR L raw tys cells L' → SepI H L I → ∀ d, B7 (C2 Ad E0.tp d) tys cells → ∃ J R, Bb (A0 Ad E0.tp H d) tys raw = some (cells, J) ∧ SepI H L' R ∧ I.Perm (J ++ R)
 | _, _, _, _, _, I, .nil, h, d, _ => ⟨[], I, rfl, h, List.Perm.refl _⟩
 | _, _, _, _, _, I, .sc q, h, d + 1, ho => by
  obtain ⟨J, R, h1, h2, h3⟩ := q.sound h (d + 1) ho.2
  refine ⟨J, R, ?_, h2, h3⟩
  rw [Bb, X9, Option.bind_some, h1]
  rfl
 | _, _, _, _, _, I, .nl q, h, d + 1, ho => by
  obtain ⟨J, R, h1, h2, h3⟩ := q.sound h (d + 1) ho.2
  refine ⟨J, R, ?_, h2, h3⟩
  rw [Bb, show A0 Ad E0.tp H (d + 1) _ .nl = some (.ro 0 [], []) from rfl, Option.bind_some, h1]
  rfl
 | _, _, _, _, _, I, .own p q, h, d, ho => by
  obtain ⟨J1, R1, g1, g2, g3⟩ := p.sepI h
  obtain ⟨J, R, h1, h2, h3⟩ := q.sound g2 d ho.2
  have e := Dr 6 d _ _ _ _ g1.2.2 ho.1
  refine ⟨J1 ++ J, R, ?_, h2, ?_⟩
  ·rw [Bb, e, Option.bind_some, h1]
   rfl
  ·refine g3.trans ?_
   rw [List.append_assoc]
   exact List.Perm.append_left J1 h3
 | _, _, _, _, _, I, .agg hty p q, h, d + 1, ho => by
  obtain ⟨i, e1, rfl⟩ := hty
  obtain ⟨i', g1, g2⟩ := ho.1
  rw [e1] at g1
  cases g1
  obtain ⟨J1, R1, a1, a2, a3⟩ := p.sound h (d + 1) (X6 g2 (Nat.le_succ d))
  obtain ⟨J, R, h1, h2, h3⟩ := q.sound a2 (d + 1) ho.2
  have a1' := Gf (fun ty x t I h ho => Dr (d + 1) d ty x t I h ho) _ _ _ _ a1 g2
  refine ⟨J1 ++ J, R, ?_, h2, ?_⟩
  ·rw [Bb, D7, e1, Option.bind_some, a1', Option.bind_some, Option.bind_some, h1]
   rfl
  ·refine a3.trans ?_
   rw [List.append_assoc]
   exact List.Perm.append_left J1 h3
 | _, _, _, _, _, I, .sc q, h, 0, ho => by cases ho.1
 | _, _, _, _, _, I, .nl q, h, 0, ho => by cases ho.1
 | _, _, _, _, _, I, .agg _ p q, h, 0, ho => by cases ho.1
end
end
section
open Go
theorem Ze {a0 x : Ck} {L : List Ck} : Pk (a0 :: x :: L) x (a0 :: L) := .there (.here)
theorem zP7 {a0 a1 a2 a3 a4 a5 a6 x : Ck} {L : List Ck} : Pk (a0 :: a1 :: a2 :: a3 :: a4 :: a5 :: a6 :: x :: L) x (a0 :: a1 :: a2 :: a3 :: a4 :: a5 :: a6 :: L) := .there (.there (.there (.there (.there (.there (.there (.here)))))))
def Gd {β : Type} (G : Option β → Prop) (o : Option β) : Prop := G o
section
variable {β : Type} {n : Nat} {H : Aa} {L L' L1 L2 : List Ck} {G : Option β → Prop} {K : AV → Option β} {KH : KO β}
theorem Fo {a b : Option β} (e : a = b) (h : Gd G b) : Gd G a := by rw [e]; exact h
theorem Kf {cs : List AV} (hs : Sep H L) (h : ∀ i H', Sep H' (.blk i cs true :: L) → Gd G (KH (.ptr i 0) H')) : Gd G (Mk cs H fun x H => KH x H) :=
 h _ _ (hs.new (J := [H.length]) ⟨rfl, by rw [List.getElem?_append_right (Nat.le_refl _), Nat.sub_self]; rfl⟩ (by simp) (by simp))
theorem I7 {x : AV} {cs : List AV} (hs : Sep H L) (hc : Bv x = some cs) (h : ∀ i H', Sep H' (.blk i cs true :: L) → Gd G (KH (.ptr i 0) H')) : Gd G (Mj x H fun x H => KH x H) := by
 refine Fo (b := Mk cs H fun x H => KH x H) ?_ (Kf hs h)
 show (Bv x).bind _ = _
 rw [hc]
 rfl
theorem Dh {cs : List AV} (h : cs.all Dp = true) : Bv (.agg cs) = some cs := Np h
theorem Cr {cs : List AV} (h : cs.all Am = true) : Bv (.agg cs) = some cs := by
 show (if cs.all Am then some cs else none) = _
 rw [if_pos h]
theorem Af {x : AV} {xs : List AV} (h : Am x = true) (hs : xs.all Am = true) : (x :: xs).all Am = true := by
 rw [List.all_cons, h, hs]
 rfl
theorem Ci {i o : Nat} {cs : List AV} {a : Bool} {c : AV} (hs : Sep H L) (hp : Pk L (.blk i cs a) L1) (hc : cs[o]? = some c) (h : Gd G (K c)) : Gd G (Ao false 1 (.ptr i o) H fun x => K x) := by
 refine Fo ?_ h
 obtain ⟨hlt, he⟩ := List.getElem?_eq_some_iff.1 hc
 have e : Ae H i o 1 = some [c] := by
  simp only [Ae, hs.blk hp, if_true]
  rw [if_pos (by omega), List.drop_eq_getElem_cons hlt, he]
  rfl
 exact V6 e _
theorem Nr {i o w : Nat} {cs ds : List AV} {a : Bool} (hs : Sep H L) (hp : Pk L (.blk i cs a) L1) (hl : o + w ≤ cs.length) (hc : (cs.drop o).take w = ds) (h : Gd G (K (.agg ds))) : Gd G (Ao true w (.ptr i o) H fun x => K x) := by
 refine Fo ?_ h
 have e : Ae H i o w = some ds := by
  simp only [Ae, hs.blk hp, if_true]
  rw [if_pos hl, hc]
 exact ldT e _
theorem Gw {i w : Nat} {cs : List AV} {a : Bool} (hs : Sep H L) (hp : Pk L (.blk i cs a) L1) (hl : cs.length = w) (h : Gd G (K (.agg cs))) : Gd G (Ao true w (.ptr i 0) H fun x => K x) :=
 Nr hs hp (by omega) (by rw [List.drop_zero, ← hl, List.take_length]) h
theorem Nt {i o w : Nat} {cs cs' ds : List AV} {a : Bool} {y : AV} {KS : Aa → Option β} (hs : Sep H L) (hp : Pk L (.blk i cs a) L1) (hy : Bv y = some ds) (hd : ds.length = w) (hl : o + w ≤ cs.length) (hc : B4 cs o ds = cs') (h : ∀ H', Sep H' (.blk i cs' a :: L1) → Gd G (KS H')) : Gd G (Cb w (.ptr i o) y H fun H => KS H) := by
 have hb := hs.blk hp
 refine Fo (Vs w i o y ⟨cs, true, a⟩ ds H _ hb hy hd hl rfl) ?_
 have := hs.put hp cs' a
 rw [← hc] at this
 exact h _ (by rw [← hc]; exact this)
theorem Aq {o i off o' : Nat} (e : off + o = o') (h : Gd G (K (.ptr i o'))) : Gd G (Di o (.ptr i off) fun x => K x) := by subst e; exact h
theorem Io {zs cs : List AV} {ps : List (Nat × Nat × AV)} {KL : List AV → Option β} (hf : Eg zs ps = some cs) (h : Gd G (KL cs)) : Gd G ((Eg zs ps).bind fun c => KL c) := by
 rw [hf]
 exact h
theorem Pm {i : Nat} {vs : List AV} {v : AV} (hv : vs[i]? = some v) (h : Gd G (K v)) : Gd G (N5 (.tup vs) i fun x => K x) := by
 refine Fo ?_ h
 show (vs[i]?).bind _ = _
 rw [hv]
 rfl
theorem I9 {m : Nat} {cs : List AV} (h : Gd G (K (.sc (.int .i64 m)))) : Gd G (Fc (.ro m cs) fun x => K x) := h
theorem Aac {op : BinOp} {x y v : AV} (e : ∀ k : AV → Option β, G0 op x y k = k v) (h : Gd G (K v)) : Gd G (G0 op x y fun t => K t) := Fo (e _) h
theorem I8 {a b : Int} (h : Gd G (K (.sc (.bool (decide (a = b)))))) : Gd G (An .eql (.sc (.int .i64 a)) (.sc (.int .i64 b)) fun t => K t) := h
theorem Q3 {a b : Int} (h : Gd G (K (.sc (.bool (decide (a < b)))))) : Gd G (An .lss (.sc (.int .i64 a)) (.sc (.int .i64 b)) fun t => K t) := h
theorem AaL {a b : Int} (h : Gd G (K (.sc (.bool (decide (a ≤ b)))))) : Gd G (An .leq (.sc (.int .i64 a)) (.sc (.int .i64 b)) fun t => K t) := h
theorem AaK {a b : Int} (h : Gd G (K (.sc (.bool (decide (b < a)))))) : Gd G (An .gtr (.sc (.int .i64 a)) (.sc (.int .i64 b)) fun t => K t) := h
theorem Y6 {a b : Int} (h : Gd G (K (.sc (.bool (decide (b ≤ a)))))) : Gd G (An .geq (.sc (.int .i64 a)) (.sc (.int .i64 b)) fun t => K t) := h
theorem Mb {a b : ByteArray} (h : Gd G (K (.sc (.bool (a.toList == b.toList))))) : Gd G (An .eql (.sc (.string a)) (.sc (.string b)) fun t => K t) := h
theorem Gx {b : Bool} (h : Gd G (K (.sc (.bool (!b))))) : Gd G (Vk .not (.sc (.bool b)) fun t => K t) := h
theorem Nq {b : Bool} {x y : Option β} (hb : b = true) (h : Gd G x) : Gd G (A7 (.sc (.bool b)) x y) := by subst hb; exact h
theorem Pj {b : Bool} {x y : Option β} (hb : b = false) (h : Gd G y) : Gd G (A7 (.sc (.bool b)) x y) := by subst hb; exact h
theorem Ay {b t : Bool} {m : (KO β) → Option β} (hb : b = t) (h : Gd G (m fun x H => KH x H)) : Gd G (Ft (.sc (.bool b)) t H m fun x H => KH x H) := by
 subst hb
 cases b <;> exact h
theorem Cv {b t : Bool} {m : (KO β) → Option β} (hb : b = !t) (h : Gd G (KH (.sc undef) H)) : Gd G (Ft (.sc (.bool b)) t H m fun x H => KH x H) := by
 subst hb
 cases t <;> exact h
theorem AaJ {t : Bool} {m : (KO β) → Option β} (h : Gd G (KH (.sc undef) H)) : Gd G (Ft (.sc undef) t H m fun x H => KH x H) := h
theorem E5 {b : Bool} {x y : AV} (hb : b = true) (h : Gd G (K x)) : Gd G (N6 (.sc (.bool b)) x y fun t => K t) := by
 subst hb
 cases x <;> cases y <;> exact h
theorem Ns {b : Bool} {x y : AV} (hb : b = false) (h : Gd G (K y)) : Gd G (N6 (.sc (.bool b)) x y fun t => K t) := by
 subst hb
 cases x <;> cases y <;> exact h
inductive VwC (L : List Ck) : Nat → AV → AV → Prop
 | sc {d : Nat} {v : Value} : VwC L (d + 1) (.sc v) (.sc v)
 | nl {d : Nat} : VwC L (d + 1) .nl (.ro 0 [])
 | ro {d n : Nat} {cs : List AV} : VwC L (d + 1) (.ro n cs) (.ro n cs)
 | rp {d : Nat} {cs : List AV} : VwC L (d + 1) (.rp cs) (.rp cs)
 | own {d : Nat} {x t : AV} {ty : Nat} {L' : List Ck} : 6 ≤ d → Pk L (.own x ty t) L' → VwC L d x t
 | shr {d : Nat} {x t y t' : AV} {ty ty' : Nat} {L' : List Ck} : 6 ≤ d → Pk L (.shr x ty t y ty' t') L' → VwC L d y t'
 | shsE {d k : Nat} {x t y t' : AV} {ty ty' : Nat} {ys : List (AV × Nat × AV)} {L' : List Ck} : 6 ≤ d → Pk L (.shs x ty t ys) L' → ys[k]? = some (y, ty', t') → VwC L d y t'
 | shsO {d : Nat} {x t : AV} {ty : Nat} {ys : List (AV × Nat × AV)} {L' : List Ck} : 6 ≤ d → Pk L (.shs x ty t ys) L' → VwC L d x t
end
inductive VwL (L : List Ck) : Nat → List AV → List AV → Prop
 | nil {d : Nat} : VwL L d [] []
 | cons {d : Nat} {x t : AV} {xs ts : List AV} : VwC L d x t → VwL L d xs ts → VwL L d (x :: xs) (t :: ts)
 | agg {d : Nat} {cs ds xs ts : List AV} : VwL L d cs ds → VwL L (d + 1) xs ts → VwL L (d + 1) (.agg cs :: xs) (.agg ds :: ts)
 | aggF {d : Nat} {cs xs ts : List AV} : cs.all Dp = true → VwL L (d + 2) xs ts → VwL L (d + 2) (.agg cs :: xs) (.agg cs :: ts)
 | sl {d i k w : Nat} {cs ds xs ts : List AV} {a : Bool} {L' : List Ck} : Pk L (.blk i cs a) L' → cs.length = k * w → VwL L d cs ds → VwL L (d + 1) xs ts → VwL L (d + 1) (.sl i 0 k w :: xs) (.ro k ds :: ts)
 | slA {d i o k w : Nat} {cs ds xs ts : List AV} {a : Bool} {L' : List Ck} : Pk L (.blk i cs a) L' → o + k * w ≤ cs.length → VwL L d ((cs.drop o).take (k * w)) ds → VwL L (d + 1) xs ts → VwL L (d + 1) (.sl i o k w :: xs) (.ro k ds :: ts)
 | ptr {d i : Nat} {cs ds xs ts : List AV} {a : Bool} {L' : List Ck} : Pk L (.blk i cs a) L' → VwL L d cs ds → VwL L (d + 1) xs ts → VwL L (d + 1) (.ptr i 0 :: xs) (.rp ds :: ts)
 | fn {d f : Nat} {ps cs ps' cs' xs ts : List AV} : VwL L d ps ps' → VwL L d cs cs' → VwL L (d + 1) xs ts → VwL L (d + 1) (.fn f ps cs :: xs) (.fn f ps' cs' :: ts)
section
variable {β : Type} {n : Nat} {H : Aa} {L L' L1 L2 : List Ck} {G : Option β → Prop} {K : AV → Option β} {KH : KO β}
theorem VwC.sound (hs : Sep H L) {d : Nat} {x t : AV} (h : VwC L d x t) : Au H d x = some t := by
 cases h with
 | sc => rfl
 | nl => rfl
 | ro => rfl
 | rp => rfl
 | own hd hp =>
  obtain ⟨_, h1, I, h2, _⟩ := hs.own hp
  exact Gg d _ _ _ I (Dr 6 d _ _ _ _ h2 (Kq h1 hd))
 | shr hd hp =>
  obtain ⟨h1, I, h2⟩ := hs.seen hp
  exact Gg d _ _ _ I (Dr 6 d _ _ _ _ h2 (Kq h1 hd))
 | shsE hd hp hk =>
  obtain ⟨h1, I, h2⟩ := hs.seenS hp hk
  exact Gg d _ _ _ I (Dr 6 d _ _ _ _ h2 (Kq h1 hd))
 | shsO hd hp =>
  obtain ⟨_, h1, I, h2, _⟩ := (hs.ofShs hp).own .here
  exact Gg d _ _ _ I (Dr 6 d _ _ _ _ h2 (Kq h1 hd))
theorem C7 {d : Nat} {x t : AV} {xs ts : List AV} (h : Au H d x = some t) (hs : xs.mapM (Au H d) = some ts) : (x :: xs).mapM (Au H d) = some (t :: ts) := by
 simp only [List.mapM_cons, h, hs, Option.pure_def, Option.bind_eq_bind, Option.bind_some]
theorem VwL.sound (hs : Sep H L) : ∀ {d : Nat} {xs ts : List AV}, VwL L d xs ts → xs.mapM (Au H d) = some ts
 | _, _, _, .nil => rfl
 | _, _, _, .cons h q => C7 (h.sound hs) (q.sound hs)
 | _, _, _, .agg h q => C7 (by rw [Ff, h.sound hs]; rfl) (q.sound hs)
 | _, _, _, .aggF h q => C7 (by rw [Ff, Ma h]; rfl) (q.sound hs)
 | _, _, _, .sl (i := i) (k := k) (w := w) (cs := cs) hp hl h q => C7 (by
   rw [K6]
   have hb := hs.blk hp
   have e : Ae H i 0 (k * w) = some cs := by
    simp only [Ae, hb, if_true, List.drop_zero, Nat.zero_add, ← hl, Nat.le_refl, List.take_length]
   rw [e, Option.bind_some, h.sound hs]
   rfl) (q.sound hs)
 | _, _, _, .slA (i := i) (o := o) (k := k) (w := w) (cs := cs) hp hl h q => C7 (by
   rw [K6]
   have hb := hs.blk hp
   have e : Ae H i o (k * w) = some ((cs.drop o).take (k * w)) := by
    simp only [Ae, hb, if_true, hl]
   rw [e, Option.bind_some, h.sound hs]
   rfl) (q.sound hs)
 | _, _, _, .ptr (i := i) (cs := cs) hp h q => C7 (by
   have hb := hs.blk hp
   show ((H[i]?).bind fun b => (Ae H i 0 (b.cells.length - 0)).bind fun cs => (cs.mapM (Au H _)).bind fun vs => some (AV.rp vs)) = _
   rw [hb, Option.bind_some]
   have e : Ae H i 0 (cs.length - 0) = some cs := by
    simp only [Ae, hb, if_true, List.drop_zero, Nat.zero_add, Nat.sub_zero, Nat.le_refl, List.take_length]
   show (Ae H i 0 (cs.length - 0)).bind _ = _
   rw [e, Option.bind_some, h.sound hs]
   rfl) (q.sound hs)
 | _, _, _, .fn (d := d) (ps := ps) (cs := cs) h1 h2 q => C7 (by
   show ((ps.mapM (Au H d)).bind fun us => (cs.mapM (Au H d)).bind fun ws => some (AV.fn _ us ws)) = _
   rw [h1.sound hs, Option.bind_some, h2.sound hs]
   rfl) (q.sound hs)
theorem Q2 {ty : Nat} {f : FuncId} {caps args vs : List AV} {t : AV} (hs : Sep H L) (hh : Bl f = false) (hv : VwL L 8 (args ++ caps) vs) (ht : Bp E0 n ty f vs = some t) (h : Gd G (KH (Ag Ad E0.tp H.length ty t).1 (H ++ (Ag Ad E0.tp H.length ty t).2))) : Gd G ((PR n β).call ty (.fn f [] caps) args H fun x H => KH x H) := Fo (Tg hh (hv.sound hs) ht) h
theorem Eh {ty : Nat} {f : FuncId} {args vs : List AV} {v : Value} (hs : Sep H L) (hh : Bl f = false) (hv : VwL L 8 args vs) (ht : Bp E0 n ty f vs = some (.sc v)) (h : Gd G (KH (.sc v) H)) : Gd G ((PR n β).call ty (.fn f [] []) args H fun x H => KH x H) := by
 refine Q2 hs hh (by rw [List.append_nil]; exact hv) ht ?_
 rw [B0, List.append_nil]
 exact h
theorem U0 {ty m : Nat} {cells : List AV} (hs : Sep H L) (hok : C2 Ad E0.tp 6 ty (.ro m cells)) : Am (Ag Ad E0.tp H.length ty (.ro m cells)).1 = true ∧ Sep (H ++ (Ag Ad E0.tp H.length ty (.ro m cells)).2) (.own (Ag Ad E0.tp H.length ty (.ro m cells)).1 ty (.ro m cells) :: L) := by
 have hl : Am (Ag Ad E0.tp H.length ty (.ro m cells)).1 = true := rfl
 refine ⟨hl, hs.new (J := List.range' H.length (Ag Ad E0.tp H.length ty (.ro m cells)).2.length) ⟨hl, hok, Kt 6 ty _ H.length hok (Mz _ _)⟩ List.nodup_range' fun i hi => ?_⟩
 rw [List.mem_range'_1] at hi
 exact hi.1
def InsL (ts : List Nat) (cs : List AV) (Φ : List AV → List Ck → Prop) : Prop := ∀ (H : Aa) (L : List Ck), Sep H L → ∃ xs Lx, xs = (Ab Ad E0.tp H.length ts cs).1 ∧ Sep (H ++ (Ab Ad E0.tp H.length ts cs).2) (Lx ++ L) ∧ Φ xs Lx
theorem Q4 {ts : List Nat} : InsL ts [] fun xs Lx => xs = [] ∧ Lx = [] := fun H L hs => ⟨[], [], rfl, by simpa [Ab] using hs, rfl, rfl⟩
theorem Bo {ts : List Nat} {v : Value} {cs : List AV} {Φ : List AV → List Ck → Prop} (h : InsL ts.tail cs Φ) : InsL ts (.sc v :: cs) fun xs Lx => ∃ ys, xs = .sc v :: ys ∧ Φ ys Lx := fun H L hs => by
 obtain ⟨ys, Ly, e1, e2, e3⟩ := h H L hs
 refine ⟨.sc v :: ys, Ly, ?_, ?_, ys, rfl, e3⟩
 ·simp only [Ab, B0, List.length_nil, Nat.add_zero]
  rw [e1]
 ·simpa only [Ab, B0, List.length_nil, Nat.add_zero, List.nil_append] using e2
theorem Ip {ts : List Nat} {m ty : Nat} {cells cs : List AV} {Φ : List AV → List Ck → Prop} (hty : ts.headD 0 = ty) (hok : C2 Ad E0.tp 6 ty (.ro m cells)) (h : InsL ts.tail cs Φ) : InsL ts (.ro m cells :: cs) fun xs Lx => ∃ x ys Ly, Am x = true ∧ xs = x :: ys ∧ Lx = Ly ++ [.own x ty (.ro m cells)] ∧ Φ ys Ly := fun H L hs => by
 subst hty
 obtain ⟨h1, h2⟩ := U0 hs hok
 obtain ⟨ys, Ly, e1, e2, e3⟩ := h _ _ h2
 refine ⟨_ :: ys, Ly ++ [.own _ (ts.headD 0) (.ro m cells)], ?_, ?_, _, ys, Ly, h1, rfl, rfl, e3⟩
 ·simp only [Ab]
  rw [e1, List.length_append]
 ·simp only [Ab]
  rw [List.length_append, List.append_assoc] at e2
  rw [List.append_assoc]
  exact e2
theorem Xq {ts cty : List Nat} {cs rest : List AV} {Φ Ψ : List AV → List Ck → Prop} (hty : ∃ i, Ad (ts.headD 0) = some i ∧ i.cty = cty) (h1 : InsL cty cs Ψ) (h : InsL ts.tail rest Φ) : InsL ts (.agg cs :: rest) fun xs Lx => ∃ ys zs Ly Lz, xs = .agg ys :: zs ∧ Lx = Lz ++ Ly ∧ Ψ ys Ly ∧ Φ zs Lz := fun H L hs => by
 obtain ⟨i, hi, rfl⟩ := hty
 obtain ⟨ys, Ly, a1, a2, a3⟩ := h1 H L hs
 obtain ⟨zs, Lz, b1, b2, b3⟩ := h _ _ a2
 refine ⟨.agg ys :: zs, Lz ++ Ly, ?_, ?_, ys, zs, Ly, Lz, rfl, rfl, a3, b3⟩
 ·simp only [Ab, E7, hi, Option.getD_some]
  rw [a1, b1, List.length_append]
 ·simp only [Ab, E7, hi, Option.getD_some]
  rw [List.length_append, List.append_assoc] at b2
  rw [List.append_assoc]
  exact b2
theorem Xj {ty : Nat} {f : FuncId} {args vs cs : List AV} {tys : List Nat} {Φ : List AV → List Ck → Prop} (hs : Sep H L) (hh : Bl f = false) (hv : VwL L 8 args vs) (ht : Bp E0 n ty f vs = some (.tup cs)) (hty : E0.tp ty = some tys) (hi : InsL tys cs Φ) (h : ∀ xs Lx H', Φ xs Lx → Sep H' (Lx ++ L) → Gd G (KH (.tup xs) H')) : Gd G ((PR n β).call ty (.fn f [] []) args H fun x H => KH x H) := by
 refine Q2 hs hh (by rw [List.append_nil]; exact hv) ht ?_
 obtain ⟨xs, Lx, a1, a2, a3⟩ := hi H L hs
 rw [Li, hty, Option.getD_some, ← a1]
 exact h _ _ _ a3 a2
theorem De {G : Option AV → Prop} {o : Option AV} (h : Gd G o) : G o := h
theorem Ye {ty : Nat} {tys : List Nat} {raw cells : List AV} (hs : Sep H L) (hts : E0.tp ty = some tys) (hr : OwnR L raw tys cells L') (hok : B7 (C2 Ad E0.tp 7) tys cells) : A6 Ad E0.tp ty H (.tup raw) = some (.tup cells) := by
 obtain ⟨I, h1, h2⟩ := hs
 obtain ⟨J, R, g1, g2, g3⟩ := hr.sound h1 7 hok
 have hn := (List.nodup_append.1 (g3.nodup_iff.1 h2)).1
 rw [A6, Fb, hts, Option.bind_some, g1, Option.bind_some, Option.bind_some, if_pos hn]
theorem Js {ty : Nat} {cty : List Nat} {raw cells : List AV} (hs : Sep H L) (hty : ∃ i, Ad ty = some i ∧ i.cty = cty) (hr : OwnR L raw cty cells L') (hok : B7 (C2 Ad E0.tp 7) cty cells) : A6 Ad E0.tp ty H (.agg raw) = some (.agg cells) := by
 obtain ⟨i, e1, rfl⟩ := hty
 obtain ⟨I, h1, h2⟩ := hs
 obtain ⟨J, R, g1, g2, g3⟩ := hr.sound h1 7 hok
 have hn := (List.nodup_append.1 (g3.nodup_iff.1 h2)).1
 rw [A6, D7, e1, Option.bind_some, g1, Option.bind_some, Option.bind_some, if_pos hn]
theorem Dn {G : Option AV → Prop} {ty : Nat} {x t : AV} (e : A6 Ad E0.tp ty H x = some t) (h : G (some t)) : Gd G (A6 Ad E0.tp ty H x) := by
 rw [e]
 exact h
end
end
section
open Go
variable {β : Type}
theorem Ab6 {d ty : Nat} {cty : List Nat} {cs : List AV} (hty : ∃ i, Ad ty = some i ∧ i.cty = cty) (h : B7 (C2 Ad E0.tp d) cty cs) : C2 Ad E0.tp (d + 1) ty (.agg cs) := by
 obtain ⟨i, hi, rfl⟩ := hty
 exact ⟨i, hi, h⟩
theorem Ec {d ty : Nat} (h : ∃ i j, Ad ty = some i ∧ Ad i.elem = some j) : C2 Ad E0.tp (d + 1) ty (.ro 0 []) := by
 obtain ⟨i, j, h1, h2⟩ := h
 exact ⟨i, j, h1, h2, by simp, by simp [B7]⟩
theorem Gd.both {G : Option β → Prop} {a b : Option β} (h1 : Gd G a) (h2 : a = b) : Gd G (Id a b) := by
 rw [Vh rfl h2.symm]
 exact h1
theorem Aao (s : ByteArray) : C2 Ad E0.tp 6 31 (As s) := C6 (d := 4) Fw s
theorem Ab7 (l : List Int) : C2 Ad E0.tp 6 34 (H3 l) := Gc (d := 4) (fun z : Int => .int .i64 z) Vy l
theorem Ab8 (l : List ByteArray) : C2 Ad E0.tp 6 33 (Ik l) := Gc (d := 4) (fun z : ByteArray => .string z) Lt l
theorem X7 (l : List Ew) : C2 Ad E0.tp 6 32 (C0 Bw l) := Kr (d := 5) Mf ⟨_, _, rfl, rfl, rfl, rfl⟩ (Ra 4) l
theorem InsL.mono {ts : List Nat} {cs : List AV} {Φ Ψ : List AV → List Ck → Prop} (h : InsL ts cs Φ) (m : ∀ xs Lx, Φ xs Lx → Ψ xs Lx) : InsL ts cs Ψ := fun H L hs => by
 obtain ⟨xs, Lx, a, b, c⟩ := h H L hs
 exact ⟨xs, Lx, a, b, m _ _ c⟩
theorem Sy (p : B6) : InsL Gi (Ap p) fun xs Lx => ∃ x6 x13 x19 x22 x23 x24 : AV, Am x6 = true ∧ Am x13 = true ∧ Am x19 = true ∧ Am x22 = true ∧ Am x23 = true ∧ Am x24 = true ∧ xs = [.sc (.int .i64 p.fType), .sc (.bool p.fDup), .sc (.int .i64 p.fQos), .sc (.bool p.fRetain), .sc (.int .i64 p.fId), .sc (.string p.fTopic), x6, .sc (.string p.fClient), .sc (.int .i64 p.fLevel), .sc (.bool p.fClean), .sc (.int .i64 p.fKeep), .sc (.bool p.fHasWill), .sc (.string p.fWTopic), x13, .sc (.int .i64 p.fWQos), .sc (.bool p.fWRetain), .sc (.bool p.fHasUser), .sc (.string p.fUser), .sc (.bool p.fHasPass), x19, .sc (.int .i64 p.fCode), .sc (.bool p.fPresent), x22, x23, x24] ∧ Lx = [.own x24 34 (H3 p.fCodes), .own x23 33 (Ik p.fNames), .own x22 32 (C0 Bw p.fWants), .own x19 31 (As p.fPass), .own x13 31 (As p.fWBody), .own x6 31 (As p.fBody)] :=
 InsL.mono (Bo (Bo (Bo (Bo (Bo (Bo (Ip (ty := 31) rfl (Aao p.fBody) (Bo (Bo (Bo (Bo (Bo (Bo (Ip (ty := 31) rfl (Aao p.fWBody) (Bo (Bo (Bo (Bo (Bo (Ip (ty := 31) rfl (Aao p.fPass) (Bo (Bo (Ip (ty := 32) rfl (X7 p.fWants) (Ip (ty := 33) rfl (Ab8 p.fNames) (Ip (ty := 34) rfl (Ab7 p.fCodes) Q4))))))))))))))))))))))))) (by
  rintro _ _ ⟨_, rfl, ⟨_, rfl, ⟨_, rfl, ⟨_, rfl, ⟨_, rfl, ⟨_, rfl, ⟨x6, _, _, l6, rfl, rfl, ⟨_, rfl, ⟨_, rfl, ⟨_, rfl, ⟨_, rfl, ⟨_, rfl, ⟨_, rfl, ⟨x13, _, _, l13, rfl, rfl, ⟨_, rfl, ⟨_, rfl, ⟨_, rfl, ⟨_, rfl, ⟨_, rfl, ⟨x19, _, _, l19, rfl, rfl, ⟨_, rfl, ⟨_, rfl, ⟨x22, _, _, l22, rfl, rfl, ⟨x23, _, _, l23, rfl, rfl, ⟨x24, _, _, l24, rfl, rfl, ⟨rfl, rfl⟩⟩⟩⟩⟩⟩⟩⟩⟩⟩⟩⟩⟩⟩⟩⟩⟩⟩⟩⟩⟩⟩⟩⟩⟩⟩
  exact ⟨x6, x13, x19, x22, x23, x24, l6, l13, l19, l22, l23, l24, rfl, rfl⟩)
end
section
open Go
inductive Sel : List Ck → List Ck → Prop
 | nil {L : List Ck} : Sel L []
 | cons {L L1 L' : List Ck} {c : Ck} : Pk L c L1 → Sel L1 L' → Sel L (c :: L')
 | rest {L : List Ck} : Sel L L
 | skip {L L' : List Ck} {c : Ck} : Sel L L' → Sel (c :: L) L'
section
variable {β : Type} {n : Nat} {H : Aa} {L L' L1 L2 : List Ck} {G : Option β → Prop} {K : AV → Option β} {KH : KO β}
theorem Sep.none (h : Sep H L) : Sep H [] := by
 induction L with
 | nil => exact h
 | cons c L ih => exact ih h.tail
theorem Sel.sepI : ∀ {L L' : List Ck} {I : List Nat}, Sel L L' → SepI H L I → ∃ J X, SepI H L' J ∧ I.Perm (J ++ X)
 | _, _, I, .nil, h => ⟨[], I, rfl, List.Perm.refl _⟩
 | _, _, I, .rest, h => ⟨I, [], h, by simp⟩
 | _, _, I, .skip q, h => by
  obtain ⟨J, R, rfl, g1, g2⟩ := h
  obtain ⟨J', X, e1, e2⟩ := q.sepI g2
  refine ⟨J', J ++ X, e1, ?_⟩
  refine (List.Perm.append_left J e2).trans ?_
  rw [← List.append_assoc, ← List.append_assoc]
  exact List.Perm.append_right X List.perm_append_comm
 | _, _, I, .cons p q, h => by
  obtain ⟨J, R, g1, g2, g3⟩ := p.sepI h
  obtain ⟨J', X, e1, e2⟩ := q.sepI g2
  refine ⟨J ++ J', X, ⟨J, J', rfl, g1, e1⟩, ?_⟩
  rw [List.append_assoc]
  exact g3.trans (List.Perm.append_left J e2)
end
end
section
open Go
section
variable {β : Type} {n : Nat} {H : Aa} {L L' L1 L2 : List Ck} {G : Option β → Prop} {K : AV → Option β} {KH : KO β}
end
end
section
open Go
section
variable {β : Type} {n : Nat} {H : Aa} {L L' L1 L2 : List Ck} {G : Option β → Prop} {K : AV → Option β} {KH : KO β}
end
end
section
open Go
section
variable {β : Type} {n : Nat} {H : Aa} {L L' L1 L2 : List Ck} {G : Option β → Prop} {K : AV → Option β} {KH : KO β}
end
end
section
open Go
section
variable {β : Type} {n : Nat} {H : Aa} {L L1 : List Ck} {G : Option β → Prop} {K : AV → Option β} {KH : KO β}
end
end
end Go.Proofs.YtjiahcekpohehaaGreatDoor.Abs
