/- What the proof needs, part 2: a sound evaluator over trees, the program's functions on it, and what they come to. -/
import Derived.Test.YtlcpigdmekgajaaGreatDoorMra
import Derived.Lib.SplitLaws
import Derived.Lib.IndexAny
import Derived.Lib.ValidLaws
import Derived.Test.YtlcpigdmekgajaaGreatDoorProg
import Derived.KernelRfl
set_option linter.unusedVariables false
set_option linter.unusedSimpArgs false
namespace Go.Proofs.YtlcpigdmekgajaaGreatDoor.Abs
open _root_.Bool renaming false_eq_true → zaa, false_or → zaN
open _root_.List renaming map_cons → zaq, length_singleton → zas, any_cons → zb8, map_map → zbI
open _root_.Nat renaming le_refl → zan, add_zero → zaM, beq → zb3, add_comm → zbD
section
open Go
def lvL : List UInt8 → List UInt8 → List (List UInt8)
 | cur, [] => [cur]
 | cur, b :: l => if b = 47 then cur :: lvL [] l else lvL (cur ++ [b]) l
def ofL (l : List UInt8) : ByteArray := ⟨l.toArray⟩
def Bl (s : ByteArray) : List ByteArray := (lvL [] s.data.toList).map ofL
def Ip (s : ByteArray) (b : UInt8) : Bool := s.data.toList.any fun c => c == b
def vPH (s : ByteArray) : Bool := Ip s 43 || Ip s 35
def Xh : ByteArray := ⟨#[47]⟩
def phB : ByteArray := ⟨#[43, 35]⟩
def O5 (c : List UInt8) : List (List UInt8) → List (List UInt8)
 | [] => [c]
 | h :: t => (c ++ h) :: t
theorem Yf {X : List (List UInt8)} (h : X ≠ []) : O5 [] X = X := by
 cases X with
 | nil => exact absurd rfl h
 | cons h t => rfl
theorem Aav (a b : List UInt8) {X : List (List UInt8)} (h : X ≠ []) : O5 a (O5 b X) = O5 (a ++ b) X := by
 cases X with
 | nil => exact absurd rfl h
 | cons h t => simp [O5]
theorem To (sep : List UInt8) (k : Nat) (l : List UInt8) : Lib.splitK sep 0 k l ≠ [] := by
 cases k with
 | zero => simp [Lib.splitK]
 | succ k =>
  unfold Lib.splitK
  split <;> simp
theorem AgV (l : List UInt8) : Lib.index (47 :: l) [47] = 0 := by
 unfold Lib.index
 simp
theorem AgW (b : UInt8) (l : List UInt8) (h : b ≠ 47) : Lib.index (b :: l) [47] = if Lib.index l [47] == -1 then -1 else Lib.index l [47] + 1 := by
 rw [Lib.index]
 rw [if_neg]
 simpa using fun h' => h h'.symm
theorem Xp (b : UInt8) (h : b ≠ 47) (k : Nat) (l : List UInt8) : Lib.splitK [47] 0 k (b :: l) = O5 [b] (Lib.splitK [47] 0 k l) := by
 cases k with
 | zero => rfl
 | succ k =>
  have hge := Lib.index_ge l [47]
  unfold Lib.splitK
  rw [AgW b l h]
  by_cases hi : Lib.index l [47] = -1
  ·simp [hi, O5]
  ·have e1 : (Lib.index l [47] == -1) = false := by simpa using hi
   have e2 : (Lib.index l [47] + 1 == -1) = false := by simp; omega
   have e3 : (Lib.index l [47] + 1).toNat = (Lib.index l [47]).toNat + 1 := by omega
   simp only [e1, e2, e3, zaa, if_false, O5, zaM, zas]
   rw [show (Lib.index l [47]).toNat + 1 + 1 = ((Lib.index l [47]).toNat + 1) + 1 from rfl, List.drop_succ_cons, List.take_succ_cons]
   rfl
theorem Tb : ∀ (l cur : List UInt8), lvL cur l = O5 cur (Lib.splitK [47] 0 (Lib.count l [47]) l)
 | [], cur => by
  have e : Lib.count [] [47] = 0 := by rw [Lib.count_one]; rfl
  rw [e]
  simp [lvL, Lib.splitK, O5]
 | b :: l, cur => by
  rw [lvL]
  by_cases h : b = 47
  ·subst h
   rw [if_pos rfl, Tb l [], Lib.count_cons_eq, zbD, Lib.splitK, AgV]
   rw [Yf (To _ _ _)]
   simp [O5]
  ·rw [if_neg h, Tb l (cur ++ [b]), Lib.count_cons_ne _ _ _ h, Xp b h, Aav _ _ (To _ _ _)]
theorem AaN (s : ByteArray) : ofL s.data.toList = s := by
 cases s
 rfl
theorem Ajw (l : List ByteArray) : (l.map (·.data.toList)).map ofL = l := by
 rw [zbI]
 conv => rhs; rw [← List.map_id l]
 exact List.map_congr_left fun s _ => AaN s
theorem Sw (s : ByteArray) : Lib.splitB Xh 0 (Lib.countB s Xh) s = Bl s := by
 have h := Lib.splitB_data Xh 0 (Lib.countB s Xh) s
 rw [← Ajw (Lib.splitB Xh 0 (Lib.countB s Xh) s), h, Bl, Tb, Yf (To _ _ _)]
 rfl
theorem AbX (s : ByteArray) : (Bl s).length = Lib.countB s Xh + 1 := by
 rw [← Sw]
 exact Lib.splitB_all Xh (zan _) 0 _ s rfl
theorem R3 (chars : List UInt8) : ∀ l : List UInt8, decide (0 ≤ Lib.indexAny l chars) = l.any fun c => chars.contains c
 | [] => rfl
 | b :: l => by
  have ih := R3 chars l
  have hge := Lib.indexAny_ge chars l
  rw [Lib.indexAny, zb8, ← ih]
  by_cases h : chars.contains b = true
  ·rw [if_pos h, h]
   simp
  ·rw [if_neg h]
   have h' : chars.contains b = false := by simpa using h
   rw [h', zaN]
   by_cases hi : Lib.indexAny l chars = -1
   ·rw [hi]
    rfl
   ·rw [if_neg (by simpa using hi)]
    congr 1
    simp
    omega
theorem Abr {α : Type} (p q : α → Bool) : ∀ l : List α, (l.any fun c => p c || q c) = (l.any p || l.any q)
 | [] => rfl
 | x :: l => by
  rw [zb8, zb8, zb8, Abr p q l]
  cases p x <;> cases q x <;> simp
theorem AlL (s : ByteArray) : Lib.containsAny s.data.toList phB.data.toList = vPH s := by
 unfold Lib.containsAny vPH Ip
 rw [R3, ← Abr]
 congr 1
 funext c
 simp [phB]
 rfl
end
section
open Go
def Pz : Nat → List UInt8 → Bool
 | 0, _ => true
 | n + 1, l => if l = [] then true else if (Lib.decodeL l).1 = 65533 ∧ (Lib.decodeL l).2 = 1 then false else if (Lib.decodeL l).1 = 0 then false else Pz n (l.drop (Lib.decodeL l).2)
def Bo (s : ByteArray) : Bool := decide (s.size ≤ 60) && Pz s.size s.data.toList
def Zm (ty : Nat) (vs : List AV) : Option AV :=
 match vs with
 | [.sc (.string s)] => if s.size ≤ maxLen then some (.sc (.bool (Bo s))) else none
 | _ => none
def Vk (ty : Nat) (vs : List AV) : Option AV :=
 match vs with
 | [.sc (.string s), .sc (.string c)] => if c.data.toList = [43, 35] ∧ s.size < 4294967281 then some (.sc (.bool (vPH s))) else none
 | _ => none
def S3 (ty : Nat) (vs : List AV) : Option AV :=
 match vs with
 | [.sc (.string s), .sc (.string c)] => if ty = 56 ∧ c.data.toList = [47] ∧ s.size < 4294967281 then some (.ro (Bl s).length ((Bl s).map fun x => .sc (.string x))) else none
 | _ => none
end
end Go.Proofs.YtlcpigdmekgajaaGreatDoor.Abs
set_option maxRecDepth 100000
namespace Go.Proofs.YtlcpigdmekgajaaGreatDoor.Abs
open _root_.Bool renaming false_eq_true → zaa, false_or → zaN
open _root_.List renaming map_cons → zaq, length_singleton → zas, any_cons → zb8, map_map → zbI
open _root_.Nat renaming le_refl → zan, add_zero → zaM, beq → zb3, add_comm → zbD
section
open Go
variable {β : Type} (p : Pr β)
noncomputable def tis : List (Option TI) := [none,
 none,
 some ⟨false, false, 1, 8, [(.int .i64 0)], 0, [], some .i64, false, false, [2], false⟩,
 some ⟨false, false, 1, 8, [(.int .i64 0)], 0, [], some .i64, false, false, [3], false⟩,
 some ⟨false, false, 1, 1, [(.bool false)], 0, [], none, false, true, [4], false⟩,
 some ⟨false, false, 1, 1, [(.int .u8 0)], 0, [], some .u8, false, false, [5], false⟩,
 some ⟨false, false, 1, 1, [(.int .u8 0)], 0, [], some .u8, false, false, [6], false⟩,
 none,
 none,
 some ⟨false, false, 1, 16, [(.string ⟨#[]⟩)], 0, [], none, true, false, [9], false⟩,
 some ⟨false, false, 1, 16, [(.string ⟨#[]⟩)], 0, [], none, true, false, [10], false⟩,
 some ⟨false, false, 1, 16, [(.string ⟨#[]⟩)], 0, [], none, true, false, [11], false⟩,
 some ⟨false, false, 1, 8, [(.int .u64 0)], 0, [], some .u64, false, false, [12], false⟩,
 none,
 none,
 none,
 none,
 none,
 none,
 none,
 none,
 some ⟨false, false, 1, 4, [(.int .i32 0)], 0, [], some .i32, false, false, [21], false⟩,
 some ⟨false, true, 1, 24, [(.slice none 0 0)], 5, [], none, false, false, [22], false⟩,
 none,
 none,
 none,
 none,
 none,
 none,
 none,
 none,
 none,
 none,
 some ⟨false, true, 1, 24, [(.slice none 0 0)], 59, [], none, false, false, [33], false⟩,
 none,
 none,
 none,
 none,
 none,
 none,
 some ⟨false, true, 1, 24, [(.slice none 0 0)], 22, [], none, false, false, [40], false⟩,
 none,
 none,
 none,
 none,
 none,
 none,
 none,
 none,
 none,
 none,
 none,
 none,
 none,
 none,
 some ⟨false, true, 1, 24, [(.slice none 0 0)], 105, [], none, false, false, [55], false⟩,
 some ⟨false, true, 1, 24, [(.slice none 0 0)], 9, [], none, false, false, [56], false⟩,
 some ⟨false, true, 1, 24, [(.slice none 0 0)], 3, [], none, false, false, [57], false⟩,
 none,
 some ⟨true, false, 25, 320, [(.int .i64 0), (.bool false), (.int .i64 0), (.bool false), (.int .i64 0), (.string ⟨#[]⟩), (.slice none 0 0), (.string ⟨#[]⟩), (.int .i64 0), (.bool false), (.int .i64 0), (.bool false), (.string ⟨#[]⟩), (.slice none 0 0), (.int .i64 0), (.bool false), (.bool false), (.string ⟨#[]⟩), (.bool false), (.slice none 0 0), (.int .i64 0), (.bool false), (.slice none 0 0), (.slice none 0 0), (.slice none 0 0)], 0, [(0, 3), (1, 4), (2, 3), (3, 4), (4, 3), (5, 9), (6, 22), (7, 9), (8, 3), (9, 4), (10, 3), (11, 4), (12, 9), (13, 22), (14, 3), (15, 4), (16, 4), (17, 9), (18, 4), (19, 22), (20, 3), (21, 4), (22, 55), (23, 56), (24, 57)], none, false, false, [3, 4, 3, 4, 3, 9, 22, 9, 3, 4, 3, 4, 9, 22, 3, 4, 4, 9, 4, 22, 3, 4, 55, 56, 57], false⟩,
 none,
 none,
 none,
 none,
 none,
 none,
 none,
 none,
 none,
 none,
 none,
 none,
 none,
 none,
 none,
 none,
 none,
 none,
 none,
 none,
 none,
 none,
 none,
 none,
 none,
 none,
 none,
 none,
 none,
 none,
 none,
 none,
 none,
 none,
 none,
 none,
 none,
 none,
 none,
 none,
 none,
 none,
 none,
 none,
 none,
 some ⟨true, false, 2, 24, [(.string ⟨#[]⟩), (.int .i64 0)], 0, [(0, 9), (1, 3)], none, false, false, [9, 3], true⟩,
 none,
 none,
 none,
 none,
 none,
 none,
 none,
 none,
 none,
 none,
 none,
 none,
 none,
 some ⟨true, false, 3, 40, [(.slice none 0 0), (.int .i64 0), (.bool false)], 0, [(0, 22), (1, 3), (2, 4)], none, false, false, [22, 3, 4], false⟩]
noncomputable def Bj (f : Func) : Code := match f.body with | some c => c | none => .skip
noncomputable def c32 : Code := Bj Tryz.f32
noncomputable def c61 : Code := Bj Tryz.f61
noncomputable def c62 : Code := Bj Tryz.f62
noncomputable def c88 : Code := Bj Tryz.f88
noncomputable def Ans : Code := Bj Tryz.f126
noncomputable def c81 : Code := Bj Tryz.f81
noncomputable def AkM : Code := Bj Tryz.f143
noncomputable def AkF : Code := Bj Tryz.f115
noncomputable def c80 : Code := Bj Tryz.f80
noncomputable def c87 : Code := Bj Tryz.f87
noncomputable def c86 : Code := Bj Tryz.f86
noncomputable def c63 : Code := Bj Tryz.f63
noncomputable def c90 : Code := Bj Tryz.f90
noncomputable def c65 : Code := Bj Tryz.f65
noncomputable def c89 : Code := Bj Tryz.f89
noncomputable def AkG : Code := Bj Tryz.f127
noncomputable def AkH : Code := Bj Tryz.f128
noncomputable def c91 : Code := Bj Tryz.f91
noncomputable def c92 : Code := Bj Tryz.f92
noncomputable def c64 : Code := Bj Tryz.f64
noncomputable def c95 : Code := Bj Tryz.f95
noncomputable def c93 : Code := Bj Tryz.f93
noncomputable def c94 : Code := Bj Tryz.f94
noncomputable def c96 : Code := Bj Tryz.f96
noncomputable def c97 : Code := Bj Tryz.f97
noncomputable def c66 : Code := Bj Tryz.f66
noncomputable def c31 : Code := Bj Tryz.f31
noncomputable def c39 : Code := Bj Tryz.f39
noncomputable def c98 : Code := Bj Tryz.f98
noncomputable def c67 : Code := Bj Tryz.f67
noncomputable def c68 : Code := Bj Tryz.f68
noncomputable def Anu : Code := Bj Tryz.f130
noncomputable def c77 : Code := Bj Tryz.f77
noncomputable def An2 : Code := Bj Tryz.f146
noncomputable def Ant : Code := Bj Tryz.f129
noncomputable def Anh : Code := Bj Tryz.f101
noncomputable def Ang : Code := Bj Tryz.f100
noncomputable def Ani : Code := Bj Tryz.f102
noncomputable def c99 : Code := Bj Tryz.f99
noncomputable def Anv : Code := Bj Tryz.f131
noncomputable def Amn : Code := Bj Tryz.f103
noncomputable def c69 : Code := Bj Tryz.f69
noncomputable def Ank : Code := Bj Tryz.f105
noncomputable def c71 : Code := Bj Tryz.f71
noncomputable def AkI : Code := Bj Tryz.f132
noncomputable def AkJ : Code := Bj Tryz.f133
noncomputable def AkK : Code := Bj Tryz.f134
noncomputable def Anj : Code := Bj Tryz.f104
noncomputable def Anw : Code := Bj Tryz.f137
noncomputable def Ann : Code := Bj Tryz.f108
noncomputable def Anm : Code := Bj Tryz.f107
noncomputable def Anr : Code := Bj Tryz.f118
noncomputable def Anl : Code := Bj Tryz.f106
noncomputable def Ano : Code := Bj Tryz.f109
noncomputable def An3 : Code := Bj Tryz.f150
noncomputable def AkL : Code := Bj Tryz.f138
noncomputable def Va : Code := Bj Tryz.f110
noncomputable def c70 : Code := Bj Tryz.f70
noncomputable def Anz : Code := Bj Tryz.f140
noncomputable def An1 : Code := Bj Tryz.f142
noncomputable def An0 : Code := Bj Tryz.f141
noncomputable def An4 : Code := Bj Tryz.f151
noncomputable def Anx : Code := Bj Tryz.f139
noncomputable def Vb : Code := Bj Tryz.f111
noncomputable def Anp : Code := Bj Tryz.f113
noncomputable def AkE : Code := Bj Tryz.f112
noncomputable def c72 : Code := Bj Tryz.f72
noncomputable def c33 : Code := Bj Tryz.f33
noncomputable def c76 : Code := Bj Tryz.f76
noncomputable def c40 : Code := Bj Tryz.f40
noncomputable def c35 : Code := Bj Tryz.f35
noncomputable def Anq : Code := Bj Tryz.f114
noncomputable def c73 : Code := Bj Tryz.f73
noncomputable def c74 : Code := Bj Tryz.f74
noncomputable def c75 : Code := Bj Tryz.f75
noncomputable def c34 : Code := Bj Tryz.f34
noncomputable def c22 : Code := Bj Tryz.f22
noncomputable def c36 : Code := Bj Tryz.f36
noncomputable def c53 : Code := Bj Tryz.f53
noncomputable def c54 : Code := Bj Tryz.f54
noncomputable def c55 : Code := Bj Tryz.f55
noncomputable def c56 : Code := Bj Tryz.f56
noncomputable def c26 : Code := Bj Tryz.f26
noncomputable def c57 : Code := Bj Tryz.f57
noncomputable def c58 : Code := Bj Tryz.f58
noncomputable def c59 : Code := Bj Tryz.f59
noncomputable def c60 : Code := Bj Tryz.f60
noncomputable def c28 : Code := Bj Tryz.f28
noncomputable def c7 : Code := Bj Tryz.f7
noncomputable def o88 : List (Nat × PI) := [(3, PI.of [0, 1, 2, 3, 4, 5, 6, 7, 8, 9, 10, 11, 12, 13, 14, 15, 16, 17])]
noncomputable def o63 : List (Nat × PI) := [(36, PI.of [0, 1, 2, 3, 4, 5, 6, 7, 8, 9, 10]), (46, PI.of [0, 1, 2, 3, 4, 5, 6, 7, 8, 9, 10, 11, 12])]
noncomputable def o89 : List (Nat × PI) := [(6, PI.of [0, 1, 2, 3, 4, 5, 6, 7, 8, 9, 10]), (11, PI.of [0, 1, 2, 3, 4, 5, 6, 7, 8, 9, 10]), (16, PI.of [0, 1, 2, 3, 4, 5, 6, 7, 8, 9, 10])]
noncomputable def o64 : List (Nat × PI) := [(1, .one 0 (.one 1 (.one 2 (.one 3 (.one 4 (.one 6 (.two 5 (PI.of [7, 8, 9, 10]) 7 (PI.of [5, 8, 9, 10]))))))))]
noncomputable def o66 : List (Nat × PI) := [(7, .one 0 (.one 2 (.one 3 (.one 4 (.two 1 (PI.of [5, 6, 7]) 5 (PI.of [1, 6, 7])))))), (8, PI.of [0, 1, 2, 4, 5, 8, 9, 10, 12, 13, 16, 17, 20, 21, 3, 6, 7, 11, 14, 15, 18, 19, 22, 23, 24, 25, 26, 27]), (9, PI.of [0, 1, 2, 4, 5, 3, 6, 7]), (11, PI.of [0, 1, 2, 4, 5, 3, 6, 7]), (17, PI.of [0, 1, 2, 5, 6, 7, 3, 4, 8, 9, 10]), (19, PI.of [0, 1, 2, 5, 6, 7, 9, 10, 3, 4, 8, 11, 12, 13]), (33, .one 0 (.one 1 (.one 2 (.one 3 (.one 4 (.one 5 (.one 6 (.one 8 (.one 9 (.one 10 (.one 11 (.one 12 (.one 13 (.one 14 (.two 7 (PI.of [15, 16, 17]) 15 (PI.of [7, 16, 17]))))))))))))))))]
noncomputable def o31 : List (Nat × PI) := [(12, .one 0 (.one 1 (.one 2 (.one 3 (.one 4 (.one 5 (.one 6 (.one 7 (.one 8 (.one 9 (.two 10 (PI.of [11, 12]) 11 (PI.of [10, 12])))))))))))), (13, PI.of [0, 1, 2, 3, 4, 6, 7, 8, 9, 10, 5, 11, 12, 13])]
noncomputable def AnG : List (Nat × PI) := [(3, PI.of [0, 1, 2, 3, 4, 5, 6, 7, 8, 9, 10, 11, 12, 13, 14, 15, 16, 17])]
noncomputable def AnF : List (Nat × PI) := [(1, PI.of [0, 1, 2, 3, 4, 5, 6, 7, 8, 9, 10, 11, 12, 13, 14, 15])]
noncomputable def AnB : List (Nat × PI) := [(1, PI.of [0, 1, 2, 3, 4, 5, 6, 7, 8, 9, 10, 11, 12, 13, 14, 15]), (5, PI.of [0, 1, 2, 3, 4, 5, 6, 7, 8, 9, 10, 11, 12])]
noncomputable def AnC : List (Nat × PI) := [(1, PI.of [0, 1, 2, 3, 4, 5, 6, 7, 8, 9, 10, 11, 12, 13, 14, 15])]
noncomputable def AnH : List (Nat × PI) := [(1, PI.of [0, 1, 2, 3, 4, 5, 6, 7, 8, 9, 10, 11, 12, 13, 14, 15, 16, 17])]
noncomputable def AmP : List (Nat × PI) := [(0, PI.of [0, 1, 2, 3, 4, 5, 6, 7, 8, 9, 10, 11, 12, 13, 14, 15, 16, 17, 18, 19, 20, 21]), (7, PI.of [0, 1, 2, 3, 4, 5, 6, 7, 8, 9, 10])]
noncomputable def AnD : List (Nat × PI) := [(4, .one 0 (.one 1 (.one 2 (.one 4 (.one 6 (.one 8 (.one 10 (.one 12 (.ld 3 (.ld 5 (.ld 7 (.ld 9 (.ld 11 (.st 13 3 (.one 14 (.st 15 3 (.one 16 (.st 17 3 (.one 18 (.st 19 3 (.one 20 (.st 21 3 (PI.of [22, 23]))))))))))))))))))))))), (6, .one 0 (.one 1 (.one 2 (.one 4 (.one 6 (.one 8 (.ld 3 (.ld 5 (.ld 7 (.st 9 3 (.one 10 (.st 11 3 (.one 12 (.st 13 3 (PI.of [14, 15]))))))))))))))), (8, .one 0 (.one 1 (.one 2 (.one 4 (.ld 3 (.st 5 3 (PI.of [6, 7]))))))), (12, .one 0 (.one 1 (.one 2 (.one 4 (.ld 3 (.st 5 3 (PI.of [6, 7]))))))), (14, .one 0 (.one 1 (.one 2 (.one 4 (.one 6 (.one 8 (.ld 3 (.ld 5 (.ld 7 (.st 9 3 (.one 10 (.st 11 3 (.one 12 (.st 13 3 (PI.of [14, 15]))))))))))))))), (16, .one 0 (.one 1 (.one 2 (.one 4 (.ld 3 (.st 5 3 (PI.of [6, 7]))))))), (24, .one 0 (.one 1 (.one 2 (.one 4 (.ld 3 (.st 5 3 (PI.of [6, 7]))))))), (26, .one 0 (.one 1 (.one 2 (.one 4 (.ld 3 (.st 5 3 (PI.of [6, 7]))))))), (28, .one 0 (.one 1 (.one 2 (.one 4 (.ld 3 (.st 5 3 (PI.of [6, 7])))))))]
noncomputable def AlQ : List (Nat × PI) := [(6, PI.of [0, 1, 2, 3, 4, 5, 6, 7, 8])]
noncomputable def AlR : List (Nat × PI) := [(6, PI.of [0, 1, 2, 3, 4, 5, 6, 7, 8])]
noncomputable def AlS : List (Nat × PI) := [(6, PI.of [0, 1, 2, 3, 4, 5, 6, 7, 8])]
noncomputable def o70 : List (Nat × PI) := [(1, .one 0 (.one 1 (.one 2 (.one 3 (.one 4 (.one 6 (.two 5 (PI.of [7, 8, 9, 10]) 7 (PI.of [5, 8, 9, 10]))))))))]
noncomputable def AnI : List (Nat × PI) := [(1, PI.of [0, 1, 3, 4, 7, 8, 9, 11, 12, 15, 16, 19, 20, 2, 5, 6, 10, 13, 14, 17, 18, 21, 22, 23]), (2, .one 1 (.one 2 (.one 3 (.one 4 (.one 5 (.two 0 (PI.of [6, 7, 8]) 6 (PI.of [0, 7, 8]))))))), (3, PI.of [0, 1, 2, 4, 5, 3, 6, 7]), (5, PI.of [0, 1, 2, 4, 5, 3, 6, 7])]
noncomputable def Wx : List (Nat × PI) := [(6, PI.of [0, 1, 4, 5, 6, 2, 3, 7, 8]), (20, .one 0 (.one 1 (.one 2 (.one 4 (.one 5 (.one 6 (.two 3 (PI.of [7, 8, 9]) 7 (PI.of [3, 8, 9]))))))))]
noncomputable def AnE : List (Nat × PI) := [(4, PI.of [0, 1, 2, 4, 5, 6, 8, 9, 3, 7, 10, 11, 12, 13])]
noncomputable def o33 : List (Nat × PI) := [(12, .one 0 (.one 1 (.one 2 (.one 3 (.one 4 (.one 5 (.one 6 (.one 7 (.one 8 (.one 9 (.two 10 (PI.of [11, 12]) 11 (PI.of [10, 12])))))))))))), (13, PI.of [0, 1, 2, 3, 4, 6, 7, 8, 9, 10, 5, 11, 12, 13])]
noncomputable def o35 : List (Nat × PI) := [(6, PI.of [0, 1, 2, 3, 4, 5, 6, 7, 8])]
noncomputable def o73 : List (Nat × PI) := [(6, PI.of [0, 1, 2, 3, 4, 5, 6, 7, 8, 9])]
noncomputable def o74 : List (Nat × PI) := [(6, PI.of [0, 1, 2, 3, 4, 5, 6, 7, 8])]
noncomputable def o75 : List (Nat × PI) := [(6, PI.of [0, 1, 2, 3, 4, 5, 6, 7, 8])]
noncomputable def o22 : List (Nat × PI) := [(6, PI.of [0, 1, 2, 3, 4, 5, 6, 7, 8, 9])]
noncomputable def o58 : List (Nat × PI) := [(4, PI.of [0, 1, 2, 3, 4, 5, 6, 7])]
noncomputable def o59 : List (Nat × PI) := [(4, PI.of [0, 1, 2, 3, 4, 5, 6])]
noncomputable def o28 : List (Nat × PI) := [(19, PI.of [0, 1, 2, 3, 4, 5, 6, 7]), (25, PI.of [0, 1, 2, 3, 4, 5, 6, 7]), (40, PI.of [0, 1, 2, 3, 4, 5, 6, 7]), (55, PI.of [0, 1, 2, 3, 4, 5, 6, 7])]
noncomputable abbrev fi32 : Fj := ⟨c32, 22, Tryz.f32.results.toList, []⟩
noncomputable abbrev Amu : Fj := ⟨c61, 37, Tryz.f61.results.toList, []⟩
noncomputable abbrev fi62 : Fj := ⟨c62, 55, Tryz.f62.results.toList, []⟩
noncomputable abbrev Am5 : Fj := ⟨c88, 31, Tryz.f88.results.toList, o88⟩
noncomputable abbrev Akl : Fj := ⟨Ans, 43, Tryz.f126.results.toList, []⟩
noncomputable abbrev Am2 : Fj := ⟨c81, 15, Tryz.f81.results.toList, []⟩
noncomputable abbrev fi143 : Fj := ⟨AkM, 104, Tryz.f143.results.toList, []⟩
noncomputable abbrev fi115 : Fj := ⟨AkF, 35, Tryz.f115.results.toList, []⟩
noncomputable abbrev Am1 : Fj := ⟨c80, 6, Tryz.f80.results.toList, []⟩
noncomputable abbrev Am4 : Fj := ⟨c87, 28, Tryz.f87.results.toList, []⟩
noncomputable abbrev Am3 : Fj := ⟨c86, 168, Tryz.f86.results.toList, []⟩
noncomputable abbrev fi63 : Fj := ⟨c63, 186, Tryz.f63.results.toList, o63⟩
noncomputable abbrev Am6 : Fj := ⟨c90, 120, Tryz.f90.results.toList, []⟩
noncomputable abbrev Amv : Fj := ⟨c65, 10, Tryz.f65.results.toList, []⟩
noncomputable abbrev fi89 : Fj := ⟨c89, 239, Tryz.f89.results.toList, o89⟩
noncomputable abbrev fi127 : Fj := ⟨AkG, 17, Tryz.f127.results.toList, []⟩
noncomputable abbrev fi128 : Fj := ⟨AkH, 33, Tryz.f128.results.toList, []⟩
noncomputable abbrev Am7 : Fj := ⟨c91, 25, Tryz.f91.results.toList, []⟩
noncomputable abbrev fi92 : Fj := ⟨c92, 57, Tryz.f92.results.toList, []⟩
noncomputable abbrev fi64 : Fj := ⟨c64, 191, Tryz.f64.results.toList, o64⟩
noncomputable abbrev AmA : Fj := ⟨c95, 17, Tryz.f95.results.toList, []⟩
noncomputable abbrev Am8 : Fj := ⟨c93, 17, Tryz.f93.results.toList, []⟩
noncomputable abbrev Am9 : Fj := ⟨c94, 7, Tryz.f94.results.toList, []⟩
noncomputable abbrev AmB : Fj := ⟨c96, 17, Tryz.f96.results.toList, []⟩
noncomputable abbrev fi97 : Fj := ⟨c97, 29, Tryz.f97.results.toList, []⟩
noncomputable abbrev fi66 : Fj := ⟨c66, 204, Tryz.f66.results.toList, o66⟩
noncomputable abbrev Amq : Fj := ⟨c31, 70, Tryz.f31.results.toList, o31⟩
noncomputable abbrev fi39 : Fj := ⟨c39, 34, Tryz.f39.results.toList, []⟩
noncomputable abbrev AmC : Fj := ⟨c98, 15, Tryz.f98.results.toList, []⟩
noncomputable abbrev Amw : Fj := ⟨c67, 39, Tryz.f67.results.toList, []⟩
noncomputable abbrev fi68 : Fj := ⟨c68, 52, Tryz.f68.results.toList, []⟩
noncomputable abbrev Akn : Fj := ⟨Anu, 31, Tryz.f130.results.toList, AnG⟩
noncomputable abbrev fi77 : Fj := ⟨c77, 18, Tryz.f77.results.toList, []⟩
noncomputable abbrev Aku : Fj := ⟨An2, 42, Tryz.f146.results.toList, []⟩
noncomputable abbrev Akm : Fj := ⟨Ant, 35, Tryz.f129.results.toList, AnF⟩
noncomputable abbrev Aka : Fj := ⟨Anh, 6, Tryz.f101.results.toList, []⟩
noncomputable abbrev AjZ : Fj := ⟨Ang, 41, Tryz.f100.results.toList, AnB⟩
noncomputable abbrev Akb : Fj := ⟨Ani, 35, Tryz.f102.results.toList, AnC⟩
noncomputable abbrev AmD : Fj := ⟨c99, 92, Tryz.f99.results.toList, []⟩
noncomputable abbrev Ako : Fj := ⟨Anv, 20, Tryz.f131.results.toList, AnH⟩
noncomputable abbrev fi103 : Fj := ⟨Amn, 83, Tryz.f103.results.toList, AmP⟩
noncomputable abbrev Amx : Fj := ⟨c69, 77, Tryz.f69.results.toList, []⟩
noncomputable abbrev Akd : Fj := ⟨Ank, 121, Tryz.f105.results.toList, AnD⟩
noncomputable abbrev Amz : Fj := ⟨c71, 10, Tryz.f71.results.toList, []⟩
noncomputable abbrev fi132 : Fj := ⟨AkI, 26, Tryz.f132.results.toList, AlQ⟩
noncomputable abbrev fi133 : Fj := ⟨AkJ, 26, Tryz.f133.results.toList, AlR⟩
noncomputable abbrev fi134 : Fj := ⟨AkK, 26, Tryz.f134.results.toList, AlS⟩
noncomputable abbrev Akc : Fj := ⟨Anj, 186, Tryz.f104.results.toList, []⟩
noncomputable abbrev Akp : Fj := ⟨Anw, 5, Tryz.f137.results.toList, []⟩
noncomputable abbrev Akg : Fj := ⟨Ann, 20, Tryz.f108.results.toList, []⟩
noncomputable abbrev Akf : Fj := ⟨Anm, 5, Tryz.f107.results.toList, []⟩
noncomputable abbrev Akk : Fj := ⟨Anr, 5, Tryz.f118.results.toList, []⟩
noncomputable abbrev Ake : Fj := ⟨Anl, 50, Tryz.f106.results.toList, []⟩
noncomputable abbrev Akh : Fj := ⟨Ano, 5, Tryz.f109.results.toList, []⟩
noncomputable abbrev Akv : Fj := ⟨An3, 19, Tryz.f150.results.toList, []⟩
noncomputable abbrev fi138 : Fj := ⟨AkL, 35, Tryz.f138.results.toList, []⟩
noncomputable abbrev fi110 : Fj := ⟨Va, 65, Tryz.f110.results.toList, []⟩
noncomputable abbrev Amy : Fj := ⟨c70, 81, Tryz.f70.results.toList, o70⟩
noncomputable abbrev Akr : Fj := ⟨Anz, 7, Tryz.f140.results.toList, []⟩
noncomputable abbrev Akt : Fj := ⟨An1, 16, Tryz.f142.results.toList, []⟩
noncomputable abbrev Aks : Fj := ⟨An0, 19, Tryz.f141.results.toList, []⟩
noncomputable abbrev Akw : Fj := ⟨An4, 18, Tryz.f151.results.toList, []⟩
noncomputable abbrev Akq : Fj := ⟨Anx, 65, Tryz.f139.results.toList, AnI⟩
noncomputable abbrev fi111 : Fj := ⟨Vb, 96, Tryz.f111.results.toList, Wx⟩
noncomputable abbrev Aki : Fj := ⟨Anp, 31, Tryz.f113.results.toList, AnE⟩
noncomputable abbrev fi112 : Fj := ⟨AkE, 29, Tryz.f112.results.toList, []⟩
noncomputable abbrev Am0 : Fj := ⟨c72, 19, Tryz.f72.results.toList, []⟩
noncomputable abbrev Amr : Fj := ⟨c33, 73, Tryz.f33.results.toList, o33⟩
noncomputable abbrev fi76 : Fj := ⟨c76, 37, Tryz.f76.results.toList, []⟩
noncomputable abbrev Amt : Fj := ⟨c40, 15, Tryz.f40.results.toList, []⟩
noncomputable abbrev fi35 : Fj := ⟨c35, 26, Tryz.f35.results.toList, o35⟩
noncomputable abbrev Akj : Fj := ⟨Anq, 15, Tryz.f114.results.toList, []⟩
noncomputable abbrev fi73 : Fj := ⟨c73, 27, Tryz.f73.results.toList, o73⟩
noncomputable abbrev fi74 : Fj := ⟨c74, 26, Tryz.f74.results.toList, o74⟩
noncomputable abbrev fi75 : Fj := ⟨c75, 26, Tryz.f75.results.toList, o75⟩
noncomputable abbrev Ams : Fj := ⟨c34, 136, Tryz.f34.results.toList, []⟩
noncomputable abbrev fi22 : Fj := ⟨c22, 27, Tryz.f22.results.toList, o22⟩
noncomputable abbrev fi36 : Fj := ⟨c36, 20, Tryz.f36.results.toList, []⟩
noncomputable abbrev fi53 : Fj := ⟨c53, 20, Tryz.f53.results.toList, []⟩
noncomputable abbrev fi54 : Fj := ⟨c54, 28, Tryz.f54.results.toList, []⟩
noncomputable abbrev fi55 : Fj := ⟨c55, 20, Tryz.f55.results.toList, []⟩
noncomputable abbrev fi56 : Fj := ⟨c56, 19, Tryz.f56.results.toList, []⟩
noncomputable abbrev fi26 : Fj := ⟨c26, 208, Tryz.f26.results.toList, []⟩
noncomputable abbrev fi57 : Fj := ⟨c57, 22, Tryz.f57.results.toList, []⟩
noncomputable abbrev fi58 : Fj := ⟨c58, 32, Tryz.f58.results.toList, o58⟩
noncomputable abbrev fi59 : Fj := ⟨c59, 22, Tryz.f59.results.toList, o59⟩
noncomputable abbrev fi60 : Fj := ⟨c60, 21, Tryz.f60.results.toList, []⟩
noncomputable abbrev fi28 : Fj := ⟨c28, 258, Tryz.f28.results.toList, o28⟩
noncomputable abbrev fi7 : Fj := ⟨c7, 93, Tryz.f7.results.toList, []⟩
abbrev uu : AV := .sc undef
noncomputable def tf : Nat → Nat → (Nat → AV) → Tm
 | 0, _, _ => []
 | n + 1, i, t => (i, t i) :: tf n (i + 1) t
noncomputable def ut : Nat → AV := fun _ => uu
noncomputable def ud : List (Nat × AV) → (Nat → AV) → Nat → AV
 | [], t, i => t i
 | (j, v) :: r, t, i => match zb3 j i with
  | true => v
  | false => ud r t i
theorem Abk : ∀ (n i : Nat) (t : Nat → AV), tf n i t = (List.range' i n).map fun j => (j, t j)
 | 0, _, _ => rfl
 | n + 1, i, t => by
  rw [tf, Abk n (i + 1) t, List.range'_succ, zaq]
theorem AlP (nt : Nat) (tm : Tm) : nrm nt tm = tf nt 0 (fun i => gt tm i) := by
 rw [Abk, nrm, List.range_eq_range']
theorem Bh {nt m : Nat} {body : Tm → Ab → (Ex → Tm → Ab → Option β) → Option β} {c c' : Ex → Tm → Ab → Option β} {g : (Nat → AV) → Ab → Option β} {tm : Tm} {H : Ab} (h : ∀ t H, Dd nt body c m (tf nt 0 t) H = g t H) (hc : c = c') : Dd nt body c (m + 1) tm H = body tm H (Dw (fun tm H => g (fun i => gt tm i) H) c') := by
 have e : (fun tm H => Dd nt body c m (nrm nt tm) H) = fun tm H => g (fun i => gt tm i) H := by
  funext tm H
  rw [AlP, h]
 rw [Dd, e, hc]
noncomputable def As (t : Nat) : Option TI := (tis[t]?).getD none
noncomputable def cd : Code → List Nat → Code
 | c, [] => c
 | .seq a b, i :: p => cd (if i = 0 then a else b) p
 | .cond _ a b, i :: p => cd (if i = 1 then a else b) p
 | .block _ a, _ :: p => cd a p
 | .loop a, _ :: p => cd a p
 | c, _ => c
abbrev Nm (i : Fj) (f : (β : Type) → Pr β → Nat → AV → Ab → KO β → Option β) : Prop := ∀ {β : Type} (p : Pr β) (n : Nat) (a0 : AV) (H : Ab) (k : KO β), B6 As p n i [a0] H k = f β p n a0 H k
abbrev Le (i : Fj) (f : (β : Type) → Pr β → Nat → AV → AV → Ab → KO β → Option β) : Prop := ∀ {β : Type} (p : Pr β) (n : Nat) (a0 a1 : AV) (H : Ab) (k : KO β), B6 As p n i [a0, a1] H k = f β p n a0 a1 H k
abbrev Bd3 (i : Fj) (f : (β : Type) → Pr β → Nat → AV → AV → AV → Ab → KO β → Option β) : Prop := ∀ {β : Type} (p : Pr β) (n : Nat) (a0 a1 a2 : AV) (H : Ab) (k : KO β), B6 As p n i [a0, a1, a2] H k = f β p n a0 a1 a2 H k
noncomputable def Vs (p : Pr β) (n : Nat)  (k : KO β) : Nat → AV → AV → KO β
 | 0, _, _, _, _ => none
 | m + 1, t0, t3, t4, H => p.len t0 fun t10 =>
   p.bin .lss t4 t10 fun t11 =>
   p.cond t11
   (p.iadr 1 t0 t4 fun t18 =>
   p.load false 1 t18 H fun t19 =>
   p.iadr 1 t3 t4 fun t20 =>
   p.store 1 t20 t19 H fun H =>
   p.bin .add t4 (si 1) fun t13 =>
   Vs p n  k m t0 t3 t13 H)
   (k t3 H)
noncomputable def f32 (n : Nat) (a0 : AV) (H : Ab) (k : KO β) : Option β :=
 p.len a0 fun t6 =>
 p.make 1 1 [(su 0)] t6 t6 H fun t7 H =>
 Vs p n  k n a0 t7 i0 H
noncomputable def Af4 (p : Pr β) (n : Nat)  (k : KO β) (m : Nat) (tm : Tm) (H : Ab) : Option β :=
 Dd 22 (fun tm H k => Ai As p [] 22 n (cd c32 [1, 1, 0, 1, 0, 0]) tm H k) (Eg 0 (Dw (fun tm H => Ai As p [] 22 n (cd c32 [1, 1, 1]) tm H (Cd As p fi32.results k)) (Cd As p fi32.results k))) m tm H
theorem Aed (p : Pr β) (n : Nat)  (k : KO β) (m0 : Nat) : ∀ (t : Nat → AV) (H : Ab), Af4 p n  k m0 (tf 22 0 t) H = Vs p n  k m0 (t 0) (t 3) (t 4) H := by
 induction m0 with
 | zero => intros; rfl
 | succ m0 ih =>
  intro t H
  refine Eq.trans (Bh (nt := 22) (m := m0) (g := fun t H => Vs p n  k m0 (t 0) (t 3) (t 4) H) ih rfl) ?_
  kernel_rfl
theorem Ai8 (p : Pr β) (n : Nat) (a0 : AV) (H : Ab) (k : KO β) : B6 As p n fi32 [a0] H k =
 p.len a0 fun t6 =>
 p.make 1 1 [(su 0)] t6 t6 H fun t7 H =>
 Af4 p n  k n (tf 22 0 (ud [(0, a0), (2, .nl), (3, t7), (4, i0), (5, a0), (6, t6), (7, t7)] ut)) H := by kernel_rfl
theorem Af5 : Nm fi32 @f32 := fun p n a0 H k => by
 rw [Ai8]
 simp only [Aed]
 kernel_rfl
noncomputable def f61 (n : Nat) (a0 : AV) (H : Ab) (k : KO β) : Option β :=
 p.bin .quo a0 (si 16) fun t7 =>
 p.bin .rem a0 (si 16) fun t9 =>
 p.bin .eql t7 i0 fun t12 =>
 Et (fun (t4 t10 t11 : AV) (H : Ab) => p.cond t11
 (k bF H)
 (p.bin .eql t10 (si 3) fun t15 =>
 p.cond t15
 (p.bin .quo t4 (si 2) fun t17 =>
 p.bin .rem t17 (si 4) fun t18 =>
 p.bin .lss t18 (si 3) fun t20 =>
 p.kT t20 H t18 fun t22 H =>
 p.gT t20 H (p.bin .gtr t22 i0) fun t23 H =>
 p.kT t20 H t23 fun t24 H =>
 p.kF t24 H t4 fun t25 H =>
 p.gF t24 H (p.bin .lss t25 (si 8)) fun t26 H =>
 p.gT t20 H (p.pick t24 bT t26) fun t27 H =>
 p.pick t20 t27 bF fun t28 =>
 k t28 H)
 (p.bin .eql t10 (si 6) fun t30 =>
 Et (fun (t4 t29 : AV) (H : Ab) => p.cond t29
 (p.bin .eql t4 (si 2) fun t34 =>
 k t34 H)
 (p.bin .eql t4 i0 fun t36 =>
 k t36 H)) fun j2 =>
 p.cond t30
 (j2 t4 t30 H)
 (p.bin .eql t10 (si 8) fun t31 =>
 p.cond t31
 (j2 t4 t31 H)
 (p.bin .eql t10 (si 10) fun t32 =>
 j2 t4 t32 H))))) fun j1 =>
 p.cond t12
 (j1 t9 t7 t12 H)
 (p.bin .eql t7 (si 15) fun t13 =>
 j1 t9 t7 t13 H)
theorem AfV : Nm Amu @f61 := fun p n a0 H k => by kernel_rfl
noncomputable def Q2 (p : Pr β) (n : Nat)  (k : KO β) : Nat → AV → AV → AV → KO β
 | 0, _, _, _, _, _ => none
 | m + 1, t0, t1, t7, t8, H => p.bin .lss t8 (si 4) fun t19 =>
   p.cond t19
   (p.bin .add t1 t8 fun t24 =>
   p.len t0 fun t26 =>
   p.bin .geq t24 t26 fun t27 =>
   p.cond t27
   (k (C2 [i0, i0, (si 1)]) H)
   (p.bin .add t1 t8 fun t31 =>
   p.iadr 1 t0 t31 fun t32 =>
   p.load false 1 t32 H fun t33 =>
   p.cvI .i64 t33 fun t34 =>
   p.bin .and t34 (si 127) fun t37 =>
   p.bin .mul (si 7) t8 fun t39 =>
   p.bin .shl t37 t39 fun t40 =>
   p.bin .or t7 t40 fun t41 =>
   p.bin .lss t34 (si 128) fun t43 =>
   p.cond t43
   (p.bin .gtr t8 i0 fun t45 =>
   p.kT t45 H t34 fun t47 H =>
   p.gT t45 H (p.bin .eql t47 i0) fun t48 H =>
   p.pick t45 t48 bF fun t49 =>
   p.cond t49
   (k (C2 [i0, i0, (si 2)]) H)
   (p.bin .add t1 t8 fun t53 =>
   p.bin .add t53 (si 1) fun t54 =>
   k (C2 [t41, t54, i0]) H))
   (p.bin .add t8 (si 1) fun t21 =>
   Q2 p n  k m t0 t1 t41 t21 H)))
   (k (C2 [i0, i0, (si 2)]) H)
noncomputable def f62 (n : Nat) (a0 a1 : AV) (H : Ab) (k : KO β) : Option β :=
 p.bin .lss a1 i0 fun t11 =>
 p.kF t11 H a1 fun t13 H =>
 p.kF t11 H a0 fun t14 H =>
 p.gF t11 H (p.len t14) fun t15 H =>
 p.gF t11 H (p.bin .gtr t13 t15) fun t16 H =>
 p.pick t11 bT t16 fun t17 =>
 p.cond t17
 (k (C2 [i0, i0, (si 2)]) H)
 (Q2 p n  k n a0 a1 i0 i0 H)
noncomputable def AfW (p : Pr β) (n : Nat)  (k : KO β) (m : Nat) (tm : Tm) (H : Ab) : Option β :=
 Dd 55 (fun tm H k => Ai As p [] 55 n (cd c62 [1, 1, 1, 0, 1, 0, 0]) tm H k) (Eg 0 (Dw (fun tm H => Ai As p [] 55 n (cd c62 [1, 1, 1, 1]) tm H (Cd As p fi62.results k)) (Cd As p fi62.results k))) m tm H
theorem Aep (p : Pr β) (n : Nat)  (k : KO β) (m0 : Nat) : ∀ (t : Nat → AV) (H : Ab), AfW p n  k m0 (tf 55 0 t) H = Q2 p n  k m0 (t 0) (t 1) (t 7) (t 8) H := by
 induction m0 with
 | zero => intros; rfl
 | succ m0 ih =>
  intro t H
  refine Eq.trans (Bh (nt := 55) (m := m0) (g := fun t H => Q2 p n  k m0 (t 0) (t 1) (t 7) (t 8) H) ih rfl) ?_
  kernel_rfl
theorem AiK (p : Pr β) (n : Nat) (a0 a1 : AV) (H : Ab) (k : KO β) : B6 As p n fi62 [a0, a1] H k =
 p.bin .lss a1 i0 fun t11 =>
 p.kF t11 H a1 fun t13 H =>
 p.kF t11 H a0 fun t14 H =>
 p.gF t11 H (p.len t14) fun t15 H =>
 p.gF t11 H (p.bin .gtr t13 t15) fun t16 H =>
 p.pick t11 bT t16 fun t17 =>
 p.cond t17
 (k (C2 [i0, i0, (si 2)]) H)
 (AfW p n  k n (tf 55 0 (ud [(0, a0), (1, a1), (4, i0), (5, i0), (6, i0), (7, i0), (8, i0), (10, a1), (11, t11), (12, t11), (13, t13), (14, t14), (15, t15), (16, t16), (17, t17)] ut)) H) := by kernel_rfl
theorem AfX : Le fi62 @f62 := fun p n a0 a1 H k => by
 rw [AiK]
 simp only [Aep]
 kernel_rfl
noncomputable def f88 (n : Nat) (a0 a1 : AV) (H : Ab) (k : KO β) : Option β :=
 p.bin .lss a1 i0 fun t8 =>
 p.kF t8 H a1 fun t10 H =>
 p.kF t8 H a0 fun t11 H =>
 p.gF t8 H (p.len t11) fun t12 H =>
 p.gF t8 H (p.bin .sub t12 (si 2)) fun t13 H =>
 p.gF t8 H (p.bin .gtr t10 t13) fun t14 H =>
 p.pick t8 bT t14 fun t15 =>
 p.cond t15
 (k (C2 [i0, i0, bF]) H)
 (p.iadr 1 a0 a1 fun t18 =>
 p.load false 1 t18 H fun t19 =>
 p.cvI .i64 t19 fun t20 =>
 p.bin .mul t20 (si 256) fun t21 =>
 p.bin .add a1 (si 1) fun t24 =>
 p.iadr 1 a0 t24 fun t25 =>
 p.load false 1 t25 H fun t26 =>
 p.cvI .i64 t26 fun t27 =>
 p.bin .add t21 t27 fun t28 =>
 p.bin .add a1 (si 2) fun t30 =>
 k (C2 [t28, t30, bT]) H)
theorem Ag2 : Le Am5 @f88 := fun p n a0 a1 H k => by kernel_rfl
noncomputable def f126 (n : Nat) (a0 a1 : AV) (H : Ab) (k : KO β) : Option β :=
 p.ca 110 88 [a0, a1] H fun t13 H =>
 p.extr t13 0 fun t14 =>
 p.extr t13 1 fun t15 =>
 p.extr t13 2 fun t16 =>
 p.un .not t16 fun t18 =>
 p.kF t18 H t14 fun t20 H =>
 p.gF t18 H (p.bin .gtr t20 (si 60)) fun t21 H =>
 p.pick t18 bT t21 fun t22 =>
 p.kF t22 H t14 fun t24 H =>
 p.kF t22 H a0 fun t25 H =>
 p.gF t22 H (p.len t25) fun t26 H =>
 p.kF t22 H t15 fun t27 H =>
 p.gF t22 H (p.bin .sub t26 t27) fun t28 H =>
 p.gF t22 H (p.bin .gtr t24 t28) fun t29 H =>
 p.pick t22 bT t29 fun t30 =>
 p.cond t30
 (k (C2 [.nl, i0, bF]) H)
 (p.bin .add t15 t14 fun t37 =>
 p.slice 1 a0 (some t15) (some t37) fun t38 =>
 p.app 1 1 .nl t38 H fun t39 H =>
 p.bin .add t15 t14 fun t42 =>
 k (C2 [t39, t42, bT]) H)
theorem AdH : Le Akl @f126 := fun p n a0 a1 H k => by kernel_rfl
noncomputable def f81 (n : Nat) (a0 a1 a2 : AV) (H : Ab) (k : KO β) : Option β :=
 p.bin .geq a0 a1 fun t9 =>
 p.kT t9 H a0 fun t11 H =>
 p.kT t9 H a2 fun t12 H =>
 p.gT t9 H (p.bin .leq t11 t12) fun t13 H =>
 p.pick t9 t13 bF fun t14 =>
 k t14 H
theorem Agz : Bd3 Am2 @f81 := fun p n a0 a1 a2 H k => by kernel_rfl
noncomputable def Ja (p : Pr β) (n : Nat)  (k : KO β) : Nat → AV → AV → AV → AV → AV → KO β
 | 0, _, _, _, _, _, _, _ => none
 | m + 1, t0, t1, t8, t9, t10, t11, H => p.bin .leq t11 t8 fun t67 =>
   p.cond t67
   (p.bin .add t1 t11 fun t73 =>
   p.iadr 1 t0 t73 fun t74 =>
   p.load false 1 t74 H fun t75 =>
   p.cvI .i64 t75 fun t76 =>
   p.bin .lss t76 (si 128) fun t78 =>
   p.kF t78 H t76 fun t80 H =>
   p.gF t78 H (p.bin .gtr t80 (si 191)) fun t81 H =>
   p.pick t78 bT t81 fun t82 =>
   p.cond t82
   (k (C2 [i0, i0, bF]) H)
   (p.bin .mul t10 (si 64) fun t84 =>
   p.bin .add t84 t76 fun t86 =>
   p.bin .sub t86 (si 128) fun t87 =>
   p.bin .add t11 (si 1) fun t69 =>
   Ja p n  k m t0 t1 t8 t9 t87 t69 H))
   (p.bin .lss t10 t9 fun t90 =>
   p.kF t90 H t10 fun t92 H =>
   p.gF t90 H (p.bin .gtr t92 (si 1114111)) fun t93 H =>
   p.pick t90 bT t93 fun t94 =>
   p.kF t94 H t10 fun t96 H =>
   p.hF t94 H (p.call 4 (.fn 81 [] []) [t96, (si 55296), (si 57343)] H) fun t97 H =>
   p.pick t94 bT t97 fun t98 =>
   p.cond t98
   (k (C2 [i0, i0, bF]) H)
   (p.bin .add t1 (si 1) fun t101 =>
   p.bin .add t101 t8 fun t103 =>
   k (C2 [t10, t103, bT]) H))
noncomputable def f143 (n : Nat) (a0 a1 : AV) (H : Ab) (k : KO β) : Option β :=
 p.bin .lss a1 i0 fun t14 =>
 p.kF t14 H a1 fun t16 H =>
 p.kF t14 H a0 fun t17 H =>
 p.gF t14 H (p.len t17) fun t18 H =>
 p.gF t14 H (p.bin .geq t16 t18) fun t19 H =>
 p.pick t14 bT t19 fun t20 =>
 p.cond t20
 (k (C2 [i0, i0, bF]) H)
 (p.iadr 1 a0 a1 fun t23 =>
 p.load false 1 t23 H fun t24 =>
 p.cvI .i64 t24 fun t25 =>
 p.bin .lss t25 (si 128) fun t27 =>
 p.cond t27
 (p.bin .add a1 (si 1) fun t30 =>
 k (C2 [t25, t30, bT]) H)
 (p.bin .geq t25 (si 192) fun t33 =>
 p.kT t33 H t25 fun t35 H =>
 p.gT t33 H (p.bin .lss t35 (si 224)) fun t36 H =>
 p.pick t33 t36 bF fun t37 =>
 p.cond t37
 (p.bin .and t25 (si 31) fun t39 =>
 p.len a0 fun t60 =>
 p.bin .sub t60 (si 1) fun t61 =>
 p.bin .sub t61 (si 1) fun t63 =>
 p.bin .gtr a1 t63 fun t64 =>
 p.cond t64
 (k (C2 [i0, i0, bF]) H)
 (Ja p n  k n a0 a1 (si 1) (si 128) t39 (si 1) H))
 (p.bin .geq t25 (si 224) fun t42 =>
 p.kT t42 H t25 fun t44 H =>
 p.gT t42 H (p.bin .lss t44 (si 240)) fun t45 H =>
 p.pick t42 t45 bF fun t46 =>
 p.cond t46
 (p.bin .and t25 (si 15) fun t48 =>
 p.len a0 fun t60 =>
 p.bin .sub t60 (si 1) fun t61 =>
 p.bin .sub t61 (si 2) fun t63 =>
 p.bin .gtr a1 t63 fun t64 =>
 p.cond t64
 (k (C2 [i0, i0, bF]) H)
 (Ja p n  k n a0 a1 (si 2) (si 2048) t48 (si 1) H))
 (p.bin .geq t25 (si 240) fun t51 =>
 p.kT t51 H t25 fun t53 H =>
 p.gT t51 H (p.bin .lss t53 (si 248)) fun t54 H =>
 p.pick t51 t54 bF fun t55 =>
 p.cond t55
 (p.bin .and t25 (si 7) fun t57 =>
 p.len a0 fun t60 =>
 p.bin .sub t60 (si 1) fun t61 =>
 p.bin .sub t61 (si 3) fun t63 =>
 p.bin .gtr a1 t63 fun t64 =>
 p.cond t64
 (k (C2 [i0, i0, bF]) H)
 (Ja p n  k n a0 a1 (si 3) (si 65536) t57 (si 1) H))
 (k (C2 [i0, i0, bF]) H)))))
noncomputable def Ul (p : Pr β) (n : Nat)  (k : KO β) (m : Nat) (tm : Tm) (H : Ab) : Option β :=
 Dd 104 (fun tm H k => Ai As p [] 104 n (cd AkM [1, 1, 1, 1, 1, 1, 1, 1, 1, 0, 1, 0, 0]) tm H k) (Eg 1 (Dw (fun tm H => Ai As p [] 104 n (cd AkM [1, 1, 1, 1, 1, 1, 1, 1, 1, 1]) tm H (Cd As p fi143.results k)) (Cd As p fi143.results k))) m tm H
theorem AbK (p : Pr β) (n : Nat)  (k : KO β) (m0 : Nat) : ∀ (t : Nat → AV) (H : Ab), Ul p n  k m0 (tf 104 0 t) H = Ja p n  k m0 (t 0) (t 1) (t 8) (t 9) (t 10) (t 11) H := by
 induction m0 with
 | zero => intros; rfl
 | succ m0 ih =>
  intro t H
  refine Eq.trans (Bh (nt := 104) (m := m0) (g := fun t H => Ja p n  k m0 (t 0) (t 1) (t 8) (t 9) (t 10) (t 11) H) ih rfl) ?_
  kernel_rfl
theorem Afw (p : Pr β) (n : Nat) (a0 a1 : AV) (H : Ab) (k : KO β) : B6 As p n fi143 [a0, a1] H k =
 p.bin .lss a1 i0 fun t14 =>
 p.kF t14 H a1 fun t16 H =>
 p.kF t14 H a0 fun t17 H =>
 p.gF t14 H (p.len t17) fun t18 H =>
 p.gF t14 H (p.bin .geq t16 t18) fun t19 H =>
 p.pick t14 bT t19 fun t20 =>
 p.cond t20
 (k (C2 [i0, i0, bF]) H)
 (p.iadr 1 a0 a1 fun t23 =>
 p.load false 1 t23 H fun t24 =>
 p.cvI .i64 t24 fun t25 =>
 p.bin .lss t25 (si 128) fun t27 =>
 p.cond t27
 (p.bin .add a1 (si 1) fun t30 =>
 k (C2 [t25, t30, bT]) H)
 (p.bin .geq t25 (si 192) fun t33 =>
 p.kT t33 H t25 fun t35 H =>
 p.gT t33 H (p.bin .lss t35 (si 224)) fun t36 H =>
 p.pick t33 t36 bF fun t37 =>
 p.cond t37
 (p.bin .and t25 (si 31) fun t39 =>
 p.len a0 fun t60 =>
 p.bin .sub t60 (si 1) fun t61 =>
 p.bin .sub t61 (si 1) fun t63 =>
 p.bin .gtr a1 t63 fun t64 =>
 p.cond t64
 (k (C2 [i0, i0, bF]) H)
 (Ul p n  k n (tf 104 0 (ud [(0, a0), (1, a1), (4, i0), (5, i0), (6, bF), (7, t25), (8, (si 1)), (9, (si 128)), (10, t39), (11, (si 1)), (13, a1), (14, t14), (15, t14), (16, t16), (17, t17), (18, t18), (19, t19), (20, t20), (21, a0), (22, a1), (23, t23), (24, t24), (25, t25), (26, t25), (27, t27), (31, t37), (32, t25), (33, t33), (34, t33), (35, t35), (36, t36), (37, t37), (38, t25), (39, t39), (58, a1), (59, a0), (60, t60), (61, t61), (62, (si 1)), (63, t63), (64, t64)] ut)) H))
 (p.bin .geq t25 (si 224) fun t42 =>
 p.kT t42 H t25 fun t44 H =>
 p.gT t42 H (p.bin .lss t44 (si 240)) fun t45 H =>
 p.pick t42 t45 bF fun t46 =>
 p.cond t46
 (p.bin .and t25 (si 15) fun t48 =>
 p.len a0 fun t60 =>
 p.bin .sub t60 (si 1) fun t61 =>
 p.bin .sub t61 (si 2) fun t63 =>
 p.bin .gtr a1 t63 fun t64 =>
 p.cond t64
 (k (C2 [i0, i0, bF]) H)
 (Ul p n  k n (tf 104 0 (ud [(0, a0), (1, a1), (4, i0), (5, i0), (6, bF), (7, t25), (8, (si 2)), (9, (si 2048)), (10, t48), (11, (si 1)), (13, a1), (14, t14), (15, t14), (16, t16), (17, t17), (18, t18), (19, t19), (20, t20), (21, a0), (22, a1), (23, t23), (24, t24), (25, t25), (26, t25), (27, t27), (31, t37), (32, t25), (33, t33), (34, t33), (35, t35), (36, t36), (37, t37), (40, t46), (41, t25), (42, t42), (43, t42), (44, t44), (45, t45), (46, t46), (47, t25), (48, t48), (58, a1), (59, a0), (60, t60), (61, t61), (62, (si 2)), (63, t63), (64, t64)] ut)) H))
 (p.bin .geq t25 (si 240) fun t51 =>
 p.kT t51 H t25 fun t53 H =>
 p.gT t51 H (p.bin .lss t53 (si 248)) fun t54 H =>
 p.pick t51 t54 bF fun t55 =>
 p.cond t55
 (p.bin .and t25 (si 7) fun t57 =>
 p.len a0 fun t60 =>
 p.bin .sub t60 (si 1) fun t61 =>
 p.bin .sub t61 (si 3) fun t63 =>
 p.bin .gtr a1 t63 fun t64 =>
 p.cond t64
 (k (C2 [i0, i0, bF]) H)
 (Ul p n  k n (tf 104 0 (ud [(0, a0), (1, a1), (4, i0), (5, i0), (6, bF), (7, t25), (8, (si 3)), (9, (si 65536)), (10, t57), (11, (si 1)), (13, a1), (14, t14), (15, t14), (16, t16), (17, t17), (18, t18), (19, t19), (20, t20), (21, a0), (22, a1), (23, t23), (24, t24), (25, t25), (26, t25), (27, t27), (31, t37), (32, t25), (33, t33), (34, t33), (35, t35), (36, t36), (37, t37), (40, t46), (41, t25), (42, t42), (43, t42), (44, t44), (45, t45), (46, t46), (49, t55), (50, t25), (51, t51), (52, t51), (53, t53), (54, t54), (55, t55), (56, t25), (57, t57), (58, a1), (59, a0), (60, t60), (61, t61), (62, (si 3)), (63, t63), (64, t64)] ut)) H))
 (k (C2 [i0, i0, bF]) H))))) := by kernel_rfl
theorem AdW : Le fi143 @f143 := fun p n a0 a1 H k => by
 rw [Afw]
 simp only [AbK]
 kernel_rfl
noncomputable def Qa (p : Pr β) (n : Nat)  (k : KO β) : Nat → AV → AV → KO β
 | 0, _, _, _, _ => none
 | m + 1, t3, t4, t5, H => p.len t3 fun t16 =>
   p.bin .lss t5 t16 fun t17 =>
   p.cond t17
   (p.call 110 (.fn 143 [] []) [t3, t5] H fun t21 H =>
   p.extr t21 0 fun t22 =>
   p.extr t21 1 fun t23 =>
   p.extr t21 2 fun t24 =>
   p.un .not t24 fun t26 =>
   p.kF t26 H t22 fun t28 H =>
   p.gF t26 H (p.bin .eql t28 i0) fun t29 H =>
   p.pick t26 bT t29 fun t30 =>
   p.cond t30
   (k (si (-1)) H)
   (p.bin .add t4 (si 1) fun t33 =>
   Qa p n  k m t3 t33 t23 H))
   (k t4 H)
noncomputable def f115 (n : Nat) (a0 : AV) (H : Ab) (k : KO β) : Option β :=
 p.lenS a0 fun t10 =>
 p.bin .gtr t10 (si 60) fun t11 =>
 p.cond t11
 (k (si (-1)) H)
 (p.cvSB a0 H fun t13 H =>
 Qa p n  k n t13 i0 i0 H)
noncomputable def AcD (p : Pr β) (n : Nat)  (k : KO β) (m : Nat) (tm : Tm) (H : Ab) : Option β :=
 Dd 35 (fun tm H k => Ai As p [] 35 n (cd AkF [1, 1, 1, 1, 0, 1, 0, 0]) tm H k) (Eg 0 (Dw (fun tm H => Ai As p [] 35 n (cd AkF [1, 1, 1, 1, 1]) tm H (Cd As p fi115.results k)) (Cd As p fi115.results k))) m tm H
theorem AbD (p : Pr β) (n : Nat)  (k : KO β) (m0 : Nat) : ∀ (t : Nat → AV) (H : Ab), AcD p n  k m0 (tf 35 0 t) H = Qa p n  k m0 (t 3) (t 4) (t 5) H := by
 induction m0 with
 | zero => intros; rfl
 | succ m0 ih =>
  intro t H
  refine Eq.trans (Bh (nt := 35) (m := m0) (g := fun t H => Qa p n  k m0 (t 3) (t 4) (t 5) H) ih rfl) ?_
  kernel_rfl
theorem Afp (p : Pr β) (n : Nat) (a0 : AV) (H : Ab) (k : KO β) : B6 As p n fi115 [a0] H k =
 p.lenS a0 fun t10 =>
 p.bin .gtr t10 (si 60) fun t11 =>
 p.cond t11
 (k (si (-1)) H)
 (p.cvSB a0 H fun t13 H =>
 AcD p n  k n (tf 35 0 (ud [(0, a0), (2, i0), (3, t13), (4, i0), (5, i0), (9, a0), (10, t10), (11, t11), (12, a0), (13, t13)] ut)) H) := by kernel_rfl
theorem AdF : Nm fi115 @f115 := fun p n a0 H k => by
 rw [Afp]
 simp only [AbD]
 kernel_rfl
noncomputable def f80 (n : Nat) (a0 : AV) (H : Ab) (k : KO β) : Option β :=
 p.call 3 (.fn 115 [] []) [a0] H fun t4 H =>
 p.bin .geq t4 i0 fun t5 =>
 k t5 H
theorem Agy : Nm Am1 @f80 := fun p n a0 H k => by kernel_rfl
noncomputable def f87 (n : Nat) (a0 a1 : AV) (H : Ab) (k : KO β) : Option β :=
 p.ca 131 126 [a0, a1] H fun t13 H =>
 p.extr t13 0 fun t14 =>
 p.extr t13 1 fun t15 =>
 p.extr t13 2 fun t16 =>
 p.un .not t16 fun t18 =>
 p.kF t18 H t14 fun t20 H =>
 p.gF t18 H (p.cvBS t20 H) fun t21 H =>
 p.hF t18 H (p.ca 4 80 [t21] H) fun t22 H =>
 p.gF t18 H (p.un .not t22) fun t23 H =>
 p.pick t18 bT t23 fun t24 =>
 p.cond t24
 (k (C2 [sE, i0, bF]) H)
 (p.cvBS t14 H fun t26 =>
 k (C2 [t26, t15, bT]) H)
theorem Ag1 : Le Am4 @f87 := fun p n a0 a1 H k => by kernel_rfl
noncomputable def f86 (n : Nat) (a0 : AV) (H : Ab) (k : KO β) : Option β :=
 p.new Ek H fun t2 H =>
 p.fill Ek [(0, 1, (si 1))] fun ct26 =>
 p.new Ek H fun t3 H =>
 p.store 25 t3 (.agg ct26) H fun H =>
 p.ca 108 87 [a0, i0] H fun t29 H =>
 p.extr t29 0 fun t30 =>
 p.extr t29 1 fun t31 =>
 p.extr t29 2 fun t32 =>
 p.un .not t32 fun t34 =>
 p.kF t34 H t30 fun t36 H =>
 p.gF t34 H (p.bin .neq t36 (.sc (.string ⟨#[77, 81, 84, 84]⟩))) fun t37 H =>
 p.pick t34 bT t37 fun t38 =>
 p.kF t38 H t31 fun t40 H =>
 p.kF t38 H a0 fun t41 H =>
 p.gF t38 H (p.len t41) fun t42 H =>
 p.gF t38 H (p.bin .sub t42 (si 2)) fun t43 H =>
 p.gF t38 H (p.bin .gtr t40 t43) fun t44 H =>
 p.pick t38 bT t44 fun t45 =>
 p.cond t45
 (p.fill Ek [] fun ct46 =>
 p.store 25 t2 (.agg ct46) H fun H =>
 p.load true 25 t2 H fun r0 =>
 k r0 H)
 (p.iadr 1 a0 t31 fun t49 =>
 p.load false 1 t49 H fun t50 =>
 p.cvI .i64 t50 fun t51 =>
 p.fs 8 t3 1 t51 H fun H =>
 p.bin .add t31 (si 1) fun t55 =>
 p.iadr 1 a0 t55 fun t56 =>
 p.load false 1 t56 H fun t57 =>
 p.cvI .i64 t57 fun t58 =>
 p.bin .and t58 (si 2) fun t60 =>
 p.bin .gtr t60 i0 fun t61 =>
 p.fs 9 t3 1 t61 H fun H =>
 p.bin .and t58 (si 4) fun t64 =>
 p.bin .gtr t64 i0 fun t65 =>
 p.fs 11 t3 1 t65 H fun H =>
 p.bin .shr t58 (.sc (.int .u64 3)) fun t68 =>
 p.bin .and t68 (si 3) fun t69 =>
 p.fs 14 t3 1 t69 H fun H =>
 p.bin .and t58 (si 32) fun t72 =>
 p.bin .gtr t72 i0 fun t73 =>
 p.fs 15 t3 1 t73 H fun H =>
 p.bin .and t58 (si 64) fun t76 =>
 p.bin .gtr t76 i0 fun t77 =>
 p.fs 18 t3 1 t77 H fun H =>
 p.bin .and t58 (si 128) fun t80 =>
 p.bin .gtr t80 i0 fun t81 =>
 p.fs 16 t3 1 t81 H fun H =>
 p.bin .add t31 (si 2) fun t86 =>
 p.ca 110 88 [a0, t86] H fun t87 H =>
 p.extr t87 0 fun t88 =>
 p.extr t87 1 fun t89 =>
 p.extr t87 2 fun t90 =>
 p.fs 10 t3 1 t88 H fun H =>
 p.ca 108 87 [a0, t89] H fun t96 H =>
 p.extr t96 0 fun t97 =>
 p.extr t96 1 fun t98 =>
 p.extr t96 2 fun t99 =>
 p.fs 7 t3 1 t97 H fun H =>
 p.un .not t90 fun t103 =>
 p.kF t103 H t99 fun t105 H =>
 p.gF t103 H (p.un .not t105) fun t106 H =>
 p.pick t103 bT t106 fun t107 =>
 p.cond t107
 (p.fill Ek [] fun ct108 =>
 p.store 25 t2 (.agg ct108) H fun H =>
 p.load true 25 t2 H fun r0 =>
 k r0 H)
 (p.fadr 11 t3 fun t110 =>
 p.load false 1 t110 H fun t111 =>
 Et (fun (t0 t2 t3 t5 : AV) (H : Ab) => p.fadr 16 t3 fun t138 =>
 p.load false 1 t138 H fun t139 =>
 Et (fun (t0 t2 t3 t5 : AV) (H : Ab) => p.fadr 18 t3 fun t153 =>
 p.load false 1 t153 H fun t154 =>
 Et (fun (t2 t3 : AV) (H : Ab) => p.load true 25 t3 H fun t167 =>
 p.store 25 t2 t167 H fun H =>
 p.load true 25 t2 H fun r0 =>
 k r0 H) fun j3 =>
 p.cond t154
 (p.ca 131 126 [t0, t5] H fun t158 H =>
 p.extr t158 0 fun t159 =>
 p.extr t158 1 fun t160 =>
 p.extr t158 2 fun t161 =>
 p.un .not t161 fun t163 =>
 p.cond t163
 (p.fill Ek [] fun ct164 =>
 p.store 25 t2 (.agg ct164) H fun H =>
 p.load true 25 t2 H fun r0 =>
 k r0 H)
 (p.fadr 19 t3 fun t166 =>
 p.store 1 t166 t159 H fun H =>
 j3 t2 t3 H))
 (j3 t2 t3 H)) fun j2 =>
 p.cond t139
 (p.ca 108 87 [t0, t5] H fun t143 H =>
 p.extr t143 0 fun t144 =>
 p.extr t143 1 fun t145 =>
 p.extr t143 2 fun t146 =>
 p.un .not t146 fun t148 =>
 p.cond t148
 (p.fill Ek [] fun ct149 =>
 p.store 25 t2 (.agg ct149) H fun H =>
 p.load true 25 t2 H fun r0 =>
 k r0 H)
 (p.fadr 17 t3 fun t151 =>
 p.store 1 t151 t144 H fun H =>
 j2 t0 t2 t3 t145 H))
 (j2 t0 t2 t3 t5 H)) fun j1 =>
 p.cond t111
 (p.ca 108 87 [a0, t98] H fun t115 H =>
 p.extr t115 0 fun t116 =>
 p.extr t115 1 fun t117 =>
 p.extr t115 2 fun t118 =>
 p.ca 131 126 [a0, t117] H fun t122 H =>
 p.extr t122 0 fun t123 =>
 p.extr t122 1 fun t124 =>
 p.extr t122 2 fun t125 =>
 p.un .not t118 fun t127 =>
 p.kF t127 H t125 fun t129 H =>
 p.gF t127 H (p.un .not t129) fun t130 H =>
 p.pick t127 bT t130 fun t131 =>
 p.cond t131
 (p.fill Ek [] fun ct132 =>
 p.store 25 t2 (.agg ct132) H fun H =>
 p.load true 25 t2 H fun r0 =>
 k r0 H)
 (p.fadr 12 t3 fun t134 =>
 p.store 1 t134 t116 H fun H =>
 p.fs 13 t3 1 t123 H fun H =>
 j1 a0 t2 t3 t124 H))
 (j1 a0 t2 t3 t98 H)))
theorem Ag0 : Nm Am3 @f86 := fun p n a0 H k => by kernel_rfl
noncomputable def O8 (p : Pr β) (n : Nat)  (k : KO β) : Nat → AV → AV → AV → KO β
 | 0, _, _, _, _, _ => none
 | m + 1, t1, t4, t5, t6, H => p.len t1 fun t134 =>
   p.bin .lss t6 t134 fun t135 =>
   p.lT t135 H 0 t5 1 fun t138 H =>
   p.gT t135 H (p.bin .eql t138 (si 8)) fun t139 H =>
   p.kT t135 H t139 fun t140 H =>
   p.lF t140 H 0 t5 1 fun t142 H =>
   p.gF t140 H (p.bin .eql t142 (si 10)) fun t143 H =>
   p.gT t135 H (p.pick t140 bT t143) fun t144 H =>
   p.pick t135 t144 bF fun t145 =>
   p.cond t145
   (p.ca 108 87 [t1, t6] H fun t149 H =>
   p.extr t149 0 fun t150 =>
   p.extr t149 1 fun t151 =>
   p.extr t149 2 fun t152 =>
   p.un .not t152 fun t154 =>
   p.cond t154
   (p.fill Ek [] fun ct155 =>
   p.store 25 t4 (.agg ct155) H fun H =>
   p.load true 25 t4 H fun r0 =>
   k r0 H)
   (p.fadr 0 t5 fun t157 =>
   p.load false 1 t157 H fun t158 =>
   p.bin .eql t158 (si 10) fun t159 =>
   p.cond t159
   (p.fadr 23 t5 fun t160 =>
   p.load false 1 t160 H fun t161 =>
   p.fill [sE] [(0, 1, t150)] fun ct163 => p.newSl 1 1 ct163 true H fun t163 H =>
   p.app 1 16 t161 t163 H fun t164 H =>
   p.fs 23 t5 1 t164 H fun H =>
   O8 p n  k m t1 t4 t5 t151 H)
   (p.len t1 fun t168 =>
   p.bin .eql t151 t168 fun t169 =>
   p.cond t169
   (p.fill Ek [] fun ct170 =>
   p.store 25 t4 (.agg ct170) H fun H =>
   p.load true 25 t4 H fun r0 =>
   k r0 H)
   (p.fadr 22 t5 fun t171 =>
   p.load false 1 t171 H fun t172 =>
   p.iadr 1 t1 t151 fun t176 =>
   p.load false 1 t176 H fun t177 =>
   p.cvI .i64 t177 fun t178 =>
   p.fill [sE, i0] [(0, 1, t150), (1, 1, t178)] fun ct179 =>
   p.fill [sE, i0] [(0, 2, (.agg ct179))] fun ct180 => p.newSl 1 2 ct180 true H fun t180 H =>
   p.app 2 24 t172 t180 H fun t181 H =>
   p.fs 22 t5 1 t181 H fun H =>
   p.bin .add t151 (si 1) fun t184 =>
   O8 p n  k m t1 t4 t5 t184 H))))
   (p.load true 25 t5 H fun t185 =>
   p.store 25 t4 t185 H fun H =>
   p.load true 25 t4 H fun r0 =>
   k r0 H)
noncomputable def O9 (p : Pr β) (n : Nat)  (k : KO β) : Nat → AV → AV → AV → AV → KO β
 | 0, _, _, _, _, _, _ => none
 | m + 1, t1, t4, t5, t6, t16, H => p.len t1 fun t118 =>
   p.bin .lss t16 t118 fun t119 =>
   p.cond t119
   (p.fadr 24 t5 fun t122 =>
   p.load false 1 t122 H fun t123 =>
   p.iadr 1 t1 t16 fun t126 =>
   p.load false 1 t126 H fun t127 =>
   p.cvI .i64 t127 fun t128 =>
   p.fill [i0] [(0, 1, t128)] fun ct129 => p.newSl 1 1 ct129 true H fun t129 H =>
   p.app 1 8 t123 t129 H fun t130 H =>
   p.fs 24 t5 1 t130 H fun H =>
   p.bin .add t16 (si 1) fun t121 =>
   O9 p n  k m t1 t4 t5 t6 t121 H)
   (O8 p n  k n t1 t4 t5 t6 H)
noncomputable def f63 (n : Nat) (a0 a1 : AV) (H : Ab) (k : KO β) : Option β :=
 p.new Ek H fun t4 H =>
 p.bin .quo a0 (si 16) fun t21 =>
 p.fill Ek [(0, 1, t21)] fun ct22 =>
 p.new Ek H fun t5 H =>
 p.store 25 t5 (.agg ct22) H fun H =>
 p.fl 0 t5 1 H fun t24 =>
 p.bin .eql t24 (si 1) fun t25 =>
 p.cond t25
 (p.ca 59 86 [a1] H fun t27 H =>
 p.store 25 t4 t27 H fun H =>
 p.load true 25 t4 H fun r0 =>
 k r0 H)
 (p.fadr 0 t5 fun t28 =>
 p.load false 1 t28 H fun t29 =>
 p.bin .eql t29 (si 2) fun t30 =>
 p.kT t30 H a1 fun t32 H =>
 p.gT t30 H (p.len t32) fun t33 H =>
 p.gT t30 H (p.bin .eql t33 (si 2)) fun t34 H =>
 p.pick t30 t34 bF fun t35 =>
 p.cond t35
 (p.iadr 1 a1 i0 fun t37 =>
 p.load false 1 t37 H fun t38 =>
 p.bin .eql t38 (su 1) fun t39 =>
 p.fs 21 t5 1 t39 H fun H =>
 p.iadr 1 a1 (si 1) fun t42 =>
 p.load false 1 t42 H fun t43 =>
 p.cvI .i64 t43 fun t44 =>
 p.fs 20 t5 1 t44 H fun H =>
 p.load true 25 t5 H fun t46 =>
 p.store 25 t4 t46 H fun H =>
 p.load true 25 t4 H fun r0 =>
 k r0 H)
 (p.fadr 0 t5 fun t47 =>
 p.load false 1 t47 H fun t48 =>
 p.bin .eql t48 (si 3) fun t49 =>
 p.cond t49
 (p.bin .and a0 (si 8) fun t51 =>
 p.bin .gtr t51 i0 fun t52 =>
 p.fs 1 t5 1 t52 H fun H =>
 p.bin .shr a0 (.sc (.int .u64 1)) fun t55 =>
 p.bin .and t55 (si 3) fun t56 =>
 p.fs 2 t5 1 t56 H fun H =>
 p.bin .and a0 (si 1) fun t59 =>
 p.bin .gtr t59 i0 fun t60 =>
 p.fs 3 t5 1 t60 H fun H =>
 p.ca 108 87 [a1, i0] H fun t64 H =>
 p.extr t64 0 fun t65 =>
 p.extr t64 1 fun t66 =>
 p.extr t64 2 fun t67 =>
 p.un .not t67 fun t69 =>
 p.cond t69
 (p.fill Ek [] fun ct70 =>
 p.store 25 t4 (.agg ct70) H fun H =>
 p.load true 25 t4 H fun r0 =>
 k r0 H)
 (p.fadr 5 t5 fun t72 =>
 p.store 1 t72 t65 H fun H =>
 p.fl 2 t5 1 H fun t75 =>
 p.bin .gtr t75 i0 fun t76 =>
 Et (fun (t1 t4 t5 t6 : AV) (H : Ab) => p.slice 1 t1 (some t6) none fun t93 =>
 p.app 1 1 .nl t93 H fun t94 H =>
 p.fs 6 t5 1 t94 H fun H =>
 p.load true 25 t5 H fun t96 =>
 p.store 25 t4 t96 H fun H =>
 p.load true 25 t4 H fun r0 =>
 k r0 H) fun j1 =>
 p.cond t76
 (p.ca 110 88 [a1, t66] H fun t80 H =>
 p.extr t80 0 fun t81 =>
 p.extr t80 1 fun t82 =>
 p.extr t80 2 fun t83 =>
 p.un .not t83 fun t85 =>
 p.cond t85
 (p.fill Ek [] fun ct86 =>
 p.store 25 t4 (.agg ct86) H fun H =>
 p.load true 25 t4 H fun r0 =>
 k r0 H)
 (p.fadr 4 t5 fun t88 =>
 p.store 1 t88 t81 H fun H =>
 j1 a1 t4 t5 t82 H))
 (j1 a1 t4 t5 t66 H)))
 (p.fadr 0 t5 fun t97 =>
 p.load false 1 t97 H fun t98 =>
 p.bin .lss t98 (si 12) fun t99 =>
 Et (fun (t1 t4 t5 t6 : AV) (H : Ab) => p.fadr 0 t5 fun t112 =>
 p.load false 1 t112 H fun t113 =>
 p.bin .eql t113 (si 9) fun t114 =>
 Et (fun (t1 t4 t5 t6 : AV) (H : Ab) => O8 p n  k n t1 t4 t5 t6 H) fun j3 =>
 p.cond t114
 (O9 p n  k n t1 t4 t5 t6 t6 H)
 (j3 t1 t4 t5 t6 H)) fun j2 =>
 p.cond t99
 (p.ca 110 88 [a1, i0] H fun t102 H =>
 p.extr t102 0 fun t103 =>
 p.extr t102 1 fun t104 =>
 p.extr t102 2 fun t105 =>
 p.un .not t105 fun t107 =>
 p.cond t107
 (p.fill Ek [] fun ct108 =>
 p.store 25 t4 (.agg ct108) H fun H =>
 p.load true 25 t4 H fun r0 =>
 k r0 H)
 (p.fadr 4 t5 fun t110 =>
 p.store 1 t110 t103 H fun H =>
 j2 a1 t4 t5 t104 H))
 (j2 a1 t4 t5 i0 H))))
noncomputable def AbL (p : Pr β) (n : Nat)  (k : KO β) (m : Nat) (tm : Tm) (H : Ab) : Option β :=
 Dd 186 (fun tm H k => Ai As p o63 186 n (cd c63 [1, 1, 1, 1, 1, 1, 1, 1, 0, 0, 0]) tm H k) (Eg 2 (Dw (fun tm H => Ai As p o63 186 n (cd c63 [1, 1, 1, 1, 1, 1, 1, 1, 1]) tm H (Cd As p fi63.results k)) (Cd As p fi63.results k))) m tm H
noncomputable def AfY (p : Pr β) (n : Nat)  (k : KO β) (m : Nat) (tm : Tm) (H : Ab) : Option β :=
 Dd 186 (fun tm H k => Ai As p o63 186 n (cd c63 [1, 1, 1, 1, 1, 1, 1, 0, 1, 1, 1, 0, 0]) tm H k) (Eg 0 (Dw (fun tm H => Ai As p o63 186 n (cd c63 [1, 1, 1, 1, 1, 1, 1, 1]) tm H (Cd As p fi63.results k)) (Cd As p fi63.results k))) m tm H
theorem Yj (p : Pr β) (n : Nat)  (k : KO β) (m0 : Nat) : ∀ (t : Nat → AV) (H : Ab), AbL p n  k m0 (tf 186 0 t) H = O8 p n  k m0 (t 1) (t 4) (t 5) (t 6) H := by
 induction m0 with
 | zero => intros; rfl
 | succ m0 ih =>
  intro t H
  refine Eq.trans (Bh (nt := 186) (m := m0) (g := fun t H => O8 p n  k m0 (t 1) (t 4) (t 5) (t 6) H) ih rfl) ?_
  kernel_rfl
theorem Aa3 (p : Pr β) (n : Nat)  (k : KO β) (m1 : Nat) (t : Nat → AV) (H : Ab) : Ai As p o63 186 n (cd c63 [1, 1, 1, 1, 1, 1, 1, 0, 1, 1, 1, 0, 0]) (tf 186 0 t) H (Dw (fun tm H => O9 p n  k m1 (gt tm 1) (gt tm 4) (gt tm 5) (gt tm 6) (gt tm 16) H) (Eg 0 (Dw (fun tm H => Ai As p o63 186 n (cd c63 [1, 1, 1, 1, 1, 1, 1, 1]) tm H (Cd As p fi63.results k)) (Cd As p fi63.results k)))) =
 p.len (t 1) fun t118 =>
 p.bin .lss (t 16) t118 fun t119 =>
 p.cond t119
 (p.fadr 24 (t 5) fun t122 =>
 p.load false 1 t122 H fun t123 =>
 p.iadr 1 (t 1) (t 16) fun t126 =>
 p.load false 1 t126 H fun t127 =>
 p.cvI .i64 t127 fun t128 =>
 p.fill [i0] [(0, 1, t128)] fun ct129 => p.newSl 1 1 ct129 true H fun t129 H =>
 p.app 1 8 t123 t129 H fun t130 H =>
 p.fadr 24 (t 5) fun t131 =>
 p.store 1 t131 t130 H fun H =>
 p.bin .add (t 16) (si 1) fun t121 =>
 O9 p n  k m1 (t 1) (t 4) (t 5) (t 6) t121 H)
 (AbL p n  k n (tf 186 0 (ud [(116, (t 16)), (117, (t 1)), (118, t118), (119, t119)] t)) H) := by kernel_rfl
theorem Aeq (p : Pr β) (n : Nat)  (k : KO β) (m1 : Nat) : ∀ (t : Nat → AV) (H : Ab), AfY p n  k m1 (tf 186 0 t) H = O9 p n  k m1 (t 1) (t 4) (t 5) (t 6) (t 16) H := by
 induction m1 with
 | zero => intros; rfl
 | succ m1 ih =>
  intro t H
  refine Eq.trans (Bh (nt := 186) (m := m1) (g := fun t H => O9 p n  k m1 (t 1) (t 4) (t 5) (t 6) (t 16) H) ih rfl) ?_
  refine Eq.trans (Aa3 p n  k m1 t H) ?_
  simp only [Yj]
  kernel_rfl
theorem AiL (p : Pr β) (n : Nat) (a0 a1 : AV) (H : Ab) (k : KO β) : B6 As p n fi63 [a0, a1] H k =
 p.new Ek H fun t4 H =>
 p.bin .quo a0 (si 16) fun t21 =>
 p.fill Ek [(0, 1, t21)] fun ct22 =>
 p.new Ek H fun t5 H =>
 p.store 25 t5 (.agg ct22) H fun H =>
 p.fadr 0 t5 fun t23 =>
 p.load false 1 t23 H fun t24 =>
 p.bin .eql t24 (si 1) fun t25 =>
 p.cond t25
 (p.call 59 (.fn 86 [] []) [a1] H fun t27 H =>
 p.store 25 t4 t27 H fun H =>
 p.load true 25 t4 H fun r0 =>
 k r0 H)
 (p.fadr 0 t5 fun t28 =>
 p.load false 1 t28 H fun t29 =>
 p.bin .eql t29 (si 2) fun t30 =>
 p.kT t30 H a1 fun t32 H =>
 p.gT t30 H (p.len t32) fun t33 H =>
 p.gT t30 H (p.bin .eql t33 (si 2)) fun t34 H =>
 p.pick t30 t34 bF fun t35 =>
 p.cond t35
 (p.iadr 1 a1 i0 fun t37 =>
 p.load false 1 t37 H fun t38 =>
 p.bin .eql t38 (su 1) fun t39 =>
 p.fadr 21 t5 fun t40 =>
 p.store 1 t40 t39 H fun H =>
 p.iadr 1 a1 (si 1) fun t42 =>
 p.load false 1 t42 H fun t43 =>
 p.cvI .i64 t43 fun t44 =>
 p.fadr 20 t5 fun t45 =>
 p.store 1 t45 t44 H fun H =>
 p.load true 25 t5 H fun t46 =>
 p.store 25 t4 t46 H fun H =>
 p.load true 25 t4 H fun r0 =>
 k r0 H)
 (p.fadr 0 t5 fun t47 =>
 p.load false 1 t47 H fun t48 =>
 p.bin .eql t48 (si 3) fun t49 =>
 p.cond t49
 (p.bin .and a0 (si 8) fun t51 =>
 p.bin .gtr t51 i0 fun t52 =>
 p.fadr 1 t5 fun t53 =>
 p.store 1 t53 t52 H fun H =>
 p.bin .shr a0 (.sc (.int .u64 1)) fun t55 =>
 p.bin .and t55 (si 3) fun t56 =>
 p.fadr 2 t5 fun t57 =>
 p.store 1 t57 t56 H fun H =>
 p.bin .and a0 (si 1) fun t59 =>
 p.bin .gtr t59 i0 fun t60 =>
 p.fadr 3 t5 fun t61 =>
 p.store 1 t61 t60 H fun H =>
 p.call 108 (.fn 87 [] []) [a1, i0] H fun t64 H =>
 p.extr t64 0 fun t65 =>
 p.extr t64 1 fun t66 =>
 p.extr t64 2 fun t67 =>
 p.un .not t67 fun t69 =>
 p.cond t69
 (p.fill Ek [] fun ct70 =>
 p.store 25 t4 (.agg ct70) H fun H =>
 p.load true 25 t4 H fun r0 =>
 k r0 H)
 (p.fadr 5 t5 fun t72 =>
 p.store 1 t72 t65 H fun H =>
 p.fadr 2 t5 fun t74 =>
 p.load false 1 t74 H fun t75 =>
 p.bin .gtr t75 i0 fun t76 =>
 Et (fun (t : Nat → AV) (H : Ab) => p.slice 1 (t 1) (some (t 6)) none fun t93 =>
 p.app 1 1 .nl t93 H fun t94 H =>
 p.fadr 6 (t 5) fun t95 =>
 p.store 1 t95 t94 H fun H =>
 p.load true 25 (t 5) H fun t96 =>
 p.store 25 (t 4) t96 H fun H =>
 p.load true 25 (t 4) H fun r0 =>
 k r0 H) fun j1 =>
 p.cond t76
 (p.call 110 (.fn 88 [] []) [a1, t66] H fun t80 H =>
 p.extr t80 0 fun t81 =>
 p.extr t80 1 fun t82 =>
 p.extr t80 2 fun t83 =>
 p.un .not t83 fun t85 =>
 p.cond t85
 (p.fill Ek [] fun ct86 =>
 p.store 25 t4 (.agg ct86) H fun H =>
 p.load true 25 t4 H fun r0 =>
 k r0 H)
 (p.fadr 4 t5 fun t88 =>
 p.store 1 t88 t81 H fun H =>
 j1 (ud [(0, a0), (1, a1), (4, t4), (5, t5), (6, t82), (7, t65), (8, t66), (9, t67), (10, t81), (11, t82), (12, t83), (20, a0), (21, t21), (22, (.agg ct22)), (23, t23), (24, t24), (25, t25), (28, t28), (29, t29), (30, t30), (31, t30), (32, t32), (33, t33), (34, t34), (35, t35), (47, t47), (48, t48), (49, t49), (50, a0), (51, t51), (52, t52), (53, t53), (54, a0), (55, t55), (56, t56), (57, t57), (58, a0), (59, t59), (60, t60), (61, t61), (62, t64), (63, a1), (64, t64), (65, t65), (66, t66), (67, t67), (68, t67), (69, t69), (71, t65), (72, t72), (73, t66), (74, t74), (75, t75), (76, t76), (77, t80), (78, a1), (79, t66), (80, t80), (81, t81), (82, t82), (83, t83), (84, t83), (85, t85), (87, t81), (88, t88), (89, t82)] ut) H))
 (j1 (ud [(0, a0), (1, a1), (4, t4), (5, t5), (6, t66), (7, t65), (8, t66), (9, t67), (20, a0), (21, t21), (22, (.agg ct22)), (23, t23), (24, t24), (25, t25), (28, t28), (29, t29), (30, t30), (31, t30), (32, t32), (33, t33), (34, t34), (35, t35), (47, t47), (48, t48), (49, t49), (50, a0), (51, t51), (52, t52), (53, t53), (54, a0), (55, t55), (56, t56), (57, t57), (58, a0), (59, t59), (60, t60), (61, t61), (62, t64), (63, a1), (64, t64), (65, t65), (66, t66), (67, t67), (68, t67), (69, t69), (71, t65), (72, t72), (73, t66), (74, t74), (75, t75), (76, t76)] ut) H)))
 (p.fadr 0 t5 fun t97 =>
 p.load false 1 t97 H fun t98 =>
 p.bin .lss t98 (si 12) fun t99 =>
 Et (fun (t : Nat → AV) (H : Ab) => p.fadr 0 (t 5) fun t112 =>
 p.load false 1 t112 H fun t113 =>
 p.bin .eql t113 (si 9) fun t114 =>
 Et (fun (t : Nat → AV) (H : Ab) => AbL p n  k n (tf 186 0 t) H) fun j3 =>
 p.cond t114
 (AfY p n  k n (tf 186 0 (ud [(16, (t 6)), (112, t112), (113, t113), (114, t114), (115, (t 6))] t)) H)
 (j3 (ud [(112, t112), (113, t113), (114, t114)] t) H)) fun j2 =>
 p.cond t99
 (p.call 110 (.fn 88 [] []) [a1, i0] H fun t102 H =>
 p.extr t102 0 fun t103 =>
 p.extr t102 1 fun t104 =>
 p.extr t102 2 fun t105 =>
 p.un .not t105 fun t107 =>
 p.cond t107
 (p.fill Ek [] fun ct108 =>
 p.store 25 t4 (.agg ct108) H fun H =>
 p.load true 25 t4 H fun r0 =>
 k r0 H)
 (p.fadr 4 t5 fun t110 =>
 p.store 1 t110 t103 H fun H =>
 j2 (ud [(0, a0), (1, a1), (4, t4), (5, t5), (6, t104), (13, t103), (14, t104), (15, t105), (20, a0), (21, t21), (22, (.agg ct22)), (23, t23), (24, t24), (25, t25), (28, t28), (29, t29), (30, t30), (31, t30), (32, t32), (33, t33), (34, t34), (35, t35), (47, t47), (48, t48), (49, t49), (97, t97), (98, t98), (99, t99), (100, t102), (101, a1), (102, t102), (103, t103), (104, t104), (105, t105), (106, t105), (107, t107), (109, t103), (110, t110), (111, t104)] ut) H))
 (j2 (ud [(0, a0), (1, a1), (4, t4), (5, t5), (6, i0), (20, a0), (21, t21), (22, (.agg ct22)), (23, t23), (24, t24), (25, t25), (28, t28), (29, t29), (30, t30), (31, t30), (32, t32), (33, t33), (34, t34), (35, t35), (47, t47), (48, t48), (49, t49), (97, t97), (98, t98), (99, t99)] ut) H)))) := by kernel_rfl
theorem AfZ : Le fi63 @f63 := fun p n a0 a1 H k => by
 rw [AiL]
 simp only [Yj, Aeq]
 kernel_rfl
noncomputable def f90 (n : Nat) (a0 : AV) (H : Ab) (k : KO β) : Option β :=
 p.box a0 H fun t1 H =>
 p.new Ek H fun t2 H =>
 p.fadr 0 t1 fun t4 =>
 p.load false 1 t4 H fun t5 =>
 p.fill Ek [(0, 1, t5)] fun ct6 =>
 p.new Ek H fun t3 H =>
 p.store 25 t3 (.agg ct6) H fun H =>
 p.fadr 0 t1 fun t7 =>
 p.load false 1 t7 H fun t8 =>
 p.bin .eql t8 (si 1) fun t10 =>
 p.cond t10
 (p.fadr 8 t1 fun t11 =>
 p.load false 1 t11 H fun t12 =>
 p.fadr 8 t3 fun t13 =>
 p.store 1 t13 t12 H fun H =>
 p.fadr 7 t1 fun t14 =>
 p.load false 1 t14 H fun t15 =>
 p.fadr 7 t3 fun t16 =>
 p.store 1 t16 t15 H fun H =>
 p.fadr 9 t1 fun t17 =>
 p.load false 1 t17 H fun t18 =>
 p.fadr 9 t3 fun t19 =>
 p.store 1 t19 t18 H fun H =>
 p.fadr 10 t1 fun t20 =>
 p.load false 1 t20 H fun t21 =>
 p.fadr 10 t3 fun t22 =>
 p.store 1 t22 t21 H fun H =>
 p.fadr 11 t1 fun t23 =>
 p.load false 1 t23 H fun t24 =>
 Et (fun (t1 t2 t3 : AV) (H : Ab) => p.fadr 16 t1 fun t38 =>
 p.load false 1 t38 H fun t39 =>
 p.cond t39
 (p.fadr 16 t3 fun t40 =>
 p.store 1 t40 bT H fun H =>
 p.fadr 17 t1 fun t41 =>
 p.load false 1 t41 H fun t42 =>
 p.fadr 17 t3 fun t43 =>
 p.store 1 t43 t42 H fun H =>
 p.fadr 18 t1 fun t44 =>
 p.load false 1 t44 H fun t45 =>
 p.cond t45
 (p.fadr 18 t3 fun t46 =>
 p.store 1 t46 bT H fun H =>
 p.fadr 19 t1 fun t47 =>
 p.load false 1 t47 H fun t48 =>
 p.fadr 19 t3 fun t49 =>
 p.store 1 t49 t48 H fun H =>
 p.load true 25 t3 H fun t119 =>
 p.store 25 t2 t119 H fun H =>
 p.load true 25 t2 H fun r0 =>
 k r0 H)
 (p.load true 25 t3 H fun t119 =>
 p.store 25 t2 t119 H fun H =>
 p.load true 25 t2 H fun r0 =>
 k r0 H))
 (p.load true 25 t3 H fun t119 =>
 p.store 25 t2 t119 H fun H =>
 p.load true 25 t2 H fun r0 =>
 k r0 H)) fun j1 =>
 p.cond t24
 (p.fadr 11 t3 fun t25 =>
 p.store 1 t25 bT H fun H =>
 p.fadr 12 t1 fun t26 =>
 p.load false 1 t26 H fun t27 =>
 p.fadr 12 t3 fun t28 =>
 p.store 1 t28 t27 H fun H =>
 p.fadr 13 t1 fun t29 =>
 p.load false 1 t29 H fun t30 =>
 p.fadr 13 t3 fun t31 =>
 p.store 1 t31 t30 H fun H =>
 p.fadr 14 t1 fun t32 =>
 p.load false 1 t32 H fun t33 =>
 p.fadr 14 t3 fun t34 =>
 p.store 1 t34 t33 H fun H =>
 p.fadr 15 t1 fun t35 =>
 p.load false 1 t35 H fun t36 =>
 p.fadr 15 t3 fun t37 =>
 p.store 1 t37 t36 H fun H =>
 j1 t1 t2 t3 H)
 (j1 t1 t2 t3 H))
 (p.bin .eql t8 (si 2) fun t51 =>
 p.cond t51
 (p.fadr 20 t1 fun t52 =>
 p.load false 1 t52 H fun t53 =>
 p.fadr 20 t3 fun t54 =>
 p.store 1 t54 t53 H fun H =>
 p.fadr 21 t1 fun t55 =>
 p.load false 1 t55 H fun t56 =>
 p.gT t56 H (p.fadr 20 t1) fun t58 H =>
 p.gT t56 H (p.load false 1 t58 H) fun t59 H =>
 p.gT t56 H (p.bin .eql t59 i0) fun t60 H =>
 p.pick t56 t60 bF fun t61 =>
 p.fadr 21 t3 fun t62 =>
 p.store 1 t62 t61 H fun H =>
 p.load true 25 t3 H fun t119 =>
 p.store 25 t2 t119 H fun H =>
 p.load true 25 t2 H fun r0 =>
 k r0 H)
 (p.bin .eql t8 (si 3) fun t64 =>
 p.cond t64
 (p.fadr 2 t1 fun t65 =>
 p.load false 1 t65 H fun t66 =>
 p.fadr 2 t3 fun t67 =>
 p.store 1 t67 t66 H fun H =>
 p.fadr 3 t1 fun t68 =>
 p.load false 1 t68 H fun t69 =>
 p.fadr 3 t3 fun t70 =>
 p.store 1 t70 t69 H fun H =>
 p.fadr 5 t1 fun t71 =>
 p.load false 1 t71 H fun t72 =>
 p.fadr 5 t3 fun t73 =>
 p.store 1 t73 t72 H fun H =>
 p.fadr 6 t1 fun t74 =>
 p.load false 1 t74 H fun t75 =>
 p.fadr 6 t3 fun t76 =>
 p.store 1 t76 t75 H fun H =>
 p.fadr 2 t1 fun t77 =>
 p.load false 1 t77 H fun t78 =>
 p.bin .gtr t78 i0 fun t79 =>
 p.cond t79
 (p.fadr 1 t1 fun t80 =>
 p.load false 1 t80 H fun t81 =>
 p.fadr 1 t3 fun t82 =>
 p.store 1 t82 t81 H fun H =>
 p.fadr 4 t1 fun t83 =>
 p.load false 1 t83 H fun t84 =>
 p.fadr 4 t3 fun t85 =>
 p.store 1 t85 t84 H fun H =>
 p.load true 25 t3 H fun t119 =>
 p.store 25 t2 t119 H fun H =>
 p.load true 25 t2 H fun r0 =>
 k r0 H)
 (p.load true 25 t3 H fun t119 =>
 p.store 25 t2 t119 H fun H =>
 p.load true 25 t2 H fun r0 =>
 k r0 H))
 (p.bin .eql t8 (si 4) fun t87 =>
 Et (fun (t1 t2 t3 t8 t86 : AV) (H : Ab) => p.cond t86
 (p.fadr 4 t1 fun t92 =>
 p.load false 1 t92 H fun t93 =>
 p.fadr 4 t3 fun t94 =>
 p.store 1 t94 t93 H fun H =>
 p.load true 25 t3 H fun t119 =>
 p.store 25 t2 t119 H fun H =>
 p.load true 25 t2 H fun r0 =>
 k r0 H)
 (p.bin .eql t8 (si 8) fun t96 =>
 p.cond t96
 (p.fadr 4 t1 fun t97 =>
 p.load false 1 t97 H fun t98 =>
 p.fadr 4 t3 fun t99 =>
 p.store 1 t99 t98 H fun H =>
 p.fadr 22 t1 fun t100 =>
 p.load false 1 t100 H fun t101 =>
 p.fadr 22 t3 fun t102 =>
 p.store 1 t102 t101 H fun H =>
 p.load true 25 t3 H fun t119 =>
 p.store 25 t2 t119 H fun H =>
 p.load true 25 t2 H fun r0 =>
 k r0 H)
 (p.bin .eql t8 (si 9) fun t104 =>
 p.cond t104
 (p.fadr 4 t1 fun t105 =>
 p.load false 1 t105 H fun t106 =>
 p.fadr 4 t3 fun t107 =>
 p.store 1 t107 t106 H fun H =>
 p.fadr 24 t1 fun t108 =>
 p.load false 1 t108 H fun t109 =>
 p.fadr 24 t3 fun t110 =>
 p.store 1 t110 t109 H fun H =>
 p.load true 25 t3 H fun t119 =>
 p.store 25 t2 t119 H fun H =>
 p.load true 25 t2 H fun r0 =>
 k r0 H)
 (p.bin .eql t8 (si 10) fun t112 =>
 p.cond t112
 (p.fadr 4 t1 fun t113 =>
 p.load false 1 t113 H fun t114 =>
 p.fadr 4 t3 fun t115 =>
 p.store 1 t115 t114 H fun H =>
 p.fadr 23 t1 fun t116 =>
 p.load false 1 t116 H fun t117 =>
 p.fadr 23 t3 fun t118 =>
 p.store 1 t118 t117 H fun H =>
 p.load true 25 t3 H fun t119 =>
 p.store 25 t2 t119 H fun H =>
 p.load true 25 t2 H fun r0 =>
 k r0 H)
 (p.load true 25 t3 H fun t119 =>
 p.store 25 t2 t119 H fun H =>
 p.load true 25 t2 H fun r0 =>
 k r0 H))))) fun j2 =>
 p.cond t87
 (j2 t1 t2 t3 t8 t87 H)
 (p.bin .eql t8 (si 5) fun t88 =>
 p.cond t88
 (j2 t1 t2 t3 t8 t88 H)
 (p.bin .eql t8 (si 6) fun t89 =>
 p.cond t89
 (j2 t1 t2 t3 t8 t89 H)
 (p.bin .eql t8 (si 7) fun t90 =>
 p.cond t90
 (j2 t1 t2 t3 t8 t90 H)
 (p.bin .eql t8 (si 11) fun t91 =>
 j2 t1 t2 t3 t8 t91 H)))))))
theorem Ag7 : Nm Am6 @f90 := fun p n a0 H k => by kernel_rfl
noncomputable def f65 (n : Nat) (a0 a1 : AV) (H : Ab) (k : KO β) : Option β :=
 p.cvBS a0 H fun t6 =>
 p.cvBS a1 H fun t8 =>
 p.bin .eql t6 t8 fun t9 =>
 k t9 H
theorem Agb : Le Amv @f65 := fun p n a0 a1 H k => by kernel_rfl
noncomputable def Pa (p : Pr β) (n : Nat)  (k : KO β) : Nat → AV → AV → KO β
 | 0, _, _, _, _ => none
 | m + 1, t2, t3, t7, H => p.fadr 24 t2 fun t70 =>
   p.load false 1 t70 H fun t71 =>
   p.len t71 fun t72 =>
   p.bin .lss t7 t72 fun t73 =>
   p.cond t73
   (p.fadr 24 t2 fun t76 =>
   p.load false 1 t76 H fun t77 =>
   p.iadr 1 t77 t7 fun t79 =>
   p.load false 1 t79 H fun t80 =>
   p.fadr 24 t3 fun t81 =>
   p.load false 1 t81 H fun t82 =>
   p.iadr 1 t82 t7 fun t84 =>
   p.load false 1 t84 H fun t85 =>
   p.bin .neq t80 t85 fun t86 =>
   p.cond t86
   (k bF H)
   (p.bin .add t7 (si 1) fun t75 =>
   Pa p n  k m t2 t3 t75 H))
   (p.fadr 0 t2 fun t87 =>
   p.load false 1 t87 H fun t88 =>
   p.fadr 0 t3 fun t89 =>
   p.load false 1 t89 H fun t90 =>
   p.bin .eql t88 t90 fun t91 =>
   p.gT t91 H (p.fadr 1 t2) fun t93 H =>
   p.gT t91 H (p.load false 1 t93 H) fun t94 H =>
   p.gT t91 H (p.fadr 1 t3) fun t95 H =>
   p.gT t91 H (p.load false 1 t95 H) fun t96 H =>
   p.gT t91 H (p.binB .eql t94 t96) fun t97 H =>
   p.pick t91 t97 bF fun t98 =>
   p.gT t98 H (p.fadr 2 t2) fun t100 H =>
   p.gT t98 H (p.load false 1 t100 H) fun t101 H =>
   p.gT t98 H (p.fadr 2 t3) fun t102 H =>
   p.gT t98 H (p.load false 1 t102 H) fun t103 H =>
   p.gT t98 H (p.bin .eql t101 t103) fun t104 H =>
   p.pick t98 t104 bF fun t105 =>
   p.gT t105 H (p.fadr 3 t2) fun t107 H =>
   p.gT t105 H (p.load false 1 t107 H) fun t108 H =>
   p.gT t105 H (p.fadr 3 t3) fun t109 H =>
   p.gT t105 H (p.load false 1 t109 H) fun t110 H =>
   p.gT t105 H (p.binB .eql t108 t110) fun t111 H =>
   p.pick t105 t111 bF fun t112 =>
   p.gT t112 H (p.fadr 4 t2) fun t114 H =>
   p.gT t112 H (p.load false 1 t114 H) fun t115 H =>
   p.gT t112 H (p.fadr 4 t3) fun t116 H =>
   p.gT t112 H (p.load false 1 t116 H) fun t117 H =>
   p.gT t112 H (p.bin .eql t115 t117) fun t118 H =>
   p.pick t112 t118 bF fun t119 =>
   p.gT t119 H (p.fadr 5 t2) fun t121 H =>
   p.gT t119 H (p.load false 1 t121 H) fun t122 H =>
   p.gT t119 H (p.fadr 5 t3) fun t123 H =>
   p.gT t119 H (p.load false 1 t123 H) fun t124 H =>
   p.gT t119 H (p.bin .eql t122 t124) fun t125 H =>
   p.pick t119 t125 bF fun t126 =>
   p.gT t126 H (p.fadr 6 t2) fun t128 H =>
   p.gT t126 H (p.load false 1 t128 H) fun t129 H =>
   p.gT t126 H (p.fadr 6 t3) fun t130 H =>
   p.gT t126 H (p.load false 1 t130 H) fun t131 H =>
   p.hT t126 H (p.call 4 (.fn 65 [] []) [t129, t131] H) fun t132 H =>
   p.pick t126 t132 bF fun t133 =>
   p.gT t133 H (p.fadr 7 t2) fun t135 H =>
   p.gT t133 H (p.load false 1 t135 H) fun t136 H =>
   p.gT t133 H (p.fadr 7 t3) fun t137 H =>
   p.gT t133 H (p.load false 1 t137 H) fun t138 H =>
   p.gT t133 H (p.bin .eql t136 t138) fun t139 H =>
   p.pick t133 t139 bF fun t140 =>
   p.gT t140 H (p.fadr 8 t2) fun t142 H =>
   p.gT t140 H (p.load false 1 t142 H) fun t143 H =>
   p.gT t140 H (p.fadr 8 t3) fun t144 H =>
   p.gT t140 H (p.load false 1 t144 H) fun t145 H =>
   p.gT t140 H (p.bin .eql t143 t145) fun t146 H =>
   p.pick t140 t146 bF fun t147 =>
   p.gT t147 H (p.fadr 9 t2) fun t149 H =>
   p.gT t147 H (p.load false 1 t149 H) fun t150 H =>
   p.gT t147 H (p.fadr 9 t3) fun t151 H =>
   p.gT t147 H (p.load false 1 t151 H) fun t152 H =>
   p.gT t147 H (p.binB .eql t150 t152) fun t153 H =>
   p.pick t147 t153 bF fun t154 =>
   p.gT t154 H (p.fadr 10 t2) fun t156 H =>
   p.gT t154 H (p.load false 1 t156 H) fun t157 H =>
   p.gT t154 H (p.fadr 10 t3) fun t158 H =>
   p.gT t154 H (p.load false 1 t158 H) fun t159 H =>
   p.gT t154 H (p.bin .eql t157 t159) fun t160 H =>
   p.pick t154 t160 bF fun t161 =>
   p.gT t161 H (p.fadr 11 t2) fun t163 H =>
   p.gT t161 H (p.load false 1 t163 H) fun t164 H =>
   p.gT t161 H (p.fadr 11 t3) fun t165 H =>
   p.gT t161 H (p.load false 1 t165 H) fun t166 H =>
   p.gT t161 H (p.binB .eql t164 t166) fun t167 H =>
   p.pick t161 t167 bF fun t168 =>
   p.gT t168 H (p.fadr 12 t2) fun t170 H =>
   p.gT t168 H (p.load false 1 t170 H) fun t171 H =>
   p.gT t168 H (p.fadr 12 t3) fun t172 H =>
   p.gT t168 H (p.load false 1 t172 H) fun t173 H =>
   p.gT t168 H (p.bin .eql t171 t173) fun t174 H =>
   p.pick t168 t174 bF fun t175 =>
   p.gT t175 H (p.fadr 13 t2) fun t177 H =>
   p.gT t175 H (p.load false 1 t177 H) fun t178 H =>
   p.gT t175 H (p.fadr 13 t3) fun t179 H =>
   p.gT t175 H (p.load false 1 t179 H) fun t180 H =>
   p.hT t175 H (p.call 4 (.fn 65 [] []) [t178, t180] H) fun t181 H =>
   p.pick t175 t181 bF fun t182 =>
   p.gT t182 H (p.fadr 14 t2) fun t184 H =>
   p.gT t182 H (p.load false 1 t184 H) fun t185 H =>
   p.gT t182 H (p.fadr 14 t3) fun t186 H =>
   p.gT t182 H (p.load false 1 t186 H) fun t187 H =>
   p.gT t182 H (p.bin .eql t185 t187) fun t188 H =>
   p.pick t182 t188 bF fun t189 =>
   p.gT t189 H (p.fadr 15 t2) fun t191 H =>
   p.gT t189 H (p.load false 1 t191 H) fun t192 H =>
   p.gT t189 H (p.fadr 15 t3) fun t193 H =>
   p.gT t189 H (p.load false 1 t193 H) fun t194 H =>
   p.gT t189 H (p.binB .eql t192 t194) fun t195 H =>
   p.pick t189 t195 bF fun t196 =>
   p.gT t196 H (p.fadr 16 t2) fun t198 H =>
   p.gT t196 H (p.load false 1 t198 H) fun t199 H =>
   p.gT t196 H (p.fadr 16 t3) fun t200 H =>
   p.gT t196 H (p.load false 1 t200 H) fun t201 H =>
   p.gT t196 H (p.binB .eql t199 t201) fun t202 H =>
   p.pick t196 t202 bF fun t203 =>
   p.gT t203 H (p.fadr 17 t2) fun t205 H =>
   p.gT t203 H (p.load false 1 t205 H) fun t206 H =>
   p.gT t203 H (p.fadr 17 t3) fun t207 H =>
   p.gT t203 H (p.load false 1 t207 H) fun t208 H =>
   p.gT t203 H (p.bin .eql t206 t208) fun t209 H =>
   p.pick t203 t209 bF fun t210 =>
   p.gT t210 H (p.fadr 18 t2) fun t212 H =>
   p.gT t210 H (p.load false 1 t212 H) fun t213 H =>
   p.gT t210 H (p.fadr 18 t3) fun t214 H =>
   p.gT t210 H (p.load false 1 t214 H) fun t215 H =>
   p.gT t210 H (p.binB .eql t213 t215) fun t216 H =>
   p.pick t210 t216 bF fun t217 =>
   p.gT t217 H (p.fadr 19 t2) fun t219 H =>
   p.gT t217 H (p.load false 1 t219 H) fun t220 H =>
   p.gT t217 H (p.fadr 19 t3) fun t221 H =>
   p.gT t217 H (p.load false 1 t221 H) fun t222 H =>
   p.hT t217 H (p.call 4 (.fn 65 [] []) [t220, t222] H) fun t223 H =>
   p.pick t217 t223 bF fun t224 =>
   p.gT t224 H (p.fadr 20 t2) fun t226 H =>
   p.gT t224 H (p.load false 1 t226 H) fun t227 H =>
   p.gT t224 H (p.fadr 20 t3) fun t228 H =>
   p.gT t224 H (p.load false 1 t228 H) fun t229 H =>
   p.gT t224 H (p.bin .eql t227 t229) fun t230 H =>
   p.pick t224 t230 bF fun t231 =>
   p.gT t231 H (p.fadr 21 t2) fun t233 H =>
   p.gT t231 H (p.load false 1 t233 H) fun t234 H =>
   p.gT t231 H (p.fadr 21 t3) fun t235 H =>
   p.gT t231 H (p.load false 1 t235 H) fun t236 H =>
   p.gT t231 H (p.binB .eql t234 t236) fun t237 H =>
   p.pick t231 t237 bF fun t238 =>
   k t238 H)
noncomputable def Mp (p : Pr β) (n : Nat)  (k : KO β) : Nat → AV → AV → KO β
 | 0, _, _, _, _ => none
 | m + 1, t2, t3, t6, H => p.fadr 23 t2 fun t52 =>
   p.load false 1 t52 H fun t53 =>
   p.len t53 fun t54 =>
   p.bin .lss t6 t54 fun t55 =>
   p.cond t55
   (p.fadr 23 t2 fun t58 =>
   p.load false 1 t58 H fun t59 =>
   p.iadr 1 t59 t6 fun t61 =>
   p.load false 1 t61 H fun t62 =>
   p.fadr 23 t3 fun t63 =>
   p.load false 1 t63 H fun t64 =>
   p.iadr 1 t64 t6 fun t66 =>
   p.load false 1 t66 H fun t67 =>
   p.bin .neq t62 t67 fun t68 =>
   p.cond t68
   (k bF H)
   (p.bin .add t6 (si 1) fun t57 =>
   Mp p n  k m t2 t3 t57 H))
   (Pa p n  k n t2 t3 i0 H)
noncomputable def Mo (p : Pr β) (n : Nat)  (k : KO β) : Nat → AV → AV → KO β
 | 0, _, _, _, _ => none
 | m + 1, t2, t3, t5, H => p.fadr 22 t2 fun t34 =>
   p.load false 1 t34 H fun t35 =>
   p.len t35 fun t36 =>
   p.bin .lss t5 t36 fun t37 =>
   p.cond t37
   (p.fadr 22 t2 fun t40 =>
   p.load false 1 t40 H fun t41 =>
   p.iadr 2 t41 t5 fun t43 =>
   p.load true 2 t43 H fun t44 =>
   p.fadr 22 t3 fun t45 =>
   p.load false 1 t45 H fun t46 =>
   p.iadr 2 t46 t5 fun t48 =>
   p.load true 2 t48 H fun t49 =>
   p.binA .neq [1, 0] t44 t49 fun t50 =>
   p.cond t50
   (k bF H)
   (p.bin .add t5 (si 1) fun t39 =>
   Mo p n  k m t2 t3 t39 H))
   (Mp p n  k n t2 t3 i0 H)
noncomputable def f89 (n : Nat) (a0 a1 : AV) (H : Ab) (k : KO β) : Option β :=
 p.box a0 H fun t2 H =>
 p.box a1 H fun t3 H =>
 p.fadr 22 t2 fun t8 =>
 p.load false 1 t8 H fun t9 =>
 p.len t9 fun t10 =>
 p.fadr 22 t3 fun t11 =>
 p.load false 1 t11 H fun t12 =>
 p.len t12 fun t13 =>
 p.bin .neq t10 t13 fun t14 =>
 p.gF t14 H (p.fadr 23 t2) fun t16 H =>
 p.gF t14 H (p.load false 1 t16 H) fun t17 H =>
 p.gF t14 H (p.len t17) fun t18 H =>
 p.gF t14 H (p.fadr 23 t3) fun t19 H =>
 p.gF t14 H (p.load false 1 t19 H) fun t20 H =>
 p.gF t14 H (p.len t20) fun t21 H =>
 p.gF t14 H (p.bin .neq t18 t21) fun t22 H =>
 p.pick t14 bT t22 fun t23 =>
 p.gF t23 H (p.fadr 24 t2) fun t25 H =>
 p.gF t23 H (p.load false 1 t25 H) fun t26 H =>
 p.gF t23 H (p.len t26) fun t27 H =>
 p.gF t23 H (p.fadr 24 t3) fun t28 H =>
 p.gF t23 H (p.load false 1 t28 H) fun t29 H =>
 p.gF t23 H (p.len t29) fun t30 H =>
 p.gF t23 H (p.bin .neq t27 t30) fun t31 H =>
 p.pick t23 bT t31 fun t32 =>
 p.cond t32
 (k bF H)
 (Mo p n  k n t2 t3 i0 H)
noncomputable def Ag5 (p : Pr β) (n : Nat)  (k : KO β) (m : Nat) (tm : Tm) (H : Ab) : Option β :=
 Dd 239 (fun tm H k => Ai As p o89 239 n (cd c89 [1, 1, 1, 1, 0, 1, 0, 0]) tm H k) (Eg 4 (Dw (fun tm H => Ai As p o89 239 n (cd c89 [1, 1, 1, 1, 1]) tm H (Cd As p fi89.results k)) (Cd As p fi89.results k))) m tm H
noncomputable def Ag4 (p : Pr β) (n : Nat)  (k : KO β) (m : Nat) (tm : Tm) (H : Ab) : Option β :=
 Dd 239 (fun tm H k => Ai As p o89 239 n (cd c89 [1, 1, 1, 0, 1, 0, 0]) tm H k) (Eg 2 (Dw (fun tm H => Ai As p o89 239 n (cd c89 [1, 1, 1, 1]) tm H (Cd As p fi89.results k)) (Cd As p fi89.results k))) m tm H
noncomputable def Ag3 (p : Pr β) (n : Nat)  (k : KO β) (m : Nat) (tm : Tm) (H : Ab) : Option β :=
 Dd 239 (fun tm H k => Ai As p o89 239 n (cd c89 [1, 1, 0, 1, 0, 0]) tm H k) (Eg 0 (Dw (fun tm H => Ai As p o89 239 n (cd c89 [1, 1, 1]) tm H (Cd As p fi89.results k)) (Cd As p fi89.results k))) m tm H
theorem Yn (p : Pr β) (n : Nat)  (k : KO β) (m2 : Nat) : ∀ (t : Nat → AV) (H : Ab), Ag5 p n  k m2 (tf 239 0 t) H = Pa p n  k m2 (t 2) (t 3) (t 7) H := by
 induction m2 with
 | zero => intros; rfl
 | succ m2 ih =>
  intro t H
  refine Eq.trans (Bh (nt := 239) (m := m2) (g := fun t H => Pa p n  k m2 (t 2) (t 3) (t 7) H) ih rfl) ?_
  kernel_rfl
theorem Aa7 (p : Pr β) (n : Nat)  (k : KO β) (m1 : Nat) (t : Nat → AV) (H : Ab) : Ai As p o89 239 n (cd c89 [1, 1, 1, 0, 1, 0, 0]) (tf 239 0 t) H (Dw (fun tm H => Mp p n  k m1 (gt tm 2) (gt tm 3) (gt tm 6) H) (Eg 2 (Dw (fun tm H => Ai As p o89 239 n (cd c89 [1, 1, 1, 1]) tm H (Cd As p fi89.results k)) (Cd As p fi89.results k)))) =
 p.fadr 23 (t 2) fun t52 =>
 p.load false 1 t52 H fun t53 =>
 p.len t53 fun t54 =>
 p.bin .lss (t 6) t54 fun t55 =>
 p.cond t55
 (p.fadr 23 (t 2) fun t58 =>
 p.load false 1 t58 H fun t59 =>
 p.iadr 1 t59 (t 6) fun t61 =>
 p.load false 1 t61 H fun t62 =>
 p.fadr 23 (t 3) fun t63 =>
 p.load false 1 t63 H fun t64 =>
 p.iadr 1 t64 (t 6) fun t66 =>
 p.load false 1 t66 H fun t67 =>
 p.bin .neq t62 t67 fun t68 =>
 p.cond t68
 (k bF H)
 (p.bin .add (t 6) (si 1) fun t57 =>
 Mp p n  k m1 (t 2) (t 3) t57 H))
 (Ag5 p n  k n (tf 239 0 (ud [(7, i0), (51, (t 6)), (52, t52), (53, t53), (54, t54), (55, t55)] t)) H) := by kernel_rfl
theorem Ym (p : Pr β) (n : Nat)  (k : KO β) (m1 : Nat) : ∀ (t : Nat → AV) (H : Ab), Ag4 p n  k m1 (tf 239 0 t) H = Mp p n  k m1 (t 2) (t 3) (t 6) H := by
 induction m1 with
 | zero => intros; rfl
 | succ m1 ih =>
  intro t H
  refine Eq.trans (Bh (nt := 239) (m := m1) (g := fun t H => Mp p n  k m1 (t 2) (t 3) (t 6) H) ih rfl) ?_
  refine Eq.trans (Aa7 p n  k m1 t H) ?_
  simp only [Yn]
  kernel_rfl
theorem Aa6 (p : Pr β) (n : Nat)  (k : KO β) (m0 : Nat) (t : Nat → AV) (H : Ab) : Ai As p o89 239 n (cd c89 [1, 1, 0, 1, 0, 0]) (tf 239 0 t) H (Dw (fun tm H => Mo p n  k m0 (gt tm 2) (gt tm 3) (gt tm 5) H) (Eg 0 (Dw (fun tm H => Ai As p o89 239 n (cd c89 [1, 1, 1]) tm H (Cd As p fi89.results k)) (Cd As p fi89.results k)))) =
 p.fadr 22 (t 2) fun t34 =>
 p.load false 1 t34 H fun t35 =>
 p.len t35 fun t36 =>
 p.bin .lss (t 5) t36 fun t37 =>
 p.cond t37
 (p.fadr 22 (t 2) fun t40 =>
 p.load false 1 t40 H fun t41 =>
 p.iadr 2 t41 (t 5) fun t43 =>
 p.load true 2 t43 H fun t44 =>
 p.fadr 22 (t 3) fun t45 =>
 p.load false 1 t45 H fun t46 =>
 p.iadr 2 t46 (t 5) fun t48 =>
 p.load true 2 t48 H fun t49 =>
 p.binA .neq [1, 0] t44 t49 fun t50 =>
 p.cond t50
 (k bF H)
 (p.bin .add (t 5) (si 1) fun t39 =>
 Mo p n  k m0 (t 2) (t 3) t39 H))
 (Ag4 p n  k n (tf 239 0 (ud [(6, i0), (33, (t 5)), (34, t34), (35, t35), (36, t36), (37, t37)] t)) H) := by kernel_rfl
theorem Ae1 (p : Pr β) (n : Nat)  (k : KO β) (m0 : Nat) : ∀ (t : Nat → AV) (H : Ab), Ag3 p n  k m0 (tf 239 0 t) H = Mo p n  k m0 (t 2) (t 3) (t 5) H := by
 induction m0 with
 | zero => intros; rfl
 | succ m0 ih =>
  intro t H
  refine Eq.trans (Bh (nt := 239) (m := m0) (g := fun t H => Mo p n  k m0 (t 2) (t 3) (t 5) H) ih rfl) ?_
  refine Eq.trans (Aa6 p n  k m0 t H) ?_
  simp only [Ym]
  kernel_rfl
theorem AiV (p : Pr β) (n : Nat) (a0 a1 : AV) (H : Ab) (k : KO β) : B6 As p n fi89 [a0, a1] H k =
 p.box a0 H fun t2 H =>
 p.box a1 H fun t3 H =>
 p.fadr 22 t2 fun t8 =>
 p.load false 1 t8 H fun t9 =>
 p.len t9 fun t10 =>
 p.fadr 22 t3 fun t11 =>
 p.load false 1 t11 H fun t12 =>
 p.len t12 fun t13 =>
 p.bin .neq t10 t13 fun t14 =>
 p.gF t14 H (p.fadr 23 t2) fun t16 H =>
 p.gF t14 H (p.load false 1 t16 H) fun t17 H =>
 p.gF t14 H (p.len t17) fun t18 H =>
 p.gF t14 H (p.fadr 23 t3) fun t19 H =>
 p.gF t14 H (p.load false 1 t19 H) fun t20 H =>
 p.gF t14 H (p.len t20) fun t21 H =>
 p.gF t14 H (p.bin .neq t18 t21) fun t22 H =>
 p.pick t14 bT t22 fun t23 =>
 p.gF t23 H (p.fadr 24 t2) fun t25 H =>
 p.gF t23 H (p.load false 1 t25 H) fun t26 H =>
 p.gF t23 H (p.len t26) fun t27 H =>
 p.gF t23 H (p.fadr 24 t3) fun t28 H =>
 p.gF t23 H (p.load false 1 t28 H) fun t29 H =>
 p.gF t23 H (p.len t29) fun t30 H =>
 p.gF t23 H (p.bin .neq t27 t30) fun t31 H =>
 p.pick t23 bT t31 fun t32 =>
 p.cond t32
 (k bF H)
 (Ag3 p n  k n (tf 239 0 (ud [(0, a0), (1, a1), (2, t2), (3, t3), (4, bF), (5, i0), (8, t8), (9, t9), (10, t10), (11, t11), (12, t12), (13, t13), (14, t14), (15, t14), (16, t16), (17, t17), (18, t18), (19, t19), (20, t20), (21, t21), (22, t22), (23, t23), (24, t23), (25, t25), (26, t26), (27, t27), (28, t28), (29, t29), (30, t30), (31, t31), (32, t32)] ut)) H) := by kernel_rfl
theorem Ag6 : Le fi89 @f89 := fun p n a0 a1 H k => by
 rw [AiV]
 simp only [Yn, Ym, Ae1]
 kernel_rfl
noncomputable def Ny (p : Pr β) (n : Nat)  (k : KO β) : Nat → AV → AV → KO β
 | 0, _, _, _, _ => none
 | m + 1, t0, t1, t5, H => p.lenS t0 fun t8 =>
   p.bin .lss t5 t8 fun t9 =>
   p.cond t9
   (p.idx t0 t5 fun t14 =>
   p.bin .eql t14 t1 fun t16 =>
   p.cond t16
   (k bT H)
   (p.bin .add t5 (si 1) fun t11 =>
   Ny p n  k m t0 t1 t11 H))
   (k bF H)
noncomputable def f127 (n : Nat) (a0 a1 : AV) (H : Ab) (k : KO β) : Option β :=
 Ny p n  k n a0 a1 i0 H
noncomputable def AcE (p : Pr β) (n : Nat)  (k : KO β) (m : Nat) (tm : Tm) (H : Ab) : Option β :=
 Dd 17 (fun tm H k => Ai As p [] 17 n (cd AkG [1, 0, 1, 0, 0]) tm H k) (Eg 0 (Dw (fun tm H => Ai As p [] 17 n (cd AkG [1, 1]) tm H (Cd As p fi127.results k)) (Cd As p fi127.results k))) m tm H
theorem AbE (p : Pr β) (n : Nat)  (k : KO β) (m0 : Nat) : ∀ (t : Nat → AV) (H : Ab), AcE p n  k m0 (tf 17 0 t) H = Ny p n  k m0 (t 0) (t 1) (t 5) H := by
 induction m0 with
 | zero => intros; rfl
 | succ m0 ih =>
  intro t H
  refine Eq.trans (Bh (nt := 17) (m := m0) (g := fun t H => Ny p n  k m0 (t 0) (t 1) (t 5) H) ih rfl) ?_
  kernel_rfl
theorem Afq (p : Pr β) (n : Nat) (a0 a1 : AV) (H : Ab) (k : KO β) : B6 As p n fi127 [a0, a1] H k =
 AcE p n  k n (tf 17 0 (ud [(0, a0), (1, a1), (4, bF), (5, i0)] ut)) H := by kernel_rfl
theorem AdI : Le fi127 @f127 := fun p n a0 a1 H k => by
 rw [Afq]
 simp only [AbE]
 kernel_rfl
noncomputable def K3 (p : Pr β) (n : Nat)  (k : KO β) : Nat → AV → AV → AV → KO β
 | 0, _, _, _, _, _ => none
 | m + 1, t0, t3, t4, t5, H => p.lenS t0 fun t9 =>
   p.bin .leq t5 t9 fun t10 =>
   p.cond t10
   (p.lenS t0 fun t15 =>
   p.bin .eql t5 t15 fun t16 =>
   p.kF t16 H t0 fun t18 H =>
   p.kF t16 H t5 fun t19 H =>
   p.gF t16 H (p.idx t18 t19) fun t20 H =>
   p.gF t16 H (p.bin .eql t20 (su 47)) fun t21 H =>
   p.pick t16 bT t21 fun t22 =>
   p.cond t22
   (p.sliceS t0 (some t4) (some t5) fun t27 =>
   p.fill [sE] [(0, 1, t27)] fun ct28 => p.newSl 1 1 ct28 true H fun t28 H =>
   p.app 1 16 t3 t28 H fun t29 H =>
   p.bin .add t5 (si 1) fun t31 =>
   p.bin .add t5 (si 1) fun t12 =>
   K3 p n  k m t0 t29 t31 t12 H)
   (p.bin .add t5 (si 1) fun t12 =>
   K3 p n  k m t0 t3 t4 t12 H))
   (k t3 H)
noncomputable def f128 (n : Nat) (a0 : AV) (H : Ab) (k : KO β) : Option β :=
 K3 p n  k n a0 .nl i0 i0 H
noncomputable def AcF (p : Pr β) (n : Nat)  (k : KO β) (m : Nat) (tm : Tm) (H : Ab) : Option β :=
 Dd 33 (fun tm H k => Ai As p [] 33 n (cd AkH [1, 1, 1, 0, 1, 0, 0]) tm H k) (Eg 0 (Dw (fun tm H => Ai As p [] 33 n (cd AkH [1, 1, 1, 1]) tm H (Cd As p fi128.results k)) (Cd As p fi128.results k))) m tm H
theorem AbF (p : Pr β) (n : Nat)  (k : KO β) (m0 : Nat) : ∀ (t : Nat → AV) (H : Ab), AcF p n  k m0 (tf 33 0 t) H = K3 p n  k m0 (t 0) (t 3) (t 4) (t 5) H := by
 induction m0 with
 | zero => intros; rfl
 | succ m0 ih =>
  intro t H
  refine Eq.trans (Bh (nt := 33) (m := m0) (g := fun t H => K3 p n  k m0 (t 0) (t 3) (t 4) (t 5) H) ih rfl) ?_
  kernel_rfl
theorem Afr (p : Pr β) (n : Nat) (a0 : AV) (H : Ab) (k : KO β) : B6 As p n fi128 [a0] H k =
 AcF p n  k n (tf 33 0 (ud [(0, a0), (2, .nl), (3, .nl), (4, i0), (5, i0), (6, .nl)] ut)) H := by kernel_rfl
theorem AdJ : Nm fi128 @f128 := fun p n a0 H k => by
 rw [Afr]
 simp only [AbF]
 kernel_rfl
noncomputable def f91 (n : Nat) (a0 : AV) (H : Ab) (k : KO β) : Option β :=
 p.call 4 (.fn 80 [] []) [a0] H fun t4 H =>
 p.kT t4 H a0 fun t6 H =>
 p.gT t4 H (p.bin .neq t6 sE) fun t7 H =>
 p.pick t4 t7 bF fun t8 =>
 p.kT t8 H a0 fun t10 H =>
 p.hT t8 H (p.call 4 (.fn 127 [] []) [t10, (su 43)] H) fun t11 H =>
 p.gT t8 H (p.un .not t11) fun t12 H =>
 p.pick t8 t12 bF fun t13 =>
 p.kT t13 H a0 fun t15 H =>
 p.hT t13 H (p.call 4 (.fn 127 [] []) [t15, (su 35)] H) fun t16 H =>
 p.gT t13 H (p.un .not t16) fun t17 H =>
 p.pick t13 t17 bF fun t18 =>
 p.kT t18 H a0 fun t20 H =>
 p.hT t18 H (p.call 56 (.fn 128 [] []) [t20] H) fun t21 H =>
 p.gT t18 H (p.len t21) fun t22 H =>
 p.gT t18 H (p.bin .leq t22 (si 6)) fun t23 H =>
 p.pick t18 t23 bF fun t24 =>
 k t24 H
theorem Ag8 : Nm Am7 @f91 := fun p n a0 H k => by kernel_rfl
noncomputable def Q5 (p : Pr β) (n : Nat)  (k : KO β) : Nat → AV → AV → KO β
 | 0, _, _, _, _ => none
 | m + 1, t0, t3, t4, H => p.len t3 fun t9 =>
   p.bin .lss t4 t9 fun t10 =>
   p.cond t10
   (p.iadr 1 t3 t4 fun t15 =>
   p.load false 1 t15 H fun t16 =>
   p.ca 4 127 [t16, (su 43)] H fun t17 H =>
   p.kT t17 H t3 fun t19 H =>
   p.kT t17 H t4 fun t20 H =>
   p.gT t17 H (p.iadr 1 t19 t20) fun t21 H =>
   p.gT t17 H (p.load false 1 t21 H) fun t22 H =>
   p.gT t17 H (p.bin .neq t22 (.sc (.string ⟨#[43]⟩))) fun t23 H =>
   p.pick t17 t23 bF fun t24 =>
   p.kF t24 H t3 fun t26 H =>
   p.kF t24 H t4 fun t27 H =>
   p.gF t24 H (p.iadr 1 t26 t27) fun t28 H =>
   p.gF t24 H (p.load false 1 t28 H) fun t29 H =>
   p.hF t24 H (p.ca 4 127 [t29, (su 35)] H) fun t30 H =>
   p.kF t24 H t30 fun t31 H =>
   p.kT t31 H t3 fun t32 H =>
   p.kT t31 H t4 fun t33 H =>
   p.gT t31 H (p.iadr 1 t32 t33) fun t34 H =>
   p.gT t31 H (p.load false 1 t34 H) fun t35 H =>
   p.gT t31 H (p.bin .neq t35 (.sc (.string ⟨#[35]⟩))) fun t36 H =>
   p.kT t31 H t36 fun t37 H =>
   p.kF t37 H t4 fun t38 H =>
   p.kF t37 H t3 fun t39 H =>
   p.gF t37 H (p.len t39) fun t40 H =>
   p.gF t37 H (p.bin .sub t40 (si 1)) fun t41 H =>
   p.gF t37 H (p.bin .lss t38 t41) fun t42 H =>
   p.gT t31 H (p.pick t37 bT t42) fun t43 H =>
   p.gF t24 H (p.pick t31 t43 bF) fun t44 H =>
   p.pick t24 bT t44 fun t45 =>
   p.cond t45
   (k bF H)
   (p.bin .add t4 (si 1) fun t12 =>
   Q5 p n  k m t0 t3 t12 H))
   (p.ca 4 80 [t0] H fun t47 H =>
   p.kT t47 H t0 fun t49 H =>
   p.gT t47 H (p.bin .neq t49 sE) fun t50 H =>
   p.pick t47 t50 bF fun t51 =>
   p.kT t51 H t3 fun t53 H =>
   p.gT t51 H (p.len t53) fun t54 H =>
   p.gT t51 H (p.bin .leq t54 (si 6)) fun t55 H =>
   p.pick t51 t55 bF fun t56 =>
   k t56 H)
noncomputable def f92 (n : Nat) (a0 : AV) (H : Ab) (k : KO β) : Option β :=
 p.call 56 (.fn 128 [] []) [a0] H fun t6 H =>
 Q5 p n  k n a0 t6 i0 H
noncomputable def Ag9 (p : Pr β) (n : Nat)  (k : KO β) (m : Nat) (tm : Tm) (H : Ab) : Option β :=
 Dd 57 (fun tm H k => Ai As p [] 57 n (cd c92 [1, 1, 0, 1, 0, 0]) tm H k) (Eg 0 (Dw (fun tm H => Ai As p [] 57 n (cd c92 [1, 1, 1]) tm H (Cd As p fi92.results k)) (Cd As p fi92.results k))) m tm H
theorem Ae2 (p : Pr β) (n : Nat)  (k : KO β) (m0 : Nat) : ∀ (t : Nat → AV) (H : Ab), Ag9 p n  k m0 (tf 57 0 t) H = Q5 p n  k m0 (t 0) (t 3) (t 4) H := by
 induction m0 with
 | zero => intros; rfl
 | succ m0 ih =>
  intro t H
  refine Eq.trans (Bh (nt := 57) (m := m0) (g := fun t H => Q5 p n  k m0 (t 0) (t 3) (t 4) H) ih rfl) ?_
  kernel_rfl
theorem AiW (p : Pr β) (n : Nat) (a0 : AV) (H : Ab) (k : KO β) : B6 As p n fi92 [a0] H k =
 p.call 56 (.fn 128 [] []) [a0] H fun t6 H =>
 Ag9 p n  k n (tf 57 0 (ud [(0, a0), (2, bF), (3, t6), (4, i0), (5, a0), (6, t6)] ut)) H := by kernel_rfl
theorem AgA : Nm fi92 @f92 := fun p n a0 H k => by
 rw [AiW]
 simp only [Ae2]
 kernel_rfl
noncomputable def Lr (p : Pr β) (n : Nat)  (k : KO β) : Nat → AV → AV → KO β
 | 0, _, _, _, _ => none
 | m + 1, t1, t3, t4, H => p.fadr 22 t1 fun t105 =>
   p.load false 1 t105 H fun t106 =>
   p.len t106 fun t107 =>
   p.bin .lss t4 t107 fun t108 =>
   p.cond t108
   (p.fadr 22 t1 fun t111 =>
   p.load false 1 t111 H fun t112 =>
   p.iadr 2 t112 t4 fun t114 =>
   p.fl 0 t114 1 H fun t116 =>
   p.ca 4 92 [t116] H fun t117 H =>
   p.un .not t117 fun t118 =>
   p.lF t118 H 22 t1 1 fun t121 H =>
   p.kF t118 H t4 fun t122 H =>
   p.gF t118 H (p.iadr 2 t121 t122) fun t123 H =>
   p.lF t118 H 1 t123 1 fun t125 H =>
   p.hF t118 H (p.ca 4 81 [t125, i0, (si 2)] H) fun t126 H =>
   p.gF t118 H (p.un .not t126) fun t127 H =>
   p.pick t118 bT t127 fun t128 =>
   p.cond t128
   (k bF H)
   (p.bin .add t4 (si 1) fun t110 =>
   Lr p n  k m t1 t3 t110 H))
   (p.gT t3 H (p.fadr 22 t1) fun t131 H =>
   p.gT t3 H (p.load false 1 t131 H) fun t132 H =>
   p.gT t3 H (p.len t132) fun t133 H =>
   p.hT t3 H (p.ca 4 81 [t133, (si 1), (si 4)] H) fun t134 H =>
   p.pick t3 t134 bF fun t135 =>
   k t135 H)
noncomputable def Ls (p : Pr β) (n : Nat)  (k : KO β) : Nat → AV → AV → KO β
 | 0, _, _, _, _ => none
 | m + 1, t1, t3, t5, H => p.fadr 24 t1 fun t139 =>
   p.load false 1 t139 H fun t140 =>
   p.len t140 fun t141 =>
   p.bin .lss t5 t141 fun t142 =>
   p.cond t142
   (p.fadr 24 t1 fun t145 =>
   p.load false 1 t145 H fun t146 =>
   p.iadr 1 t146 t5 fun t148 =>
   p.load false 1 t148 H fun t149 =>
   p.ca 4 81 [t149, i0, (si 2)] H fun t150 H =>
   p.un .not t150 fun t151 =>
   p.lT t151 H 24 t1 1 fun t154 H =>
   p.kT t151 H t5 fun t155 H =>
   p.gT t151 H (p.iadr 1 t154 t155) fun t156 H =>
   p.gT t151 H (p.load false 1 t156 H) fun t157 H =>
   p.gT t151 H (p.bin .neq t157 (si 128)) fun t158 H =>
   p.pick t151 t158 bF fun t159 =>
   p.cond t159
   (k bF H)
   (p.bin .add t5 (si 1) fun t144 =>
   Ls p n  k m t1 t3 t144 H))
   (p.gT t3 H (p.fadr 24 t1) fun t162 H =>
   p.gT t3 H (p.load false 1 t162 H) fun t163 H =>
   p.gT t3 H (p.len t163) fun t164 H =>
   p.hT t3 H (p.ca 4 81 [t164, (si 1), (si 4)] H) fun t165 H =>
   p.pick t3 t165 bF fun t166 =>
   k t166 H)
noncomputable def Lt (p : Pr β) (n : Nat)  (k : KO β) : Nat → AV → AV → KO β
 | 0, _, _, _, _ => none
 | m + 1, t1, t3, t6, H => p.fadr 23 t1 fun t170 =>
   p.load false 1 t170 H fun t171 =>
   p.len t171 fun t172 =>
   p.bin .lss t6 t172 fun t173 =>
   p.cond t173
   (p.fadr 23 t1 fun t176 =>
   p.load false 1 t176 H fun t177 =>
   p.iadr 1 t177 t6 fun t179 =>
   p.load false 1 t179 H fun t180 =>
   p.ca 4 92 [t180] H fun t181 H =>
   p.un .not t181 fun t182 =>
   p.cond t182
   (k bF H)
   (p.bin .add t6 (si 1) fun t175 =>
   Lt p n  k m t1 t3 t175 H))
   (p.gT t3 H (p.fadr 23 t1) fun t185 H =>
   p.gT t3 H (p.load false 1 t185 H) fun t186 H =>
   p.gT t3 H (p.len t186) fun t187 H =>
   p.hT t3 H (p.ca 4 81 [t187, (si 1), (si 4)] H) fun t188 H =>
   p.pick t3 t188 bF fun t189 =>
   k t189 H)
noncomputable def f64 (n : Nat) (a0 : AV) (H : Ab) (k : KO β) : Option β :=
 p.box a0 H fun t1 H =>
 p.fl 0 t1 1 H fun t8 =>
 p.ca 4 81 [t8, (si 1), (si 14)] H fun t9 H =>
 p.un .not t9 fun t10 =>
 p.gF t10 H (p.load true 25 t1 H) fun t13 H =>
 p.both
 (p.gF t10 H (p.load true 25 t1 H) fun t12 H =>
 p.hF t10 H (p.ca 59 90 [t13] H) fun t14 H =>
 p.hF t10 H (p.ca 4 89 [t12, t14] H) fun t15 H =>
 p.gF t10 H (p.un .not t15) fun t16 H =>
 p.pick t10 bT t16 fun t17 =>
 p.cond t17
 (k bF H)
 (p.fadr 4 t1 fun t18 =>
 p.load false 1 t18 H fun t19 =>
 p.ca 4 81 [t19, (si 1), (si 65535)] H fun t20 H =>
 p.fl 0 t1 1 H fun t22 =>
 p.bin .eql t22 (si 1) fun t24 =>
 p.cond t24
 (p.fadr 11 t1 fun t25 =>
 p.load false 1 t25 H fun t26 =>
 p.lT t26 H 12 t1 1 fun t29 H =>
 p.hT t26 H (p.ca 4 91 [t29] H) fun t30 H =>
 p.gT t26 H (p.un .not t30) fun t31 H =>
 p.kT t26 H t31 fun t32 H =>
 p.lF t32 H 13 t1 1 fun t34 H =>
 p.gF t32 H (p.len t34) fun t35 H =>
 p.gF t32 H (p.bin .gtr t35 (si 40)) fun t36 H =>
 p.gT t26 H (p.pick t32 bT t36) fun t37 H =>
 p.kT t26 H t37 fun t38 H =>
 p.lF t38 H 14 t1 1 fun t40 H =>
 p.hF t38 H (p.ca 4 81 [t40, i0, (si 2)] H) fun t41 H =>
 p.gF t38 H (p.un .not t41) fun t42 H =>
 p.gT t26 H (p.pick t38 bT t42) fun t43 H =>
 p.pick t26 t43 bF fun t44 =>
 p.cond t44
 (k bF H)
 (p.fadr 8 t1 fun t45 =>
 p.load false 1 t45 H fun t46 =>
 p.ca 4 81 [t46, i0, (si 255)] H fun t47 H =>
 p.lT t47 H 7 t1 1 fun t50 H =>
 p.hT t47 H (p.ca 4 80 [t50] H) fun t51 H =>
 p.pick t47 t51 bF fun t52 =>
 p.lT t52 H 10 t1 1 fun t55 H =>
 p.hT t52 H (p.ca 4 81 [t55, i0, (si 65535)] H) fun t56 H =>
 p.pick t52 t56 bF fun t57 =>
 p.lT t57 H 17 t1 1 fun t60 H =>
 p.hT t57 H (p.ca 4 80 [t60] H) fun t61 H =>
 p.pick t57 t61 bF fun t62 =>
 p.lT t62 H 19 t1 1 fun t65 H =>
 p.gT t62 H (p.len t65) fun t66 H =>
 p.gT t62 H (p.bin .leq t66 (si 60)) fun t67 H =>
 p.pick t62 t67 bF fun t68 =>
 k t68 H))
 (p.bin .eql t22 (si 2) fun t70 =>
 p.cond t70
 (p.fadr 20 t1 fun t71 =>
 p.load false 1 t71 H fun t72 =>
 p.ca 4 81 [t72, i0, (si 5)] H fun t73 H =>
 k t73 H)
 (p.bin .eql t22 (si 3) fun t75 =>
 p.cond t75
 (p.fadr 2 t1 fun t76 =>
 p.load false 1 t76 H fun t77 =>
 p.ca 4 81 [t77, i0, (si 2)] H fun t78 H =>
 p.lT t78 H 2 t1 1 fun t81 H =>
 p.gT t78 H (p.bin .eql t81 i0) fun t82 H =>
 p.kT t78 H t82 fun t83 H =>
 p.kF t83 H t20 fun t84 H =>
 p.gT t78 H (p.pick t83 bT t84) fun t85 H =>
 p.pick t78 t85 bF fun t86 =>
 p.lT t86 H 5 t1 1 fun t89 H =>
 p.hT t86 H (p.ca 4 91 [t89] H) fun t90 H =>
 p.pick t86 t90 bF fun t91 =>
 p.lT t91 H 6 t1 1 fun t94 H =>
 p.gT t91 H (p.len t94) fun t95 H =>
 p.gT t91 H (p.bin .leq t95 (si 40)) fun t96 H =>
 p.pick t91 t96 bF fun t97 =>
 k t97 H)
 (p.bin .eql t22 (si 12) fun t99 =>
 Et (fun (t1 t3 t22 t98 : AV) (H : Ab) => p.cond t98
 (k bT H)
 (p.bin .eql t22 (si 8) fun t103 =>
 p.cond t103
 (Lr p n  k n t1 t3 i0 H)
 (p.bin .eql t22 (si 9) fun t137 =>
 p.cond t137
 (Ls p n  k n t1 t3 i0 H)
 (p.bin .eql t22 (si 10) fun t168 =>
 p.cond t168
 (Lt p n  k n t1 t3 i0 H)
 (k t3 H))))) fun j1 =>
 p.cond t99
 (j1 t1 t20 t22 t99 H)
 (p.bin .eql t22 (si 13) fun t100 =>
 p.cond t100
 (j1 t1 t20 t22 t100 H)
 (p.bin .eql t22 (si 14) fun t101 =>
 j1 t1 t20 t22 t101 H)))))))
 (p.hF t10 H (p.ca 59 90 [t13] H) fun t14 H =>
 p.gF t10 H (p.load true 25 t1 H) fun t12 H =>
 p.hF t10 H (p.ca 4 89 [t12, t14] H) fun t15 H =>
 p.gF t10 H (p.un .not t15) fun t16 H =>
 p.pick t10 bT t16 fun t17 =>
 p.cond t17
 (k bF H)
 (p.fadr 4 t1 fun t18 =>
 p.load false 1 t18 H fun t19 =>
 p.ca 4 81 [t19, (si 1), (si 65535)] H fun t20 H =>
 p.fl 0 t1 1 H fun t22 =>
 p.bin .eql t22 (si 1) fun t24 =>
 p.cond t24
 (p.fadr 11 t1 fun t25 =>
 p.load false 1 t25 H fun t26 =>
 p.lT t26 H 12 t1 1 fun t29 H =>
 p.hT t26 H (p.ca 4 91 [t29] H) fun t30 H =>
 p.gT t26 H (p.un .not t30) fun t31 H =>
 p.kT t26 H t31 fun t32 H =>
 p.lF t32 H 13 t1 1 fun t34 H =>
 p.gF t32 H (p.len t34) fun t35 H =>
 p.gF t32 H (p.bin .gtr t35 (si 40)) fun t36 H =>
 p.gT t26 H (p.pick t32 bT t36) fun t37 H =>
 p.kT t26 H t37 fun t38 H =>
 p.lF t38 H 14 t1 1 fun t40 H =>
 p.hF t38 H (p.ca 4 81 [t40, i0, (si 2)] H) fun t41 H =>
 p.gF t38 H (p.un .not t41) fun t42 H =>
 p.gT t26 H (p.pick t38 bT t42) fun t43 H =>
 p.pick t26 t43 bF fun t44 =>
 p.cond t44
 (k bF H)
 (p.fadr 8 t1 fun t45 =>
 p.load false 1 t45 H fun t46 =>
 p.ca 4 81 [t46, i0, (si 255)] H fun t47 H =>
 p.lT t47 H 7 t1 1 fun t50 H =>
 p.hT t47 H (p.ca 4 80 [t50] H) fun t51 H =>
 p.pick t47 t51 bF fun t52 =>
 p.lT t52 H 10 t1 1 fun t55 H =>
 p.hT t52 H (p.ca 4 81 [t55, i0, (si 65535)] H) fun t56 H =>
 p.pick t52 t56 bF fun t57 =>
 p.lT t57 H 17 t1 1 fun t60 H =>
 p.hT t57 H (p.ca 4 80 [t60] H) fun t61 H =>
 p.pick t57 t61 bF fun t62 =>
 p.lT t62 H 19 t1 1 fun t65 H =>
 p.gT t62 H (p.len t65) fun t66 H =>
 p.gT t62 H (p.bin .leq t66 (si 60)) fun t67 H =>
 p.pick t62 t67 bF fun t68 =>
 k t68 H))
 (p.bin .eql t22 (si 2) fun t70 =>
 p.cond t70
 (p.fadr 20 t1 fun t71 =>
 p.load false 1 t71 H fun t72 =>
 p.ca 4 81 [t72, i0, (si 5)] H fun t73 H =>
 k t73 H)
 (p.bin .eql t22 (si 3) fun t75 =>
 p.cond t75
 (p.fadr 2 t1 fun t76 =>
 p.load false 1 t76 H fun t77 =>
 p.ca 4 81 [t77, i0, (si 2)] H fun t78 H =>
 p.lT t78 H 2 t1 1 fun t81 H =>
 p.gT t78 H (p.bin .eql t81 i0) fun t82 H =>
 p.kT t78 H t82 fun t83 H =>
 p.kF t83 H t20 fun t84 H =>
 p.gT t78 H (p.pick t83 bT t84) fun t85 H =>
 p.pick t78 t85 bF fun t86 =>
 p.lT t86 H 5 t1 1 fun t89 H =>
 p.hT t86 H (p.ca 4 91 [t89] H) fun t90 H =>
 p.pick t86 t90 bF fun t91 =>
 p.lT t91 H 6 t1 1 fun t94 H =>
 p.gT t91 H (p.len t94) fun t95 H =>
 p.gT t91 H (p.bin .leq t95 (si 40)) fun t96 H =>
 p.pick t91 t96 bF fun t97 =>
 k t97 H)
 (p.bin .eql t22 (si 12) fun t99 =>
 Et (fun (t1 t3 t22 t98 : AV) (H : Ab) => p.cond t98
 (k bT H)
 (p.bin .eql t22 (si 8) fun t103 =>
 p.cond t103
 (Lr p n  k n t1 t3 i0 H)
 (p.bin .eql t22 (si 9) fun t137 =>
 p.cond t137
 (Ls p n  k n t1 t3 i0 H)
 (p.bin .eql t22 (si 10) fun t168 =>
 p.cond t168
 (Lt p n  k n t1 t3 i0 H)
 (k t3 H))))) fun j2 =>
 p.cond t99
 (j2 t1 t20 t22 t99 H)
 (p.bin .eql t22 (si 13) fun t100 =>
 p.cond t100
 (j2 t1 t20 t22 t100 H)
 (p.bin .eql t22 (si 14) fun t101 =>
 j2 t1 t20 t22 t101 H)))))))
noncomputable def AbM (p : Pr β) (n : Nat)  (k : KO β) (m : Nat) (tm : Tm) (H : Ab) : Option β :=
 Dd 191 (fun tm H k => Ai As p o64 191 n (cd c64 [1, 1, 1, 0, 1, 0, 1, 2, 1, 2, 1, 2, 1, 2, 1, 1, 0, 1, 0, 0]) tm H k) (Eg 1 (Dw (fun tm H => Ai As p o64 191 n (cd c64 [1, 1, 1, 0, 1, 0, 1, 2, 1, 2, 1, 2, 1, 2, 1, 1, 1]) tm H (Eg 0 (Dw (fun tm H => Ai As p o64 191 n (cd c64 [1, 1, 1, 1]) tm H (Cd As p fi64.results k)) (Cd As p fi64.results k)))) (Eg 0 (Dw (fun tm H => Ai As p o64 191 n (cd c64 [1, 1, 1, 1]) tm H (Cd As p fi64.results k)) (Cd As p fi64.results k))))) m tm H
noncomputable def AbN (p : Pr β) (n : Nat)  (k : KO β) (m : Nat) (tm : Tm) (H : Ab) : Option β :=
 Dd 191 (fun tm H k => Ai As p o64 191 n (cd c64 [1, 1, 1, 0, 1, 0, 1, 2, 1, 2, 1, 2, 1, 2, 1, 2, 1, 1, 0, 1, 0, 0]) tm H k) (Eg 3 (Dw (fun tm H => Ai As p o64 191 n (cd c64 [1, 1, 1, 0, 1, 0, 1, 2, 1, 2, 1, 2, 1, 2, 1, 2, 1, 1, 1]) tm H (Eg 0 (Dw (fun tm H => Ai As p o64 191 n (cd c64 [1, 1, 1, 1]) tm H (Cd As p fi64.results k)) (Cd As p fi64.results k)))) (Eg 0 (Dw (fun tm H => Ai As p o64 191 n (cd c64 [1, 1, 1, 1]) tm H (Cd As p fi64.results k)) (Cd As p fi64.results k))))) m tm H
noncomputable def AbO (p : Pr β) (n : Nat)  (k : KO β) (m : Nat) (tm : Tm) (H : Ab) : Option β :=
 Dd 191 (fun tm H k => Ai As p o64 191 n (cd c64 [1, 1, 1, 0, 1, 0, 1, 2, 1, 2, 1, 2, 1, 2, 1, 2, 1, 2, 1, 1, 0, 1, 0, 0]) tm H k) (Eg 5 (Dw (fun tm H => Ai As p o64 191 n (cd c64 [1, 1, 1, 0, 1, 0, 1, 2, 1, 2, 1, 2, 1, 2, 1, 2, 1, 2, 1, 1, 1]) tm H (Eg 0 (Dw (fun tm H => Ai As p o64 191 n (cd c64 [1, 1, 1, 1]) tm H (Cd As p fi64.results k)) (Cd As p fi64.results k)))) (Eg 0 (Dw (fun tm H => Ai As p o64 191 n (cd c64 [1, 1, 1, 1]) tm H (Cd As p fi64.results k)) (Cd As p fi64.results k))))) m tm H
theorem Aer (p : Pr β) (n : Nat)  (k : KO β) (m0 : Nat) : ∀ (t : Nat → AV) (H : Ab), AbM p n  k m0 (tf 191 0 t) H = Lr p n  k m0 (t 1) (t 3) (t 4) H := by
 induction m0 with
 | zero => intros; rfl
 | succ m0 ih =>
  intro t H
  refine Eq.trans (Bh (nt := 191) (m := m0) (g := fun t H => Lr p n  k m0 (t 1) (t 3) (t 4) H) ih rfl) ?_
  kernel_rfl
theorem Aes (p : Pr β) (n : Nat)  (k : KO β) (m1 : Nat) : ∀ (t : Nat → AV) (H : Ab), AbN p n  k m1 (tf 191 0 t) H = Ls p n  k m1 (t 1) (t 3) (t 5) H := by
 induction m1 with
 | zero => intros; rfl
 | succ m1 ih =>
  intro t H
  refine Eq.trans (Bh (nt := 191) (m := m1) (g := fun t H => Ls p n  k m1 (t 1) (t 3) (t 5) H) ih rfl) ?_
  kernel_rfl
theorem Aet (p : Pr β) (n : Nat)  (k : KO β) (m2 : Nat) : ∀ (t : Nat → AV) (H : Ab), AbO p n  k m2 (tf 191 0 t) H = Lt p n  k m2 (t 1) (t 3) (t 6) H := by
 induction m2 with
 | zero => intros; rfl
 | succ m2 ih =>
  intro t H
  refine Eq.trans (Bh (nt := 191) (m := m2) (g := fun t H => Lt p n  k m2 (t 1) (t 3) (t 6) H) ih rfl) ?_
  kernel_rfl
theorem AiM (p : Pr β) (n : Nat) (a0 : AV) (H : Ab) (k : KO β) : B6 As p n fi64 [a0] H k =
 p.box a0 H fun t1 H =>
 p.fadr 0 t1 fun t7 =>
 p.load false 1 t7 H fun t8 =>
 p.call 4 (.fn 81 [] []) [t8, (si 1), (si 14)] H fun t9 H =>
 p.un .not t9 fun t10 =>
 p.gF t10 H (p.load true 25 t1 H) fun t13 H =>
 p.both
 (p.gF t10 H (p.load true 25 t1 H) fun t12 H =>
 p.hF t10 H (p.call 59 (.fn 90 [] []) [t13] H) fun t14 H =>
 p.hF t10 H (p.call 4 (.fn 89 [] []) [t12, t14] H) fun t15 H =>
 p.gF t10 H (p.un .not t15) fun t16 H =>
 p.pick t10 bT t16 fun t17 =>
 p.cond t17
 (k bF H)
 (p.fadr 4 t1 fun t18 =>
 p.load false 1 t18 H fun t19 =>
 p.call 4 (.fn 81 [] []) [t19, (si 1), (si 65535)] H fun t20 H =>
 p.fadr 0 t1 fun t21 =>
 p.load false 1 t21 H fun t22 =>
 p.bin .eql t22 (si 1) fun t24 =>
 p.cond t24
 (p.fadr 11 t1 fun t25 =>
 p.load false 1 t25 H fun t26 =>
 p.gT t26 H (p.fadr 12 t1) fun t28 H =>
 p.gT t26 H (p.load false 1 t28 H) fun t29 H =>
 p.hT t26 H (p.call 4 (.fn 91 [] []) [t29] H) fun t30 H =>
 p.gT t26 H (p.un .not t30) fun t31 H =>
 p.kT t26 H t31 fun t32 H =>
 p.gF t32 H (p.fadr 13 t1) fun t33 H =>
 p.gF t32 H (p.load false 1 t33 H) fun t34 H =>
 p.gF t32 H (p.len t34) fun t35 H =>
 p.gF t32 H (p.bin .gtr t35 (si 40)) fun t36 H =>
 p.gT t26 H (p.pick t32 bT t36) fun t37 H =>
 p.kT t26 H t37 fun t38 H =>
 p.gF t38 H (p.fadr 14 t1) fun t39 H =>
 p.gF t38 H (p.load false 1 t39 H) fun t40 H =>
 p.hF t38 H (p.call 4 (.fn 81 [] []) [t40, i0, (si 2)] H) fun t41 H =>
 p.gF t38 H (p.un .not t41) fun t42 H =>
 p.gT t26 H (p.pick t38 bT t42) fun t43 H =>
 p.pick t26 t43 bF fun t44 =>
 p.cond t44
 (k bF H)
 (p.fadr 8 t1 fun t45 =>
 p.load false 1 t45 H fun t46 =>
 p.call 4 (.fn 81 [] []) [t46, i0, (si 255)] H fun t47 H =>
 p.gT t47 H (p.fadr 7 t1) fun t49 H =>
 p.gT t47 H (p.load false 1 t49 H) fun t50 H =>
 p.hT t47 H (p.call 4 (.fn 80 [] []) [t50] H) fun t51 H =>
 p.pick t47 t51 bF fun t52 =>
 p.gT t52 H (p.fadr 10 t1) fun t54 H =>
 p.gT t52 H (p.load false 1 t54 H) fun t55 H =>
 p.hT t52 H (p.call 4 (.fn 81 [] []) [t55, i0, (si 65535)] H) fun t56 H =>
 p.pick t52 t56 bF fun t57 =>
 p.gT t57 H (p.fadr 17 t1) fun t59 H =>
 p.gT t57 H (p.load false 1 t59 H) fun t60 H =>
 p.hT t57 H (p.call 4 (.fn 80 [] []) [t60] H) fun t61 H =>
 p.pick t57 t61 bF fun t62 =>
 p.gT t62 H (p.fadr 19 t1) fun t64 H =>
 p.gT t62 H (p.load false 1 t64 H) fun t65 H =>
 p.gT t62 H (p.len t65) fun t66 H =>
 p.gT t62 H (p.bin .leq t66 (si 60)) fun t67 H =>
 p.pick t62 t67 bF fun t68 =>
 k t68 H))
 (p.bin .eql t22 (si 2) fun t70 =>
 p.cond t70
 (p.fadr 20 t1 fun t71 =>
 p.load false 1 t71 H fun t72 =>
 p.call 4 (.fn 81 [] []) [t72, i0, (si 5)] H fun t73 H =>
 k t73 H)
 (p.bin .eql t22 (si 3) fun t75 =>
 p.cond t75
 (p.fadr 2 t1 fun t76 =>
 p.load false 1 t76 H fun t77 =>
 p.call 4 (.fn 81 [] []) [t77, i0, (si 2)] H fun t78 H =>
 p.gT t78 H (p.fadr 2 t1) fun t80 H =>
 p.gT t78 H (p.load false 1 t80 H) fun t81 H =>
 p.gT t78 H (p.bin .eql t81 i0) fun t82 H =>
 p.kT t78 H t82 fun t83 H =>
 p.kF t83 H t20 fun t84 H =>
 p.gT t78 H (p.pick t83 bT t84) fun t85 H =>
 p.pick t78 t85 bF fun t86 =>
 p.gT t86 H (p.fadr 5 t1) fun t88 H =>
 p.gT t86 H (p.load false 1 t88 H) fun t89 H =>
 p.hT t86 H (p.call 4 (.fn 91 [] []) [t89] H) fun t90 H =>
 p.pick t86 t90 bF fun t91 =>
 p.gT t91 H (p.fadr 6 t1) fun t93 H =>
 p.gT t91 H (p.load false 1 t93 H) fun t94 H =>
 p.gT t91 H (p.len t94) fun t95 H =>
 p.gT t91 H (p.bin .leq t95 (si 40)) fun t96 H =>
 p.pick t91 t96 bF fun t97 =>
 k t97 H)
 (p.bin .eql t22 (si 12) fun t99 =>
 Et (fun (t : Nat → AV) (H : Ab) => p.cond (t 98)
 (k bT H)
 (p.bin .eql (t 22) (si 8) fun t103 =>
 p.cond t103
 (AbM p n  k n (tf 191 0 (ud [(4, i0), (102, t103), (103, t103)] t)) H)
 (p.bin .eql (t 22) (si 9) fun t137 =>
 p.cond t137
 (AbN p n  k n (tf 191 0 (ud [(5, i0), (102, t103), (103, t103), (136, t137), (137, t137)] t)) H)
 (p.bin .eql (t 22) (si 10) fun t168 =>
 p.cond t168
 (AbO p n  k n (tf 191 0 (ud [(6, i0), (102, t103), (103, t103), (136, t137), (137, t137), (167, t168), (168, t168)] t)) H)
 (k (t 3) H))))) fun j1 =>
 p.cond t99
 (j1 (ud [(0, a0), (1, t1), (2, bF), (3, t20), (7, t7), (8, t8), (9, t9), (10, t10), (11, t10), (12, t12), (13, t13), (14, t14), (15, t15), (16, t16), (17, t17), (18, t18), (19, t19), (20, t20), (21, t21), (22, t22), (23, t24), (24, t24), (69, t70), (70, t70), (74, t75), (75, t75), (98, t99), (99, t99)] ut) H)
 (p.bin .eql t22 (si 13) fun t100 =>
 p.cond t100
 (j1 (ud [(0, a0), (1, t1), (2, bF), (3, t20), (7, t7), (8, t8), (9, t9), (10, t10), (11, t10), (12, t12), (13, t13), (14, t14), (15, t15), (16, t16), (17, t17), (18, t18), (19, t19), (20, t20), (21, t21), (22, t22), (23, t24), (24, t24), (69, t70), (70, t70), (74, t75), (75, t75), (98, t100), (99, t99), (100, t100)] ut) H)
 (p.bin .eql t22 (si 14) fun t101 =>
 j1 (ud [(0, a0), (1, t1), (2, bF), (3, t20), (7, t7), (8, t8), (9, t9), (10, t10), (11, t10), (12, t12), (13, t13), (14, t14), (15, t15), (16, t16), (17, t17), (18, t18), (19, t19), (20, t20), (21, t21), (22, t22), (23, t24), (24, t24), (69, t70), (70, t70), (74, t75), (75, t75), (98, t101), (99, t99), (100, t100), (101, t101)] ut) H)))))))
 (p.hF t10 H (p.call 59 (.fn 90 [] []) [t13] H) fun t14 H =>
 p.gF t10 H (p.load true 25 t1 H) fun t12 H =>
 p.hF t10 H (p.call 4 (.fn 89 [] []) [t12, t14] H) fun t15 H =>
 p.gF t10 H (p.un .not t15) fun t16 H =>
 p.pick t10 bT t16 fun t17 =>
 p.cond t17
 (k bF H)
 (p.fadr 4 t1 fun t18 =>
 p.load false 1 t18 H fun t19 =>
 p.call 4 (.fn 81 [] []) [t19, (si 1), (si 65535)] H fun t20 H =>
 p.fadr 0 t1 fun t21 =>
 p.load false 1 t21 H fun t22 =>
 p.bin .eql t22 (si 1) fun t24 =>
 p.cond t24
 (p.fadr 11 t1 fun t25 =>
 p.load false 1 t25 H fun t26 =>
 p.gT t26 H (p.fadr 12 t1) fun t28 H =>
 p.gT t26 H (p.load false 1 t28 H) fun t29 H =>
 p.hT t26 H (p.call 4 (.fn 91 [] []) [t29] H) fun t30 H =>
 p.gT t26 H (p.un .not t30) fun t31 H =>
 p.kT t26 H t31 fun t32 H =>
 p.gF t32 H (p.fadr 13 t1) fun t33 H =>
 p.gF t32 H (p.load false 1 t33 H) fun t34 H =>
 p.gF t32 H (p.len t34) fun t35 H =>
 p.gF t32 H (p.bin .gtr t35 (si 40)) fun t36 H =>
 p.gT t26 H (p.pick t32 bT t36) fun t37 H =>
 p.kT t26 H t37 fun t38 H =>
 p.gF t38 H (p.fadr 14 t1) fun t39 H =>
 p.gF t38 H (p.load false 1 t39 H) fun t40 H =>
 p.hF t38 H (p.call 4 (.fn 81 [] []) [t40, i0, (si 2)] H) fun t41 H =>
 p.gF t38 H (p.un .not t41) fun t42 H =>
 p.gT t26 H (p.pick t38 bT t42) fun t43 H =>
 p.pick t26 t43 bF fun t44 =>
 p.cond t44
 (k bF H)
 (p.fadr 8 t1 fun t45 =>
 p.load false 1 t45 H fun t46 =>
 p.call 4 (.fn 81 [] []) [t46, i0, (si 255)] H fun t47 H =>
 p.gT t47 H (p.fadr 7 t1) fun t49 H =>
 p.gT t47 H (p.load false 1 t49 H) fun t50 H =>
 p.hT t47 H (p.call 4 (.fn 80 [] []) [t50] H) fun t51 H =>
 p.pick t47 t51 bF fun t52 =>
 p.gT t52 H (p.fadr 10 t1) fun t54 H =>
 p.gT t52 H (p.load false 1 t54 H) fun t55 H =>
 p.hT t52 H (p.call 4 (.fn 81 [] []) [t55, i0, (si 65535)] H) fun t56 H =>
 p.pick t52 t56 bF fun t57 =>
 p.gT t57 H (p.fadr 17 t1) fun t59 H =>
 p.gT t57 H (p.load false 1 t59 H) fun t60 H =>
 p.hT t57 H (p.call 4 (.fn 80 [] []) [t60] H) fun t61 H =>
 p.pick t57 t61 bF fun t62 =>
 p.gT t62 H (p.fadr 19 t1) fun t64 H =>
 p.gT t62 H (p.load false 1 t64 H) fun t65 H =>
 p.gT t62 H (p.len t65) fun t66 H =>
 p.gT t62 H (p.bin .leq t66 (si 60)) fun t67 H =>
 p.pick t62 t67 bF fun t68 =>
 k t68 H))
 (p.bin .eql t22 (si 2) fun t70 =>
 p.cond t70
 (p.fadr 20 t1 fun t71 =>
 p.load false 1 t71 H fun t72 =>
 p.call 4 (.fn 81 [] []) [t72, i0, (si 5)] H fun t73 H =>
 k t73 H)
 (p.bin .eql t22 (si 3) fun t75 =>
 p.cond t75
 (p.fadr 2 t1 fun t76 =>
 p.load false 1 t76 H fun t77 =>
 p.call 4 (.fn 81 [] []) [t77, i0, (si 2)] H fun t78 H =>
 p.gT t78 H (p.fadr 2 t1) fun t80 H =>
 p.gT t78 H (p.load false 1 t80 H) fun t81 H =>
 p.gT t78 H (p.bin .eql t81 i0) fun t82 H =>
 p.kT t78 H t82 fun t83 H =>
 p.kF t83 H t20 fun t84 H =>
 p.gT t78 H (p.pick t83 bT t84) fun t85 H =>
 p.pick t78 t85 bF fun t86 =>
 p.gT t86 H (p.fadr 5 t1) fun t88 H =>
 p.gT t86 H (p.load false 1 t88 H) fun t89 H =>
 p.hT t86 H (p.call 4 (.fn 91 [] []) [t89] H) fun t90 H =>
 p.pick t86 t90 bF fun t91 =>
 p.gT t91 H (p.fadr 6 t1) fun t93 H =>
 p.gT t91 H (p.load false 1 t93 H) fun t94 H =>
 p.gT t91 H (p.len t94) fun t95 H =>
 p.gT t91 H (p.bin .leq t95 (si 40)) fun t96 H =>
 p.pick t91 t96 bF fun t97 =>
 k t97 H)
 (p.bin .eql t22 (si 12) fun t99 =>
 Et (fun (t : Nat → AV) (H : Ab) => p.cond (t 98)
 (k bT H)
 (p.bin .eql (t 22) (si 8) fun t103 =>
 p.cond t103
 (AbM p n  k n (tf 191 0 (ud [(4, i0), (102, t103), (103, t103)] t)) H)
 (p.bin .eql (t 22) (si 9) fun t137 =>
 p.cond t137
 (AbN p n  k n (tf 191 0 (ud [(5, i0), (102, t103), (103, t103), (136, t137), (137, t137)] t)) H)
 (p.bin .eql (t 22) (si 10) fun t168 =>
 p.cond t168
 (AbO p n  k n (tf 191 0 (ud [(6, i0), (102, t103), (103, t103), (136, t137), (137, t137), (167, t168), (168, t168)] t)) H)
 (k (t 3) H))))) fun j2 =>
 p.cond t99
 (j2 (ud [(0, a0), (1, t1), (2, bF), (3, t20), (7, t7), (8, t8), (9, t9), (10, t10), (11, t10), (12, t12), (13, t13), (14, t14), (15, t15), (16, t16), (17, t17), (18, t18), (19, t19), (20, t20), (21, t21), (22, t22), (23, t24), (24, t24), (69, t70), (70, t70), (74, t75), (75, t75), (98, t99), (99, t99)] ut) H)
 (p.bin .eql t22 (si 13) fun t100 =>
 p.cond t100
 (j2 (ud [(0, a0), (1, t1), (2, bF), (3, t20), (7, t7), (8, t8), (9, t9), (10, t10), (11, t10), (12, t12), (13, t13), (14, t14), (15, t15), (16, t16), (17, t17), (18, t18), (19, t19), (20, t20), (21, t21), (22, t22), (23, t24), (24, t24), (69, t70), (70, t70), (74, t75), (75, t75), (98, t100), (99, t99), (100, t100)] ut) H)
 (p.bin .eql t22 (si 14) fun t101 =>
 j2 (ud [(0, a0), (1, t1), (2, bF), (3, t20), (7, t7), (8, t8), (9, t9), (10, t10), (11, t10), (12, t12), (13, t13), (14, t14), (15, t15), (16, t16), (17, t17), (18, t18), (19, t19), (20, t20), (21, t21), (22, t22), (23, t24), (24, t24), (69, t70), (70, t70), (74, t75), (75, t75), (98, t101), (99, t99), (100, t100), (101, t101)] ut) H))))))) := by kernel_rfl
theorem Aga : Nm fi64 @f64 := fun p n a0 H k => by
 rw [AiM]
 simp only [Aer, Aes, Aet]
 kernel_rfl
noncomputable def f95 (n : Nat) (a0 a1 : AV) (H : Ab) (k : KO β) : Option β :=
 p.app 1 1 .nl a0 H fun t7 H =>
 p.bin .shr a1 (.sc (.int .u64 8)) fun t9 =>
 p.bin .and t9 (si 255) fun t10 =>
 p.cvI .u8 t10 fun t11 =>
 p.bin .and a1 (si 255) fun t13 =>
 p.cvI .u8 t13 fun t14 =>
 p.fill [(su 0), (su 0)] [(0, 1, t11), (1, 1, t14)] fun ct15 => p.newSl 2 1 ct15 true H fun t15 H =>
 p.app 1 1 t7 t15 H fun t16 H =>
 k t16 H
theorem AgD : Le AmA @f95 := fun p n a0 a1 H k => by kernel_rfl
noncomputable def f93 (n : Nat) (a0 a1 : AV) (H : Ab) (k : KO β) : Option β :=
 p.ca 4 80 [a1] H fun t6 H =>
 p.un .not t6 fun t7 =>
 p.cond t7
 (p.app 1 1 .nl a0 H fun t10 H =>
 k t10 H)
 (p.lenS a1 fun t13 =>
 p.ca 22 95 [a0, t13] H fun t14 H =>
 p.appS 1 t14 a1 H fun t16 H =>
 k t16 H)
theorem AgB : Le Am8 @f93 := fun p n a0 a1 H k => by kernel_rfl
noncomputable def f94 (n : Nat) (a0 a1 : AV) (H : Ab) (k : KO β) : Option β :=
 p.cond a0
 (k a1 H)
 (k i0 H)
theorem AgC : Le Am9 @f94 := fun p n a0 a1 H k => by kernel_rfl
noncomputable def f96 (n : Nat) (a0 a1 : AV) (H : Ab) (k : KO β) : Option β :=
 p.len a1 fun t6 =>
 p.bin .gtr t6 (si 60) fun t7 =>
 p.cond t7
 (p.app 1 1 .nl a0 H fun t10 H =>
 k t10 H)
 (p.len a1 fun t13 =>
 p.ca 22 95 [a0, t13] H fun t14 H =>
 p.app 1 1 t14 a1 H fun t16 H =>
 k t16 H)
theorem AgE : Le AmB @f96 := fun p n a0 a1 H k => by kernel_rfl
noncomputable def Pb (p : Pr β) (n : Nat)  (k : KO β) : Nat → AV → KO β
 | 0, _, _, _ => none
 | m + 1, t1, t5, H => p.bin .gtr t1 (si 127) fun t14 =>
   p.cond t14
   (p.bin .rem t1 (si 128) fun t17 =>
   p.bin .add (si 128) t17 fun t18 =>
   p.cvI .u8 t18 fun t19 =>
   p.fill [(su 0)] [(0, 1, t19)] fun ct20 => p.newSl 1 1 ct20 true H fun t20 H =>
   p.app 1 1 t5 t20 H fun t21 H =>
   p.bin .quo t1 (si 128) fun t23 =>
   Pb p n  k m t23 t21 H)
   (p.cvI .u8 t1 fun t26 =>
   p.fill [(su 0)] [(0, 1, t26)] fun ct27 => p.newSl 1 1 ct27 true H fun t27 H =>
   p.app 1 1 t5 t27 H fun t28 H =>
   k t28 H)
noncomputable def f97 (n : Nat) (a0 a1 : AV) (H : Ab) (k : KO β) : Option β :=
 p.app 1 1 .nl a0 H fun t8 H =>
 p.ca 4 81 [a1, i0, (si 268435455)] H fun t10 H =>
 p.un .not t10 fun t11 =>
 p.cond t11
 (k t8 H)
 (Pb p n  k n a1 t8 H)
noncomputable def AgF (p : Pr β) (n : Nat)  (k : KO β) (m : Nat) (tm : Tm) (H : Ab) : Option β :=
 Dd 29 (fun tm H k => Ai As p [] 29 n (cd c97 [1, 1, 1, 0, 0, 0]) tm H k) (Eg 0 (Dw (fun tm H => Ai As p [] 29 n (cd c97 [1, 1, 1, 1]) tm H (Cd As p fi97.results k)) (Cd As p fi97.results k))) m tm H
theorem Ae3 (p : Pr β) (n : Nat)  (k : KO β) (m0 : Nat) : ∀ (t : Nat → AV) (H : Ab), AgF p n  k m0 (tf 29 0 t) H = Pb p n  k m0 (t 1) (t 5) H := by
 induction m0 with
 | zero => intros; rfl
 | succ m0 ih =>
  intro t H
  refine Eq.trans (Bh (nt := 29) (m := m0) (g := fun t H => Pb p n  k m0 (t 1) (t 5) H) ih rfl) ?_
  kernel_rfl
theorem AiX (p : Pr β) (n : Nat) (a0 a1 : AV) (H : Ab) (k : KO β) : B6 As p n fi97 [a0, a1] H k =
 p.app 1 1 .nl a0 H fun t8 H =>
 p.call 4 (.fn 81 [] []) [a1, i0, (si 268435455)] H fun t10 H =>
 p.un .not t10 fun t11 =>
 p.cond t11
 (k t8 H)
 (AgF p n  k n (tf 29 0 (ud [(0, a0), (1, a1), (4, .nl), (5, t8), (6, .nl), (7, a0), (8, t8), (9, a1), (10, t10), (11, t11)] ut)) H) := by kernel_rfl
theorem AgG : Le fi97 @f97 := fun p n a0 a1 H k => by
 rw [AiX]
 simp only [Ae3]
 kernel_rfl
noncomputable def Q3 (p : Pr β) (n : Nat)  (k : KO β) : Nat → AV → AV → AV → KO β
 | 0, _, _, _, _, _ => none
 | m + 1, t1, t3, t4, t7, H => p.fadr 23 t1 fun t183 =>
   p.load false 1 t183 H fun t184 =>
   p.len t184 fun t185 =>
   p.bin .lss t7 t185 fun t186 =>
   p.cond t186
   (p.fadr 23 t1 fun t190 =>
   p.load false 1 t190 H fun t191 =>
   p.iadr 1 t191 t7 fun t193 =>
   p.load false 1 t193 H fun t194 =>
   p.ca 22 93 [t4, t194] H fun t195 H =>
   p.bin .add t7 (si 1) fun t188 =>
   Q3 p n  k m t1 t3 t195 t188 H)
   (p.cvI .u8 t3 fun t197 =>
   p.fill [(su 0)] [(0, 1, t197)] fun ct198 => p.newSl 1 1 ct198 true H fun t198 H =>
   p.len t4 fun t200 =>
   p.ca 22 97 [t198, t200] H fun t201 H =>
   p.app 1 1 t201 t4 H fun t203 H =>
   k t203 H)
noncomputable def N1 (p : Pr β) (n : Nat)  (k : KO β) : Nat → AV → AV → AV → KO β
 | 0, _, _, _, _, _ => none
 | m + 1, t1, t3, t4, t6, H => p.fadr 24 t1 fun t167 =>
   p.load false 1 t167 H fun t168 =>
   p.len t168 fun t169 =>
   p.bin .lss t6 t169 fun t170 =>
   p.cond t170
   (p.fadr 24 t1 fun t174 =>
   p.load false 1 t174 H fun t175 =>
   p.iadr 1 t175 t6 fun t177 =>
   p.load false 1 t177 H fun t178 =>
   p.cvI .u8 t178 fun t179 =>
   p.fill [(su 0)] [(0, 1, t179)] fun ct180 => p.newSl 1 1 ct180 true H fun t180 H =>
   p.app 1 1 t4 t180 H fun t181 H =>
   p.bin .add t6 (si 1) fun t172 =>
   N1 p n  k m t1 t3 t181 t172 H)
   (Q3 p n  k n t1 t3 t4 i0 H)
noncomputable def N0 (p : Pr β) (n : Nat)  (k : KO β) : Nat → AV → AV → AV → KO β
 | 0, _, _, _, _, _ => none
 | m + 1, t1, t3, t4, t5, H => p.fadr 22 t1 fun t143 =>
   p.load false 1 t143 H fun t144 =>
   p.len t144 fun t145 =>
   p.bin .lss t5 t145 fun t146 =>
   p.cond t146
   (p.fadr 22 t1 fun t150 =>
   p.load false 1 t150 H fun t151 =>
   p.iadr 2 t151 t5 fun t153 =>
   p.fl 0 t153 1 H fun t155 =>
   p.fl 22 t1 1 H fun t158 =>
   p.iadr 2 t158 t5 fun t160 =>
   p.fl 1 t160 1 H fun t162 =>
   p.cvI .u8 t162 fun t163 =>
   Et (fun (t1 t3 t4 t5 : AV) (H : Ab) => p.bin .add t5 (si 1) fun t148 =>
   N0 p n  k m t1 t3 t4 t148 H) fun j1 =>
   p.both
   (p.ca 22 93 [t4, t155] H fun t156 H =>
   p.fill [(su 0)] [(0, 1, t163)] fun ct164 => p.newSl 1 1 ct164 true H fun t164 H =>
   p.app 1 1 t156 t164 H fun t165 H =>
   j1 t1 t3 t165 t5 H)
   (p.fill [(su 0)] [(0, 1, t163)] fun ct164 => p.newSl 1 1 ct164 true H fun t164 H =>
   p.ca 22 93 [t4, t155] H fun t156 H =>
   p.app 1 1 t156 t164 H fun t165 H =>
   j1 t1 t3 t165 t5 H))
   (N1 p n  k n t1 t3 t4 i0 H)
noncomputable def f66 (n : Nat) (a0 : AV) (H : Ab) (k : KO β) : Option β :=
 p.box a0 H fun t1 H =>
 p.load true 25 t1 H fun t8 =>
 p.ca 4 64 [t8] H fun t9 H =>
 p.un .not t9 fun t10 =>
 p.cond t10
 (k .nl H)
 (p.fadr 0 t1 fun t12 =>
 p.load false 1 t12 H fun t13 =>
 p.bin .mul (si 16) t13 fun t14 =>
 p.fl 0 t1 1 H fun t17 =>
 p.bin .eql t17 (si 1) fun t19 =>
 Et (fun (t1 t3 t4 : AV) (H : Ab) => p.fadr 0 t1 fun t130 =>
 p.load false 1 t130 H fun t131 =>
 p.bin .neq t131 (si 3) fun t132 =>
 p.lT t132 H 4 t1 1 fun t135 H =>
 p.gT t132 H (p.bin .gtr t135 i0) fun t136 H =>
 p.pick t132 t136 bF fun t137 =>
 Et (fun (t1 t3 t4 : AV) (H : Ab) => N0 p n  k n t1 t3 t4 i0 H) fun j2 =>
 p.cond t137
 (p.fadr 4 t1 fun t139 =>
 p.load false 1 t139 H fun t140 =>
 p.ca 22 95 [t4, t140] H fun t141 H =>
 j2 t1 t3 t141 H)
 (j2 t1 t3 t4 H)) fun j1 =>
 p.cond t19
 (p.fadr 8 t1 fun t22 =>
 p.load false 1 t22 H fun t23 =>
 p.cvI .u8 t23 fun t24 =>
 Et (fun (t1 t3 t4 : AV) (H : Ab) => p.fadr 9 t1 fun t28 =>
 p.load false 1 t28 H fun t29 =>
 p.fl 11 t1 1 H fun t32 =>
 p.fl 14 t1 1 H fun t36 =>
 p.bin .mul (si 8) t36 fun t37 =>
 p.fl 15 t1 1 H fun t40 =>
 p.fl 18 t1 1 H fun t44 =>
 p.fl 16 t1 1 H fun t48 =>
 p.ca 3 94 [t29, (si 2)] H fun t30 H =>
 p.ca 3 94 [t32, (si 4)] H fun t33 H =>
 p.bin .add t30 t33 fun t34 =>
 p.bin .add t34 t37 fun t38 =>
 p.ca 3 94 [t40, (si 32)] H fun t41 H =>
 p.bin .add t38 t41 fun t42 =>
 p.ca 3 94 [t44, (si 64)] H fun t45 H =>
 p.bin .add t42 t45 fun t46 =>
 p.ca 3 94 [t48, (si 128)] H fun t49 H =>
 p.bin .add t46 t49 fun t50 =>
 p.cvI .u8 t50 fun t51 =>
 p.fill [(su 0)] [(0, 1, t51)] fun ct52 => p.newSl 1 1 ct52 true H fun t52 H =>
 p.app 1 1 t4 t52 H fun t53 H =>
 p.fl 10 t1 1 H fun t56 =>
 p.fl 7 t1 1 H fun t59 =>
 p.ca 22 95 [t53, t56] H fun t57 H =>
 p.ca 22 93 [t57, t59] H fun t60 H =>
 p.fl 11 t1 1 H fun t62 =>
 Et (fun (t1 t3 t4 : AV) (H : Ab) => p.fadr 16 t1 fun t70 =>
 p.load false 1 t70 H fun t71 =>
 Et (fun (t1 t3 t4 : AV) (H : Ab) => p.fadr 18 t1 fun t76 =>
 p.load false 1 t76 H fun t77 =>
 p.cond t77
 (p.fadr 19 t1 fun t79 =>
 p.load false 1 t79 H fun t80 =>
 p.ca 22 96 [t4, t80] H fun t81 H =>
 j1 t1 t3 t81 H)
 (j1 t1 t3 t4 H)) fun j5 =>
 p.cond t71
 (p.fadr 17 t1 fun t73 =>
 p.load false 1 t73 H fun t74 =>
 p.ca 22 93 [t4, t74] H fun t75 H =>
 j5 t1 t3 t75 H)
 (j5 t1 t3 t4 H)) fun j4 =>
 p.cond t62
 (p.fadr 12 t1 fun t64 =>
 p.load false 1 t64 H fun t65 =>
 p.fl 13 t1 1 H fun t68 =>
 p.ca 22 93 [t60, t65] H fun t66 H =>
 p.ca 22 96 [t66, t68] H fun t69 H =>
 j4 t1 t3 t69 H)
 (j4 t1 t3 t60 H)) fun j3 =>
 p.both
 (p.ca 22 93 [.nl, (.sc (.string ⟨#[77, 81, 84, 84]⟩))] H fun t21 H =>
 p.fill [(su 0)] [(0, 1, t24)] fun ct25 => p.newSl 1 1 ct25 true H fun t25 H =>
 p.app 1 1 t21 t25 H fun t26 H =>
 j3 t1 t14 t26 H)
 (p.fill [(su 0)] [(0, 1, t24)] fun ct25 => p.newSl 1 1 ct25 true H fun t25 H =>
 p.ca 22 93 [.nl, (.sc (.string ⟨#[77, 81, 84, 84]⟩))] H fun t21 H =>
 p.app 1 1 t21 t25 H fun t26 H =>
 j3 t1 t14 t26 H))
 (p.bin .eql t17 (si 2) fun t83 =>
 p.cond t83
 (p.fadr 21 t1 fun t85 =>
 p.load false 1 t85 H fun t86 =>
 p.fl 20 t1 1 H fun t90 =>
 p.cvI .u8 t90 fun t91 =>
 p.ca 3 94 [t86, (si 1)] H fun t87 H =>
 p.cvI .u8 t87 fun t88 =>
 p.fill [(su 0), (su 0)] [(0, 1, t88), (1, 1, t91)] fun ct92 => p.newSl 2 1 ct92 true H fun t92 H =>
 p.app 1 1 .nl t92 H fun t93 H =>
 j1 t1 t14 t93 H)
 (p.bin .eql t17 (si 3) fun t95 =>
 p.cond t95
 (p.fadr 1 t1 fun t97 =>
 p.load false 1 t97 H fun t98 =>
 p.fl 2 t1 1 H fun t102 =>
 p.bin .mul (si 2) t102 fun t103 =>
 p.fl 3 t1 1 H fun t106 =>
 p.ca 3 94 [t98, (si 8)] H fun t99 H =>
 p.bin .add t14 t99 fun t100 =>
 p.bin .add t100 t103 fun t104 =>
 p.ca 3 94 [t106, (si 1)] H fun t107 H =>
 p.bin .add t104 t107 fun t108 =>
 p.fl 5 t1 1 H fun t111 =>
 p.ca 22 93 [.nl, t111] H fun t112 H =>
 p.fl 2 t1 1 H fun t114 =>
 p.bin .gtr t114 i0 fun t115 =>
 Et (fun (t1 t3 t4 : AV) (H : Ab) => p.fadr 6 t1 fun t121 =>
 p.load false 1 t121 H fun t122 =>
 p.app 1 1 t4 t122 H fun t123 H =>
 j1 t1 t3 t123 H) fun j6 =>
 p.cond t115
 (p.fadr 4 t1 fun t117 =>
 p.load false 1 t117 H fun t118 =>
 p.ca 22 95 [t112, t118] H fun t119 H =>
 j6 t1 t108 t119 H)
 (j6 t1 t108 t112 H))
 (p.bin .eql t17 (si 6) fun t125 =>
 Et (fun (t1 t3 t4 t124 : AV) (H : Ab) => p.cond t124
 (p.bin .add t3 (si 2) fun t129 =>
 j1 t1 t129 t4 H)
 (j1 t1 t3 t4 H)) fun j7 =>
 p.cond t125
 (j7 t1 t14 .nl t125 H)
 (p.bin .eql t17 (si 8) fun t126 =>
 p.cond t126
 (j7 t1 t14 .nl t126 H)
 (p.bin .eql t17 (si 10) fun t127 =>
 j7 t1 t14 .nl t127 H))))))
noncomputable def Age (p : Pr β) (n : Nat)  (k : KO β) (m : Nat) (tm : Tm) (H : Ab) : Option β :=
 Dd 204 (fun tm H k => Ai As p o66 204 n (cd c66 [1, 1, 1, 1, 1, 1, 1, 1, 0, 1, 0, 0]) tm H k) (Eg 5 (Dw (fun tm H => Ai As p o66 204 n (cd c66 [1, 1, 1, 1, 1, 1, 1, 1, 1]) tm H (Cd As p fi66.results k)) (Cd As p fi66.results k))) m tm H
noncomputable def Agd (p : Pr β) (n : Nat)  (k : KO β) (m : Nat) (tm : Tm) (H : Ab) : Option β :=
 Dd 204 (fun tm H k => Ai As p o66 204 n (cd c66 [1, 1, 1, 1, 1, 1, 1, 0, 1, 0, 0]) tm H k) (Eg 3 (Dw (fun tm H => Ai As p o66 204 n (cd c66 [1, 1, 1, 1, 1, 1, 1, 1]) tm H (Cd As p fi66.results k)) (Cd As p fi66.results k))) m tm H
noncomputable def Agc (p : Pr β) (n : Nat)  (k : KO β) (m : Nat) (tm : Tm) (H : Ab) : Option β :=
 Dd 204 (fun tm H k => Ai As p o66 204 n (cd c66 [1, 1, 1, 1, 1, 1, 0, 1, 0, 0]) tm H k) (Eg 1 (Dw (fun tm H => Ai As p o66 204 n (cd c66 [1, 1, 1, 1, 1, 1, 1]) tm H (Cd As p fi66.results k)) (Cd As p fi66.results k))) m tm H
theorem Yl (p : Pr β) (n : Nat)  (k : KO β) (m2 : Nat) : ∀ (t : Nat → AV) (H : Ab), Age p n  k m2 (tf 204 0 t) H = Q3 p n  k m2 (t 1) (t 3) (t 4) (t 7) H := by
 induction m2 with
 | zero => intros; rfl
 | succ m2 ih =>
  intro t H
  refine Eq.trans (Bh (nt := 204) (m := m2) (g := fun t H => Q3 p n  k m2 (t 1) (t 3) (t 4) (t 7) H) ih rfl) ?_
  kernel_rfl
theorem Aa5 (p : Pr β) (n : Nat)  (k : KO β) (m1 : Nat) (t : Nat → AV) (H : Ab) : Ai As p o66 204 n (cd c66 [1, 1, 1, 1, 1, 1, 1, 0, 1, 0, 0]) (tf 204 0 t) H (Dw (fun tm H => N1 p n  k m1 (gt tm 1) (gt tm 3) (gt tm 4) (gt tm 6) H) (Eg 3 (Dw (fun tm H => Ai As p o66 204 n (cd c66 [1, 1, 1, 1, 1, 1, 1, 1]) tm H (Cd As p fi66.results k)) (Cd As p fi66.results k)))) =
 p.fadr 24 (t 1) fun t167 =>
 p.load false 1 t167 H fun t168 =>
 p.len t168 fun t169 =>
 p.bin .lss (t 6) t169 fun t170 =>
 p.cond t170
 (p.fadr 24 (t 1) fun t174 =>
 p.load false 1 t174 H fun t175 =>
 p.iadr 1 t175 (t 6) fun t177 =>
 p.load false 1 t177 H fun t178 =>
 p.cvI .u8 t178 fun t179 =>
 p.fill [(su 0)] [(0, 1, t179)] fun ct180 => p.newSl 1 1 ct180 true H fun t180 H =>
 p.app 1 1 (t 4) t180 H fun t181 H =>
 p.bin .add (t 6) (si 1) fun t172 =>
 N1 p n  k m1 (t 1) (t 3) t181 t172 H)
 (Age p n  k n (tf 204 0 (ud [(7, i0), (166, (t 6)), (167, t167), (168, t168), (169, t169), (170, t170)] t)) H) := by kernel_rfl
theorem Yk (p : Pr β) (n : Nat)  (k : KO β) (m1 : Nat) : ∀ (t : Nat → AV) (H : Ab), Agd p n  k m1 (tf 204 0 t) H = N1 p n  k m1 (t 1) (t 3) (t 4) (t 6) H := by
 induction m1 with
 | zero => intros; rfl
 | succ m1 ih =>
  intro t H
  refine Eq.trans (Bh (nt := 204) (m := m1) (g := fun t H => N1 p n  k m1 (t 1) (t 3) (t 4) (t 6) H) ih rfl) ?_
  refine Eq.trans (Aa5 p n  k m1 t H) ?_
  simp only [Yl]
  kernel_rfl
theorem Aa4 (p : Pr β) (n : Nat)  (k : KO β) (m0 : Nat) (t : Nat → AV) (H : Ab) : Ai As p o66 204 n (cd c66 [1, 1, 1, 1, 1, 1, 0, 1, 0, 0]) (tf 204 0 t) H (Dw (fun tm H => N0 p n  k m0 (gt tm 1) (gt tm 3) (gt tm 4) (gt tm 5) H) (Eg 1 (Dw (fun tm H => Ai As p o66 204 n (cd c66 [1, 1, 1, 1, 1, 1, 1]) tm H (Cd As p fi66.results k)) (Cd As p fi66.results k)))) =
 p.fadr 22 (t 1) fun t143 =>
 p.load false 1 t143 H fun t144 =>
 p.len t144 fun t145 =>
 p.bin .lss (t 5) t145 fun t146 =>
 p.cond t146
 (p.fadr 22 (t 1) fun t150 =>
 p.load false 1 t150 H fun t151 =>
 p.iadr 2 t151 (t 5) fun t153 =>
 p.fadr 0 t153 fun t154 =>
 p.load false 1 t154 H fun t155 =>
 p.fadr 22 (t 1) fun t157 =>
 p.load false 1 t157 H fun t158 =>
 p.iadr 2 t158 (t 5) fun t160 =>
 p.fadr 1 t160 fun t161 =>
 p.load false 1 t161 H fun t162 =>
 p.cvI .u8 t162 fun t163 =>
 Et (fun (t : Nat → AV) (H : Ab) => p.bin .add (t 5) (si 1) fun t148 =>
 N0 p n  k m0 (t 1) (t 3) (t 4) t148 H) fun j1 =>
 p.both
 (p.call 22 (.fn 93 [] []) [(t 4), t155] H fun t156 H =>
 p.fill [(su 0)] [(0, 1, t163)] fun ct164 => p.newSl 1 1 ct164 true H fun t164 H =>
 p.app 1 1 t156 t164 H fun t165 H =>
 j1 (ud [(4, t165), (142, (t 5)), (143, t143), (144, t144), (145, t145), (146, t146), (149, (t 4)), (150, t150), (151, t151), (152, (t 5)), (153, t153), (154, t154), (155, t155), (156, t156), (157, t157), (158, t158), (159, (t 5)), (160, t160), (161, t161), (162, t162), (163, t163), (164, t164), (165, t165)] t) H)
 (p.fill [(su 0)] [(0, 1, t163)] fun ct164 => p.newSl 1 1 ct164 true H fun t164 H =>
 p.call 22 (.fn 93 [] []) [(t 4), t155] H fun t156 H =>
 p.app 1 1 t156 t164 H fun t165 H =>
 j1 (ud [(4, t165), (142, (t 5)), (143, t143), (144, t144), (145, t145), (146, t146), (149, (t 4)), (150, t150), (151, t151), (152, (t 5)), (153, t153), (154, t154), (155, t155), (156, t156), (157, t157), (158, t158), (159, (t 5)), (160, t160), (161, t161), (162, t162), (163, t163), (164, t164), (165, t165)] t) H))
 (Agd p n  k n (tf 204 0 (ud [(6, i0), (142, (t 5)), (143, t143), (144, t144), (145, t145), (146, t146)] t)) H) := by kernel_rfl
theorem Aeu (p : Pr β) (n : Nat)  (k : KO β) (m0 : Nat) : ∀ (t : Nat → AV) (H : Ab), Agc p n  k m0 (tf 204 0 t) H = N0 p n  k m0 (t 1) (t 3) (t 4) (t 5) H := by
 induction m0 with
 | zero => intros; rfl
 | succ m0 ih =>
  intro t H
  refine Eq.trans (Bh (nt := 204) (m := m0) (g := fun t H => N0 p n  k m0 (t 1) (t 3) (t 4) (t 5) H) ih rfl) ?_
  refine Eq.trans (Aa4 p n  k m0 t H) ?_
  simp only [Yk]
  kernel_rfl
theorem AiN (p : Pr β) (n : Nat) (a0 : AV) (H : Ab) (k : KO β) : B6 As p n fi66 [a0] H k =
 p.box a0 H fun t1 H =>
 p.load true 25 t1 H fun t8 =>
 p.call 4 (.fn 64 [] []) [t8] H fun t9 H =>
 p.un .not t9 fun t10 =>
 p.cond t10
 (k .nl H)
 (p.fadr 0 t1 fun t12 =>
 p.load false 1 t12 H fun t13 =>
 p.bin .mul (si 16) t13 fun t14 =>
 p.fadr 0 t1 fun t16 =>
 p.load false 1 t16 H fun t17 =>
 p.bin .eql t17 (si 1) fun t19 =>
 Et (fun (t : Nat → AV) (H : Ab) => p.fadr 0 (t 1) fun t130 =>
 p.load false 1 t130 H fun t131 =>
 p.bin .neq t131 (si 3) fun t132 =>
 p.gT t132 H (p.fadr 4 (t 1)) fun t134 H =>
 p.gT t132 H (p.load false 1 t134 H) fun t135 H =>
 p.gT t132 H (p.bin .gtr t135 i0) fun t136 H =>
 p.pick t132 t136 bF fun t137 =>
 Et (fun (t : Nat → AV) (H : Ab) => Agc p n  k n (tf 204 0 (ud [(5, i0)] t)) H) fun j2 =>
 p.cond t137
 (p.fadr 4 (t 1) fun t139 =>
 p.load false 1 t139 H fun t140 =>
 p.call 22 (.fn 95 [] []) [(t 4), t140] H fun t141 H =>
 j2 (ud [(4, t141), (130, t130), (131, t131), (132, t132), (133, t132), (134, t134), (135, t135), (136, t136), (137, t137), (138, (t 4)), (139, t139), (140, t140), (141, t141)] t) H)
 (j2 (ud [(130, t130), (131, t131), (132, t132), (133, t132), (134, t134), (135, t135), (136, t136), (137, t137)] t) H)) fun j1 =>
 p.cond t19
 (p.fadr 8 t1 fun t22 =>
 p.load false 1 t22 H fun t23 =>
 p.cvI .u8 t23 fun t24 =>
 Et (fun (t : Nat → AV) (H : Ab) => p.fadr 9 (t 1) fun t28 =>
 p.load false 1 t28 H fun t29 =>
 p.fadr 11 (t 1) fun t31 =>
 p.load false 1 t31 H fun t32 =>
 p.fadr 14 (t 1) fun t35 =>
 p.load false 1 t35 H fun t36 =>
 p.bin .mul (si 8) t36 fun t37 =>
 p.fadr 15 (t 1) fun t39 =>
 p.load false 1 t39 H fun t40 =>
 p.fadr 18 (t 1) fun t43 =>
 p.load false 1 t43 H fun t44 =>
 p.fadr 16 (t 1) fun t47 =>
 p.load false 1 t47 H fun t48 =>
 p.call 3 (.fn 94 [] []) [t29, (si 2)] H fun t30 H =>
 p.call 3 (.fn 94 [] []) [t32, (si 4)] H fun t33 H =>
 p.bin .add t30 t33 fun t34 =>
 p.bin .add t34 t37 fun t38 =>
 p.call 3 (.fn 94 [] []) [t40, (si 32)] H fun t41 H =>
 p.bin .add t38 t41 fun t42 =>
 p.call 3 (.fn 94 [] []) [t44, (si 64)] H fun t45 H =>
 p.bin .add t42 t45 fun t46 =>
 p.call 3 (.fn 94 [] []) [t48, (si 128)] H fun t49 H =>
 p.bin .add t46 t49 fun t50 =>
 p.cvI .u8 t50 fun t51 =>
 p.fill [(su 0)] [(0, 1, t51)] fun ct52 => p.newSl 1 1 ct52 true H fun t52 H =>
 p.app 1 1 (t 4) t52 H fun t53 H =>
 p.fadr 10 (t 1) fun t55 =>
 p.load false 1 t55 H fun t56 =>
 p.fadr 7 (t 1) fun t58 =>
 p.load false 1 t58 H fun t59 =>
 p.call 22 (.fn 95 [] []) [t53, t56] H fun t57 H =>
 p.call 22 (.fn 93 [] []) [t57, t59] H fun t60 H =>
 p.fadr 11 (t 1) fun t61 =>
 p.load false 1 t61 H fun t62 =>
 Et (fun (t : Nat → AV) (H : Ab) => p.fadr 16 (t 1) fun t70 =>
 p.load false 1 t70 H fun t71 =>
 Et (fun (t : Nat → AV) (H : Ab) => p.fadr 18 (t 1) fun t76 =>
 p.load false 1 t76 H fun t77 =>
 p.cond t77
 (p.fadr 19 (t 1) fun t79 =>
 p.load false 1 t79 H fun t80 =>
 p.call 22 (.fn 96 [] []) [(t 4), t80] H fun t81 H =>
 j1 (ud [(4, t81), (76, t76), (77, t77), (78, (t 4)), (79, t79), (80, t80), (81, t81)] t) H)
 (j1 (ud [(76, t76), (77, t77)] t) H)) fun j5 =>
 p.cond t71
 (p.fadr 17 (t 1) fun t73 =>
 p.load false 1 t73 H fun t74 =>
 p.call 22 (.fn 93 [] []) [(t 4), t74] H fun t75 H =>
 j5 (ud [(4, t75), (70, t70), (71, t71), (72, (t 4)), (73, t73), (74, t74), (75, t75)] t) H)
 (j5 (ud [(70, t70), (71, t71)] t) H)) fun j4 =>
 p.cond t62
 (p.fadr 12 (t 1) fun t64 =>
 p.load false 1 t64 H fun t65 =>
 p.fadr 13 (t 1) fun t67 =>
 p.load false 1 t67 H fun t68 =>
 p.call 22 (.fn 93 [] []) [t60, t65] H fun t66 H =>
 p.call 22 (.fn 96 [] []) [t66, t68] H fun t69 H =>
 j4 (ud [(4, t69), (27, (t 4)), (28, t28), (29, t29), (30, t30), (31, t31), (32, t32), (33, t33), (34, t34), (35, t35), (36, t36), (37, t37), (38, t38), (39, t39), (40, t40), (41, t41), (42, t42), (43, t43), (44, t44), (45, t45), (46, t46), (47, t47), (48, t48), (49, t49), (50, t50), (51, t51), (52, t52), (53, t53), (54, t53), (55, t55), (56, t56), (57, t57), (58, t58), (59, t59), (60, t60), (61, t61), (62, t62), (63, t60), (64, t64), (65, t65), (66, t66), (67, t67), (68, t68), (69, t69)] t) H)
 (j4 (ud [(4, t60), (27, (t 4)), (28, t28), (29, t29), (30, t30), (31, t31), (32, t32), (33, t33), (34, t34), (35, t35), (36, t36), (37, t37), (38, t38), (39, t39), (40, t40), (41, t41), (42, t42), (43, t43), (44, t44), (45, t45), (46, t46), (47, t47), (48, t48), (49, t49), (50, t50), (51, t51), (52, t52), (53, t53), (54, t53), (55, t55), (56, t56), (57, t57), (58, t58), (59, t59), (60, t60), (61, t61), (62, t62)] t) H)) fun j3 =>
 p.both
 (p.call 22 (.fn 93 [] []) [.nl, (.sc (.string ⟨#[77, 81, 84, 84]⟩))] H fun t21 H =>
 p.fill [(su 0)] [(0, 1, t24)] fun ct25 => p.newSl 1 1 ct25 true H fun t25 H =>
 p.app 1 1 t21 t25 H fun t26 H =>
 j3 (ud [(0, a0), (1, t1), (2, .nl), (3, t14), (4, t26), (8, t8), (9, t9), (10, t10), (12, t12), (13, t13), (14, t14), (15, .nl), (16, t16), (17, t17), (18, t19), (19, t19), (20, .nl), (21, t21), (22, t22), (23, t23), (24, t24), (25, t25), (26, t26)] ut) H)
 (p.fill [(su 0)] [(0, 1, t24)] fun ct25 => p.newSl 1 1 ct25 true H fun t25 H =>
 p.call 22 (.fn 93 [] []) [.nl, (.sc (.string ⟨#[77, 81, 84, 84]⟩))] H fun t21 H =>
 p.app 1 1 t21 t25 H fun t26 H =>
 j3 (ud [(0, a0), (1, t1), (2, .nl), (3, t14), (4, t26), (8, t8), (9, t9), (10, t10), (12, t12), (13, t13), (14, t14), (15, .nl), (16, t16), (17, t17), (18, t19), (19, t19), (20, .nl), (21, t21), (22, t22), (23, t23), (24, t24), (25, t25), (26, t26)] ut) H))
 (p.bin .eql t17 (si 2) fun t83 =>
 p.cond t83
 (p.fadr 21 t1 fun t85 =>
 p.load false 1 t85 H fun t86 =>
 p.fadr 20 t1 fun t89 =>
 p.load false 1 t89 H fun t90 =>
 p.cvI .u8 t90 fun t91 =>
 p.call 3 (.fn 94 [] []) [t86, (si 1)] H fun t87 H =>
 p.cvI .u8 t87 fun t88 =>
 p.fill [(su 0), (su 0)] [(0, 1, t88), (1, 1, t91)] fun ct92 => p.newSl 2 1 ct92 true H fun t92 H =>
 p.app 1 1 .nl t92 H fun t93 H =>
 j1 (ud [(0, a0), (1, t1), (2, .nl), (3, t14), (4, t93), (8, t8), (9, t9), (10, t10), (12, t12), (13, t13), (14, t14), (15, .nl), (16, t16), (17, t17), (18, t19), (19, t19), (82, t83), (83, t83), (84, .nl), (85, t85), (86, t86), (87, t87), (88, t88), (89, t89), (90, t90), (91, t91), (92, t92), (93, t93)] ut) H)
 (p.bin .eql t17 (si 3) fun t95 =>
 p.cond t95
 (p.fadr 1 t1 fun t97 =>
 p.load false 1 t97 H fun t98 =>
 p.fadr 2 t1 fun t101 =>
 p.load false 1 t101 H fun t102 =>
 p.bin .mul (si 2) t102 fun t103 =>
 p.fadr 3 t1 fun t105 =>
 p.load false 1 t105 H fun t106 =>
 p.call 3 (.fn 94 [] []) [t98, (si 8)] H fun t99 H =>
 p.bin .add t14 t99 fun t100 =>
 p.bin .add t100 t103 fun t104 =>
 p.call 3 (.fn 94 [] []) [t106, (si 1)] H fun t107 H =>
 p.bin .add t104 t107 fun t108 =>
 p.fadr 5 t1 fun t110 =>
 p.load false 1 t110 H fun t111 =>
 p.call 22 (.fn 93 [] []) [.nl, t111] H fun t112 H =>
 p.fadr 2 t1 fun t113 =>
 p.load false 1 t113 H fun t114 =>
 p.bin .gtr t114 i0 fun t115 =>
 Et (fun (t : Nat → AV) (H : Ab) => p.fadr 6 (t 1) fun t121 =>
 p.load false 1 t121 H fun t122 =>
 p.app 1 1 (t 4) t122 H fun t123 H =>
 j1 (ud [(4, t123), (120, (t 4)), (121, t121), (122, t122), (123, t123)] t) H) fun j6 =>
 p.cond t115
 (p.fadr 4 t1 fun t117 =>
 p.load false 1 t117 H fun t118 =>
 p.call 22 (.fn 95 [] []) [t112, t118] H fun t119 H =>
 j6 (ud [(0, a0), (1, t1), (2, .nl), (3, t108), (4, t119), (8, t8), (9, t9), (10, t10), (12, t12), (13, t13), (14, t14), (15, .nl), (16, t16), (17, t17), (18, t19), (19, t19), (82, t83), (83, t83), (94, t95), (95, t95), (96, t14), (97, t97), (98, t98), (99, t99), (100, t100), (101, t101), (102, t102), (103, t103), (104, t104), (105, t105), (106, t106), (107, t107), (108, t108), (109, .nl), (110, t110), (111, t111), (112, t112), (113, t113), (114, t114), (115, t115), (116, t112), (117, t117), (118, t118), (119, t119)] ut) H)
 (j6 (ud [(0, a0), (1, t1), (2, .nl), (3, t108), (4, t112), (8, t8), (9, t9), (10, t10), (12, t12), (13, t13), (14, t14), (15, .nl), (16, t16), (17, t17), (18, t19), (19, t19), (82, t83), (83, t83), (94, t95), (95, t95), (96, t14), (97, t97), (98, t98), (99, t99), (100, t100), (101, t101), (102, t102), (103, t103), (104, t104), (105, t105), (106, t106), (107, t107), (108, t108), (109, .nl), (110, t110), (111, t111), (112, t112), (113, t113), (114, t114), (115, t115)] ut) H))
 (p.bin .eql t17 (si 6) fun t125 =>
 Et (fun (t : Nat → AV) (H : Ab) => p.cond (t 124)
 (p.bin .add (t 3) (si 2) fun t129 =>
 j1 (ud [(3, t129), (128, (t 3)), (129, t129)] t) H)
 (j1 t H)) fun j7 =>
 p.cond t125
 (j7 (ud [(0, a0), (1, t1), (2, .nl), (3, t14), (4, .nl), (8, t8), (9, t9), (10, t10), (12, t12), (13, t13), (14, t14), (15, .nl), (16, t16), (17, t17), (18, t19), (19, t19), (82, t83), (83, t83), (94, t95), (95, t95), (124, t125), (125, t125)] ut) H)
 (p.bin .eql t17 (si 8) fun t126 =>
 p.cond t126
 (j7 (ud [(0, a0), (1, t1), (2, .nl), (3, t14), (4, .nl), (8, t8), (9, t9), (10, t10), (12, t12), (13, t13), (14, t14), (15, .nl), (16, t16), (17, t17), (18, t19), (19, t19), (82, t83), (83, t83), (94, t95), (95, t95), (124, t126), (125, t125), (126, t126)] ut) H)
 (p.bin .eql t17 (si 10) fun t127 =>
 j7 (ud [(0, a0), (1, t1), (2, .nl), (3, t14), (4, .nl), (8, t8), (9, t9), (10, t10), (12, t12), (13, t13), (14, t14), (15, .nl), (16, t16), (17, t17), (18, t19), (19, t19), (82, t83), (83, t83), (94, t95), (95, t95), (124, t127), (125, t125), (126, t126), (127, t127)] ut) H)))))) := by kernel_rfl
theorem Agf : Nm fi66 @f66 := fun p n a0 H k => by
 rw [AiN]
 simp only [Yl, Yk, Aeu]
 kernel_rfl
noncomputable def f31 (n : Nat) (a0 : AV) (H : Ab) (k : KO β) : Option β :=
 p.new Ek H fun t2 H =>
 p.len a0 fun t10 =>
 p.bin .eql t10 i0 fun t11 =>
 p.cond t11
 (p.fill Ek [] fun ct12 =>
 p.store 25 t2 (.agg ct12) H fun H =>
 p.load true 25 t2 H fun r0 =>
 k (C2 [r0, i0, (si 1)]) H)
 (p.iadr 1 a0 i0 fun t14 =>
 p.load false 1 t14 H fun t15 =>
 p.cvI .i64 t15 fun t16 =>
 p.ca 4 61 [t16] H fun t17 H =>
 p.un .not t17 fun t18 =>
 p.cond t18
 (p.fill Ek [] fun ct19 =>
 p.store 25 t2 (.agg ct19) H fun H =>
 p.load true 25 t2 H fun r0 =>
 k (C2 [r0, i0, (si 2)]) H)
 (p.ca 85 62 [a0, (si 1)] H fun t22 H =>
 p.extr t22 0 fun t23 =>
 p.extr t22 1 fun t24 =>
 p.extr t22 2 fun t25 =>
 p.bin .neq t25 i0 fun t27 =>
 p.cond t27
 (p.fill Ek [] fun ct28 =>
 p.store 25 t2 (.agg ct28) H fun H =>
 p.load true 25 t2 H fun r0 =>
 k (C2 [r0, i0, t25]) H)
 (p.bin .gtr t23 (si 340) fun t31 =>
 p.cond t31
 (p.fill Ek [] fun ct32 =>
 p.store 25 t2 (.agg ct32) H fun H =>
 p.load true 25 t2 H fun r0 =>
 k (C2 [r0, i0, (si 2)]) H)
 (p.len a0 fun t35 =>
 p.bin .sub t35 t24 fun t37 =>
 p.bin .gtr t23 t37 fun t38 =>
 p.cond t38
 (p.fill Ek [] fun ct39 =>
 p.store 25 t2 (.agg ct39) H fun H =>
 p.load true 25 t2 H fun r0 =>
 k (C2 [r0, i0, (si 1)]) H)
 (p.iadr 1 a0 i0 fun t41 =>
 p.load false 1 t41 H fun t42 =>
 p.cvI .i64 t42 fun t43 =>
 p.bin .add t24 t23 fun t48 =>
 p.slice 1 a0 (some t24) (some t48) fun t49 =>
 Et (fun (t0 t2 t5 t6 t8 : AV) (H : Ab) => p.load true 25 t8 H fun t51 =>
 p.ca 4 64 [t51] H fun t52 H =>
 p.un .not t52 fun t53 =>
 p.gF t53 H (p.load true 25 t8 H) fun t55 H =>
 p.kF t53 H t0 fun t57 H =>
 p.kF t53 H t6 fun t58 H =>
 p.kF t53 H t5 fun t59 H =>
 p.gF t53 H (p.bin .add t58 t59) fun t60 H =>
 p.gF t53 H (p.slice 1 t57 none (some t60)) fun t61 H =>
 p.hF t53 H (p.ca 22 66 [t55] H) fun t56 H =>
 p.hF t53 H (p.ca 4 65 [t56, t61] H) fun t62 H =>
 p.gF t53 H (p.un .not t62) fun t63 H =>
 p.pick t53 bT t63 fun t64 =>
 p.cond t64
 (p.fill Ek [] fun ct65 =>
 p.store 25 t2 (.agg ct65) H fun H =>
 p.load true 25 t2 H fun r0 =>
 k (C2 [r0, i0, (si 2)]) H)
 (p.load true 25 t8 H fun t66 =>
 p.bin .add t6 t5 fun t69 =>
 p.store 25 t2 t66 H fun H =>
 p.load true 25 t2 H fun r0 =>
 k (C2 [r0, t69, i0]) H)) fun j1 =>
 p.both
 (p.ca 59 63 [t43, t49] H fun t50 H =>
 p.new Ek H fun t8 H =>
 p.store 25 t8 t50 H fun H =>
 j1 a0 t2 t23 t24 t8 H)
 (p.new Ek H fun t8 H =>
 p.ca 59 63 [t43, t49] H fun t50 H =>
 p.store 25 t8 t50 H fun H =>
 j1 a0 t2 t23 t24 t8 H))))))
theorem Af3 : Nm Amq @f31 := fun p n a0 H k => by kernel_rfl
noncomputable def S4 (p : Pr β) (n : Nat)  (k : KO β) : Nat → AV → AV → KO β
 | 0, _, _, _, _ => none
 | m + 1, t0, t4, t5, H => p.len t0 fun t12 =>
   p.bin .lss t5 t12 fun t13 =>
   p.cond t13
   (p.slice 1 t0 (some t5) none fun t17 =>
   p.ca 60 31 [t17] H fun t18 H =>
   p.extr t18 0 fun t19 =>
   p.extr t18 1 fun t20 =>
   p.extr t18 2 fun t21 =>
   p.new Ek H fun t6 H =>
   p.store 25 t6 t19 H fun H =>
   p.bin .neq t21 i0 fun t23 =>
   p.cond t23
   (k (C2 [t4, t21]) H)
   (p.load true 25 t6 H fun t27 =>
   p.fill Ek [(0, 25, t27)] fun ct28 => p.newSl 1 25 ct28 true H fun t28 H =>
   p.app 25 320 t4 t28 H fun t29 H =>
   p.bin .add t5 t20 fun t32 =>
   S4 p n  k m t0 t29 t32 H))
   (k (C2 [t4, i0]) H)
noncomputable def f39 (n : Nat) (a0 : AV) (H : Ab) (k : KO β) : Option β :=
 S4 p n  k n a0 .nl i0 H
noncomputable def AfC (p : Pr β) (n : Nat)  (k : KO β) (m : Nat) (tm : Tm) (H : Ab) : Option β :=
 Dd 34 (fun tm H k => Ai As p [] 34 n (cd c39 [1, 1, 0, 1, 0, 0]) tm H k) (Eg 0 (Dw (fun tm H => Ai As p [] 34 n (cd c39 [1, 1, 1]) tm H (Cd As p fi39.results k)) (Cd As p fi39.results k))) m tm H
theorem Aeg (p : Pr β) (n : Nat)  (k : KO β) (m0 : Nat) : ∀ (t : Nat → AV) (H : Ab), AfC p n  k m0 (tf 34 0 t) H = S4 p n  k m0 (t 0) (t 4) (t 5) H := by
 induction m0 with
 | zero => intros; rfl
 | succ m0 ih =>
  intro t H
  refine Eq.trans (Bh (nt := 34) (m := m0) (g := fun t H => S4 p n  k m0 (t 0) (t 4) (t 5) H) ih rfl) ?_
  kernel_rfl
theorem AiB (p : Pr β) (n : Nat) (a0 : AV) (H : Ab) (k : KO β) : B6 As p n fi39 [a0] H k =
 AfC p n  k n (tf 34 0 (ud [(0, a0), (2, .nl), (3, i0), (4, .nl), (5, i0), (9, .nl)] ut)) H := by kernel_rfl
theorem AfD : Nm fi39 @f39 := fun p n a0 H k => by
 rw [AiB]
 simp only [Aeg]
 kernel_rfl
noncomputable def f98 (n : Nat) (a0 a1 a2 : AV) (H : Ab) (k : KO β) : Option β :=
 p.bin .geq a0 a1 fun t9 =>
 p.kT t9 H a0 fun t11 H =>
 p.kT t9 H a2 fun t12 H =>
 p.gT t9 H (p.bin .leq t11 t12) fun t13 H =>
 p.pick t9 t13 bF fun t14 =>
 k t14 H
theorem AgH : Bd3 AmC @f98 := fun p n a0 a1 a2 H k => by kernel_rfl
noncomputable def f67 (n : Nat) (a0 : AV) (H : Ab) (k : KO β) : Option β :=
 p.bin .quo a0 (si 16) fun t7 =>
 p.bin .rem a0 (si 16) fun t9 =>
 p.bin .eql t7 (si 3) fun t12 =>
 p.cond t12
 (p.bin .shr t9 (.sc (.int .u64 1)) fun t14 =>
 p.bin .and t14 (si 3) fun t15 =>
 p.bin .neq t15 (si 3) fun t17 =>
 p.kT t17 H t15 fun t19 H =>
 p.gT t17 H (p.bin .gtr t19 i0) fun t20 H =>
 p.kT t17 H t20 fun t21 H =>
 p.kF t21 H t9 fun t22 H =>
 p.gF t21 H (p.bin .and t22 (si 8)) fun t23 H =>
 p.gF t21 H (p.bin .eql t23 i0) fun t24 H =>
 p.gT t17 H (p.pick t21 bT t24) fun t25 H =>
 p.pick t17 t25 bF fun t26 =>
 k t26 H)
 (p.bin .eql t7 (si 6) fun t28 =>
 Et (fun (t3 t4 t27 : AV) (H : Ab) => p.cond t27
 (p.bin .eql t4 (si 2) fun t32 =>
 k t32 H)
 (p.ca 4 98 [t3, (si 1), (si 14)] H fun t34 H =>
 p.kT t34 H t4 fun t36 H =>
 p.gT t34 H (p.bin .eql t36 i0) fun t37 H =>
 p.pick t34 t37 bF fun t38 =>
 k t38 H)) fun j1 =>
 p.cond t28
 (j1 t7 t9 t28 H)
 (p.bin .eql t7 (si 8) fun t29 =>
 p.cond t29
 (j1 t7 t9 t29 H)
 (p.bin .eql t7 (si 10) fun t30 =>
 j1 t7 t9 t30 H)))
theorem Agg : Nm Amw @f67 := fun p n a0 H k => by kernel_rfl
noncomputable def Q4 (p : Pr β) (n : Nat)  (k : KO β) : Nat → AV → AV → AV → KO β
 | 0, _, _, _, _, _ => none
 | m + 1, t0, t1, t7, t15, H => p.bin .lss t15 (si 4) fun t16 =>
   p.cond t16
   (p.bin .add t1 t15 fun t20 =>
   p.len t0 fun t22 =>
   p.bin .eql t20 t22 fun t23 =>
   p.cond t23
   (k (C2 [i0, i0, (si 1)]) H)
   (p.bin .add t1 t15 fun t27 =>
   p.iadr 1 t0 t27 fun t28 =>
   p.load false 1 t28 H fun t29 =>
   p.cvI .i64 t29 fun t30 =>
   p.bin .and t30 (si 127) fun t33 =>
   p.bin .mul (si 7) t15 fun t35 =>
   p.bin .shl t33 t35 fun t36 =>
   p.bin .or t7 t36 fun t37 =>
   p.bin .gtr t30 (si 127) fun t39 =>
   p.cond t39
   (p.bin .add t15 (si 1) fun t51 =>
   Q4 p n  k m t0 t1 t37 t51 H)
   (p.bin .gtr t15 i0 fun t41 =>
   p.kT t41 H t30 fun t43 H =>
   p.gT t41 H (p.bin .eql t43 i0) fun t44 H =>
   p.pick t41 t44 bF fun t45 =>
   p.cond t45
   (k (C2 [i0, i0, (si 2)]) H)
   (p.bin .add t1 t15 fun t49 =>
   p.bin .add t49 (si 1) fun t50 =>
   k (C2 [t37, t50, i0]) H))))
   (k (C2 [i0, i0, (si 2)]) H)
noncomputable def f68 (n : Nat) (a0 a1 : AV) (H : Ab) (k : KO β) : Option β :=
 p.len a0 fun t12 =>
 p.ca 4 98 [a1, i0, t12] H fun t13 H =>
 p.un .not t13 fun t14 =>
 p.cond t14
 (k (C2 [i0, i0, (si 2)]) H)
 (Q4 p n  k n a0 a1 i0 i0 H)
noncomputable def Agh (p : Pr β) (n : Nat)  (k : KO β) (m : Nat) (tm : Tm) (H : Ab) : Option β :=
 Dd 52 (fun tm H k => Ai As p [] 52 n (cd c68 [1, 1, 1, 0, 1, 0, 0]) tm H k) (Eg 0 (Dw (fun tm H => Ai As p [] 52 n (cd c68 [1, 1, 1, 1]) tm H (Cd As p fi68.results k)) (Cd As p fi68.results k))) m tm H
theorem Aev (p : Pr β) (n : Nat)  (k : KO β) (m0 : Nat) : ∀ (t : Nat → AV) (H : Ab), Agh p n  k m0 (tf 52 0 t) H = Q4 p n  k m0 (t 0) (t 1) (t 7) (t 15) H := by
 induction m0 with
 | zero => intros; rfl
 | succ m0 ih =>
  intro t H
  refine Eq.trans (Bh (nt := 52) (m := m0) (g := fun t H => Q4 p n  k m0 (t 0) (t 1) (t 7) (t 15) H) ih rfl) ?_
  kernel_rfl
theorem AiO (p : Pr β) (n : Nat) (a0 a1 : AV) (H : Ab) (k : KO β) : B6 As p n fi68 [a0, a1] H k =
 p.len a0 fun t12 =>
 p.call 4 (.fn 98 [] []) [a1, i0, t12] H fun t13 H =>
 p.un .not t13 fun t14 =>
 p.cond t14
 (k (C2 [i0, i0, (si 2)]) H)
 (Agh p n  k n (tf 52 0 (ud [(0, a0), (1, a1), (4, i0), (5, i0), (6, i0), (7, i0), (10, a1), (11, a0), (12, t12), (13, t13), (14, t14), (15, i0)] ut)) H) := by kernel_rfl
theorem Agi : Le fi68 @f68 := fun p n a0 a1 H k => by
 rw [AiO]
 simp only [Aev]
 kernel_rfl
noncomputable def f130 (n : Nat) (a0 a1 : AV) (H : Ab) (k : KO β) : Option β :=
 p.bin .lss a1 i0 fun t8 =>
 p.kF t8 H a1 fun t10 H =>
 p.kF t8 H a0 fun t11 H =>
 p.gF t8 H (p.len t11) fun t12 H =>
 p.gF t8 H (p.bin .sub t12 (si 2)) fun t13 H =>
 p.gF t8 H (p.bin .gtr t10 t13) fun t14 H =>
 p.pick t8 bT t14 fun t15 =>
 p.cond t15
 (k (C2 [i0, i0, bF]) H)
 (p.iadr 1 a0 a1 fun t18 =>
 p.load false 1 t18 H fun t19 =>
 p.cvI .i64 t19 fun t20 =>
 p.bin .shl t20 (.sc (.int .u64 8)) fun t21 =>
 p.bin .add a1 (si 1) fun t24 =>
 p.iadr 1 a0 t24 fun t25 =>
 p.load false 1 t25 H fun t26 =>
 p.cvI .i64 t26 fun t27 =>
 p.bin .or t21 t27 fun t28 =>
 p.bin .add a1 (si 2) fun t30 =>
 k (C2 [t28, t30, bT]) H)
theorem AdL : Le Akn @f130 := fun p n a0 a1 H k => by kernel_rfl
noncomputable def N2 (p : Pr β) (n : Nat)  (k : KO β) : Nat → AV → AV → AV → KO β
 | 0, _, _, _, _, _ => none
 | m + 1, t3, t7, t8, t9, H => p.bin .lss t9 t8 fun t10 =>
   p.cond t10
   (p.iadr 1 t7 t9 fun t11 =>
   p.load false 1 t11 H fun t12 =>
   p.app 1 1 t3 t12 H fun t15 H =>
   p.bin .add t9 (si 1) fun t16 =>
   N2 p n  k m t15 t7 t8 t16 H)
   (k t3 H)
noncomputable def f77 (n : Nat) (a0 : AV) (H : Ab) (k : KO β) : Option β :=
 p.len a0 fun t8 =>
 N2 p n  k n .nl a0 t8 i0 H
noncomputable def Agv (p : Pr β) (n : Nat)  (k : KO β) (m : Nat) (tm : Tm) (H : Ab) : Option β :=
 Dd 18 (fun tm H k => Ai As p [] 18 n (cd c77 [1, 1, 0, 1, 0, 0]) tm H k) (Eg 0 (Dw (fun tm H => Ai As p [] 18 n (cd c77 [1, 1, 1]) tm H (Cd As p fi77.results k)) (Cd As p fi77.results k))) m tm H
theorem Ae0 (p : Pr β) (n : Nat)  (k : KO β) (m0 : Nat) : ∀ (t : Nat → AV) (H : Ab), Agv p n  k m0 (tf 18 0 t) H = N2 p n  k m0 (t 3) (t 7) (t 8) (t 9) H := by
 induction m0 with
 | zero => intros; rfl
 | succ m0 ih =>
  intro t H
  refine Eq.trans (Bh (nt := 18) (m := m0) (g := fun t H => N2 p n  k m0 (t 3) (t 7) (t 8) (t 9) H) ih rfl) ?_
  kernel_rfl
theorem AiT (p : Pr β) (n : Nat) (a0 : AV) (H : Ab) (k : KO β) : B6 As p n fi77 [a0] H k =
 p.len a0 fun t8 =>
 Agv p n  k n (tf 18 0 (ud [(0, a0), (2, .nl), (3, .nl), (6, .nl), (7, a0), (8, t8), (9, i0)] ut)) H := by kernel_rfl
theorem Agw : Nm fi77 @f77 := fun p n a0 H k => by
 rw [AiT]
 simp only [Ae0]
 kernel_rfl
noncomputable def f146 (n : Nat) (a0 a1 : AV) (H : Ab) (k : KO β) : Option β :=
 p.call 110 (.fn 130 [] []) [a0, a1] H fun t13 H =>
 p.extr t13 0 fun t14 =>
 p.extr t13 1 fun t15 =>
 p.extr t13 2 fun t16 =>
 p.un .not t16 fun t18 =>
 p.kF t18 H t14 fun t20 H =>
 p.gF t18 H (p.bin .gtr t20 (si 60)) fun t21 H =>
 p.pick t18 bT t21 fun t22 =>
 p.kF t22 H t14 fun t24 H =>
 p.kF t22 H a0 fun t25 H =>
 p.gF t22 H (p.len t25) fun t26 H =>
 p.kF t22 H t15 fun t27 H =>
 p.gF t22 H (p.bin .sub t26 t27) fun t28 H =>
 p.gF t22 H (p.bin .gtr t24 t28) fun t29 H =>
 p.pick t22 bT t29 fun t30 =>
 p.cond t30
 (k (C2 [.nl, i0, bF]) H)
 (p.bin .add t15 t14 fun t35 =>
 p.slice 1 a0 (some t15) (some t35) fun t36 =>
 p.fill [.nl] [(0, 1, t36)] fun ct37 => p.newSl 1 1 ct37 true H fun t37 H =>
 p.call 22 (.fn 77 [] []) [t37] H fun t38 H =>
 p.bin .add t15 t14 fun t41 =>
 k (C2 [t38, t41, bT]) H)
theorem AdX : Le Aku @f146 := fun p n a0 a1 H k => by kernel_rfl
noncomputable def f129 (n : Nat) (a0 : AV) (H : Ab) (k : KO β) : Option β :=
 p.nil a0 fun t8 =>
 p.fl 0 t8 1 H fun t10 =>
 p.nil a0 fun t12 =>
 p.fl 1 t12 1 H fun t14 =>
 p.ca 131 146 [t10, t14] H fun t15 H =>
 p.extr t15 0 fun t16 =>
 p.extr t15 1 fun t17 =>
 p.extr t15 2 fun t18 =>
 p.nil a0 fun t20 =>
 p.fl 2 t20 1 H fun t22 =>
 p.kF t22 H t18 fun t24 H =>
 p.gF t22 H (p.un .not t24) fun t25 H =>
 p.pick t22 bT t25 fun t26 =>
 p.cond t26
 (p.nil a0 fun t28 =>
 p.fs 2 t28 1 bT H fun H =>
 k .nl H)
 (p.nil a0 fun t32 =>
 p.fs 1 t32 1 t17 H fun H =>
 k t16 H)
theorem AdK : Nm Akm @f129 := fun p n a0 H k => by kernel_rfl
noncomputable def f101 (n : Nat) (a0 : AV) (H : Ab) (k : KO β) : Option β :=
 p.call 22 (.fn 129 [] []) [a0] H fun t4 H =>
 p.cvBS t4 H fun t5 =>
 k t5 H
theorem Ad1 : Nm Aka @f101 := fun p n a0 H k => by kernel_rfl
noncomputable def f100 (n : Nat) (a0 : AV) (H : Ab) (k : KO β) : Option β :=
 p.nil a0 fun t4 =>
 p.fl 2 t4 1 H fun t6 =>
 p.kF t6 H a0 fun t8 H =>
 p.gF t6 H (p.nil t8) fun t9 H =>
 p.lF t6 H 1 t9 1 fun t11 H =>
 p.kF t6 H a0 fun t12 H =>
 p.gF t6 H (p.nil t12) fun t13 H =>
 p.lF t6 H 0 t13 1 fun t15 H =>
 p.gF t6 H (p.len t15) fun t16 H =>
 p.gF t6 H (p.bin .geq t11 t16) fun t17 H =>
 p.pick t6 bT t17 fun t18 =>
 p.cond t18
 (p.nil a0 fun t20 =>
 p.fs 2 t20 1 bT H fun H =>
 k i0 H)
 (p.nil a0 fun t23 =>
 p.fl 1 t23 1 H fun t25 =>
 p.bin .add t25 (si 1) fun t26 =>
 p.nil a0 fun t27 =>
 p.fs 1 t27 1 t26 H fun H =>
 p.nil a0 fun t30 =>
 p.fl 0 t30 1 H fun t32 =>
 p.nil a0 fun t34 =>
 p.fl 1 t34 1 H fun t36 =>
 p.bin .sub t36 (si 1) fun t37 =>
 p.iadr 1 t32 t37 fun t38 =>
 p.load false 1 t38 H fun t39 =>
 p.cvI .i64 t39 fun t40 =>
 k t40 H)
theorem Ad0 : Nm AjZ @f100 := fun p n a0 H k => by kernel_rfl
noncomputable def f102 (n : Nat) (a0 : AV) (H : Ab) (k : KO β) : Option β :=
 p.nil a0 fun t8 =>
 p.fl 0 t8 1 H fun t10 =>
 p.nil a0 fun t12 =>
 p.fl 1 t12 1 H fun t14 =>
 p.ca 110 130 [t10, t14] H fun t15 H =>
 p.extr t15 0 fun t16 =>
 p.extr t15 1 fun t17 =>
 p.extr t15 2 fun t18 =>
 p.nil a0 fun t20 =>
 p.fl 2 t20 1 H fun t22 =>
 p.kF t22 H t18 fun t24 H =>
 p.gF t22 H (p.un .not t24) fun t25 H =>
 p.pick t22 bT t25 fun t26 =>
 p.cond t26
 (p.nil a0 fun t28 =>
 p.fs 2 t28 1 bT H fun H =>
 k i0 H)
 (p.nil a0 fun t32 =>
 p.fs 1 t32 1 t17 H fun H =>
 k t16 H)
theorem Ad2 : Nm Akb @f102 := fun p n a0 H k => by kernel_rfl
noncomputable def f99 (n : Nat) (a0 a1 : AV) (H : Ab) (k : KO β) : Option β :=
 p.ca 9 101 [a0] H fun t6 H =>
 p.ca 3 100 [a0] H fun t9 H =>
 p.nil a1 fun t10 =>
 p.fs 8 t10 1 t9 H fun H =>
 p.ca 3 100 [a0] H fun t13 H =>
 p.ca 3 102 [a0] H fun t16 H =>
 p.nil a1 fun t17 =>
 p.fs 10 t17 1 t16 H fun H =>
 p.ca 9 101 [a0] H fun t21 H =>
 p.nil a1 fun t22 =>
 p.fs 7 t22 1 t21 H fun H =>
 p.bin .and t13 (si 2) fun t29 =>
 p.bin .neq t29 i0 fun t30 =>
 p.bin .and t13 (si 4) fun t32 =>
 p.bin .neq t32 i0 fun t33 =>
 p.bin .and t13 (si 64) fun t35 =>
 p.bin .neq t35 i0 fun t36 =>
 p.bin .and t13 (si 128) fun t38 =>
 p.bin .neq t38 i0 fun t39 =>
 p.nil a1 fun t40 =>
 p.fs 9 t40 1 t30 H fun H =>
 p.nil a1 fun t42 =>
 p.fs 11 t42 1 t33 H fun H =>
 p.nil a1 fun t44 =>
 p.fs 18 t44 1 t36 H fun H =>
 p.nil a1 fun t46 =>
 p.fs 16 t46 1 t39 H fun H =>
 p.nil a1 fun t49 =>
 p.fl 11 t49 1 H fun t51 =>
 Et (fun (t0 t1 : AV) (H : Ab) => p.nil t1 fun t75 =>
 p.fl 16 t75 1 H fun t77 =>
 Et (fun (t0 t1 : AV) (H : Ab) => p.nil t1 fun t84 =>
 p.fl 18 t84 1 H fun t86 =>
 p.cond t86
 (p.ca 22 129 [t0] H fun t89 H =>
 p.nil t1 fun t90 =>
 p.fs 19 t90 1 t89 H fun H =>
 k (C2 []) H)
 (k (C2 []) H)) fun j2 =>
 p.cond t77
 (p.ca 9 101 [t0] H fun t80 H =>
 p.nil t1 fun t81 =>
 p.fs 17 t81 1 t80 H fun H =>
 j2 t0 t1 H)
 (j2 t0 t1 H)) fun j1 =>
 p.cond t51
 (p.bin .shr t13 (.sc (.int .u64 3)) fun t55 =>
 p.bin .and t55 (si 3) fun t56 =>
 p.bin .and t13 (si 32) fun t58 =>
 p.bin .neq t58 i0 fun t59 =>
 p.nil a1 fun t60 =>
 p.fs 14 t60 1 t56 H fun H =>
 p.nil a1 fun t62 =>
 p.fs 15 t62 1 t59 H fun H =>
 p.ca 9 101 [a0] H fun t66 H =>
 p.nil a1 fun t67 =>
 p.fs 12 t67 1 t66 H fun H =>
 p.ca 22 129 [a0] H fun t71 H =>
 p.nil a1 fun t72 =>
 p.fs 13 t72 1 t71 H fun H =>
 j1 a0 a1 H)
 (j1 a0 a1 H)
theorem AgI : Le AmD @f99 := fun p n a0 a1 H k => by kernel_rfl
noncomputable def f131 (n : Nat) (a0 : AV) (H : Ab) (k : KO β) : Option β :=
 p.nil a0 fun t4 =>
 p.fl 2 t4 1 H fun t6 =>
 p.un .not t6 fun t7 =>
 p.kT t7 H a0 fun t9 H =>
 p.gT t7 H (p.nil t9) fun t10 H =>
 p.lT t7 H 1 t10 1 fun t12 H =>
 p.kT t7 H a0 fun t13 H =>
 p.gT t7 H (p.nil t13) fun t14 H =>
 p.lT t7 H 0 t14 1 fun t16 H =>
 p.gT t7 H (p.len t16) fun t17 H =>
 p.gT t7 H (p.bin .lss t12 t17) fun t18 H =>
 p.pick t7 t18 bF fun t19 =>
 k t19 H
theorem AdM : Nm Ako @f131 := fun p n a0 H k => by kernel_rfl
noncomputable def Ky (p : Pr β) (n : Nat)  (k : KO β) : Nat → AV → KO β
 | 0, _, _, _ => none
 | m + 1, t0, t1, H => p.ca 4 131 [t0] H fun t8 H =>
   p.kT t8 H t1 fun t10 H =>
   p.gT t8 H (p.nil t10) fun t11 H =>
   p.lT t8 H 22 t11 1 fun t13 H =>
   p.gT t8 H (p.len t13) fun t14 H =>
   p.kT t8 H t1 fun t15 H =>
   p.gT t8 H (p.nil t15) fun t16 H =>
   p.lT t8 H 24 t16 1 fun t18 H =>
   p.gT t8 H (p.len t18) fun t19 H =>
   p.gT t8 H (p.bin .add t14 t19) fun t20 H =>
   p.kT t8 H t1 fun t21 H =>
   p.gT t8 H (p.nil t21) fun t22 H =>
   p.lT t8 H 23 t22 1 fun t24 H =>
   p.gT t8 H (p.len t24) fun t25 H =>
   p.gT t8 H (p.bin .add t20 t25) fun t26 H =>
   p.gT t8 H (p.bin .leq t26 (si 4)) fun t27 H =>
   p.pick t8 t27 bF fun t28 =>
   p.cond t28
   (p.nil t1 fun t30 =>
   p.fl 0 t30 1 H fun t32 =>
   p.bin .eql t32 (si 8) fun t37 =>
   p.cond t37
   (p.fill [sE, i0] [] fun ct38 =>
   p.new [sE, i0] H fun t4 H =>
   p.store 2 t4 (.agg ct38) H fun H =>
   p.ca 9 101 [t0] H fun t40 H =>
   p.fs 0 t4 1 t40 H fun H =>
   p.ca 3 100 [t0] H fun t43 H =>
   p.fs 1 t4 1 t43 H fun H =>
   p.nil t1 fun t47 =>
   p.fl 22 t47 1 H fun t49 =>
   p.load true 2 t4 H fun t50 =>
   p.fill [sE, i0] [(0, 2, t50)] fun ct51 => p.newSl 1 2 ct51 true H fun t51 H =>
   p.app 2 24 t49 t51 H fun t52 H =>
   p.nil t1 fun t53 =>
   p.fs 22 t53 1 t52 H fun H =>
   Ky p n  k m t0 t1 H)
   (p.bin .eql t32 (si 9) fun t56 =>
   p.cond t56
   (p.ca 3 100 [t0] H fun t58 H =>
   p.nil t1 fun t61 =>
   p.fl 24 t61 1 H fun t63 =>
   p.fill [i0] [(0, 1, t58)] fun ct65 => p.newSl 1 1 ct65 true H fun t65 H =>
   p.app 1 8 t63 t65 H fun t66 H =>
   p.nil t1 fun t67 =>
   p.fs 24 t67 1 t66 H fun H =>
   Ky p n  k m t0 t1 H)
   (p.bin .eql t32 (si 10) fun t70 =>
   p.cond t70
   (p.ca 9 101 [t0] H fun t72 H =>
   p.nil t1 fun t75 =>
   p.fl 23 t75 1 H fun t77 =>
   p.fill [sE] [(0, 1, t72)] fun ct79 => p.newSl 1 1 ct79 true H fun t79 H =>
   p.app 1 16 t77 t79 H fun t80 H =>
   p.nil t1 fun t81 =>
   p.fs 23 t81 1 t80 H fun H =>
   Ky p n  k m t0 t1 H)
   (p.nil t0 fun t34 =>
   p.fs 2 t34 1 bT H fun H =>
   Ky p n  k m t0 t1 H))))
   (k (C2 []) H)
noncomputable def f103 (n : Nat) (a0 a1 : AV) (H : Ab) (k : KO β) : Option β :=
 Ky p n  k n a0 a1 H
noncomputable def Ac5 (p : Pr β) (n : Nat)  (k : KO β) (m : Nat) (tm : Tm) (H : Ab) : Option β :=
 Dd 83 (fun tm H k => Ai As p AmP 83 n (cd Amn [0, 0]) tm H k) (Eg 0 (Cd As p fi103.results k)) m tm H
theorem Ab9 (p : Pr β) (n : Nat)  (k : KO β) (m0 : Nat) : ∀ (t : Nat → AV) (H : Ab), Ac5 p n  k m0 (tf 83 0 t) H = Ky p n  k m0 (t 0) (t 1) H := by
 induction m0 with
 | zero => intros; rfl
 | succ m0 ih =>
  intro t H
  refine Eq.trans (Bh (nt := 83) (m := m0) (g := fun t H => Ky p n  k m0 (t 0) (t 1) H) ih rfl) ?_
  kernel_rfl
theorem Afl (p : Pr β) (n : Nat) (a0 a1 : AV) (H : Ab) (k : KO β) : B6 As p n fi103 [a0, a1] H k =
 Ac5 p n  k n (tf 83 0 (ud [(0, a0), (1, a1)] ut)) H := by kernel_rfl
theorem Ad3 : Le fi103 @f103 := fun p n a0 a1 H k => by
 rw [Afl]
 simp only [Ab9]
 kernel_rfl
end
section
open Go
variable {β : Type} (p : Pr β)
noncomputable def f69 (n : Nat) (a0 a1 : AV) (H : Ab) (k : KO β) : Option β :=
 p.new Ek H fun t4 H =>
 p.fill [.nl, i0, bF] [(0, 1, a1)] fun ct9 =>
 p.box (.agg ct9) H fun t10 H =>
 p.bin .quo a0 (si 16) fun t12 =>
 p.fill Ek [(0, 1, t12)] fun ct13 =>
 p.new Ek H fun t6 H =>
 p.store 25 t6 (.agg ct13) H fun H =>
 p.fl 0 t6 1 H fun t15 =>
 p.bin .eql t15 (si 1) fun t22 =>
 Et (fun (t4 t6 : AV) (H : Ab) => p.load true 25 t6 H fun t76 =>
 p.store 25 t4 t76 H fun H =>
 p.load true 25 t4 H fun r0 =>
 k r0 H) fun j1 =>
 p.cond t22
 (p.ca 0 99 [t10, t6] H fun t24 H =>
 j1 t4 t6 H)
 (p.bin .eql t15 (si 2) fun t26 =>
 p.cond t26
 (p.ca 3 100 [t10] H fun t28 H =>
 p.bin .eql t28 (si 1) fun t30 =>
 p.fs 21 t6 1 t30 H fun H =>
 p.ca 3 100 [t10] H fun t33 H =>
 p.fs 20 t6 1 t33 H fun H =>
 j1 t4 t6 H)
 (p.bin .eql t15 (si 3) fun t36 =>
 p.cond t36
 (p.bin .and a0 (si 8) fun t38 =>
 p.bin .neq t38 i0 fun t39 =>
 p.bin .shr a0 (.sc (.int .u64 1)) fun t41 =>
 p.bin .and t41 (si 3) fun t42 =>
 p.bin .and a0 (si 1) fun t44 =>
 p.bin .neq t44 i0 fun t45 =>
 p.fs 1 t6 1 t39 H fun H =>
 p.fs 2 t6 1 t42 H fun H =>
 p.fs 3 t6 1 t45 H fun H =>
 p.ca 9 101 [t10] H fun t50 H =>
 p.fs 5 t6 1 t50 H fun H =>
 p.fl 2 t6 1 H fun t53 =>
 p.bin .gtr t53 i0 fun t54 =>
 Et (fun (t1 t4 t5 t6 : AV) (H : Ab) => p.nil t5 fun t59 =>
 p.fl 2 t59 1 H fun t61 =>
 p.un .not t61 fun t62 =>
 p.cond t62
 (p.nil t5 fun t65 =>
 p.fl 1 t65 1 H fun t67 =>
 p.slice 1 t1 (some t67) none fun t68 =>
 p.fill [.nl] [(0, 1, t68)] fun ct69 => p.newSl 1 1 ct69 true H fun t69 H =>
 p.ca 22 77 [t69] H fun t70 H =>
 p.fs 6 t6 1 t70 H fun H =>
 j1 t4 t6 H)
 (j1 t4 t6 H)) fun j2 =>
 p.cond t54
 (p.ca 3 102 [t10] H fun t56 H =>
 p.fs 4 t6 1 t56 H fun H =>
 j2 a1 t4 t10 t6 H)
 (j2 a1 t4 t10 t6 H))
 (p.bin .eql t15 (si 12) fun t73 =>
 Et (fun (t4 t5 t6 t72 : AV) (H : Ab) => p.cond t72
 (j1 t4 t6 H)
 (p.ca 3 102 [t5] H fun t17 H =>
 p.fs 4 t6 1 t17 H fun H =>
 p.ca 0 103 [t5, t6] H fun t20 H =>
 j1 t4 t6 H)) fun j3 =>
 p.cond t73
 (j3 t4 t10 t6 t73 H)
 (p.bin .eql t15 (si 13) fun t74 =>
 p.cond t74
 (j3 t4 t10 t6 t74 H)
 (p.bin .eql t15 (si 14) fun t75 =>
 j3 t4 t10 t6 t75 H)))))
theorem Agj : Le Amx @f69 := fun p n a0 a1 H k => by kernel_rfl
noncomputable def f105 (n : Nat) (a0 : AV) (H : Ab) (k : KO β) : Option β :=
 p.box a0 H fun t1 H =>
 p.new Ek H fun t2 H =>
 p.fadr 0 t1 fun t4 =>
 p.load false 1 t4 H fun t5 =>
 p.fill Ek [(0, 1, t5)] fun ct6 =>
 p.new Ek H fun t3 H =>
 p.store 25 t3 (.agg ct6) H fun H =>
 p.fadr 0 t1 fun t7 =>
 p.load false 1 t7 H fun t8 =>
 p.bin .eql t8 (si 1) fun t10 =>
 p.cond t10
 (p.fadr 7 t1 fun t11 =>
 p.load false 1 t11 H fun t12 =>
 p.fadr 8 t1 fun t13 =>
 p.fadr 9 t1 fun t15 =>
 p.fadr 10 t1 fun t17 =>
 p.fadr 11 t1 fun t19 =>
 p.fadr 16 t1 fun t21 =>
 p.fadr 7 t3 fun t23 =>
 p.apart t13 [t3] H
 (p.load false 1 t13 H fun t14 =>
 p.apart t15 [t3] H
 (p.load false 1 t15 H fun t16 =>
 p.apart t17 [t3] H
 (p.load false 1 t17 H fun t18 =>
 p.apart t19 [t3] H
 (p.load false 1 t19 H fun t20 =>
 p.apart t21 [t3] H
 (p.load false 1 t21 H fun t22 =>
 p.same t23 t3
 (p.store 1 t23 t12 H fun H =>
 p.fadr 8 t3 fun t24 =>
 p.same t24 t3
 (p.store 1 t24 t14 H fun H =>
 p.fadr 9 t3 fun t25 =>
 p.same t25 t3
 (p.store 1 t25 t16 H fun H =>
 p.fadr 10 t3 fun t26 =>
 p.same t26 t3
 (p.store 1 t26 t18 H fun H =>
 p.fadr 11 t3 fun t27 =>
 p.same t27 t3
 (p.store 1 t27 t20 H fun H =>
 p.fadr 16 t3 fun t28 =>
 p.store 1 t28 t22 H fun H =>
 p.fadr 11 t1 fun t29 =>
 p.load false 1 t29 H fun t30 =>
 Et (fun (t1 t2 t3 : AV) (H : Ab) => p.fadr 16 t1 fun t43 =>
 p.load false 1 t43 H fun t44 =>
 Et (fun (t1 t2 t3 : AV) (H : Ab) => p.fadr 18 t3 fun t51 =>
 p.load false 1 t51 H fun t52 =>
 p.cond t52
 (p.fadr 19 t1 fun t53 =>
 p.load false 1 t53 H fun t54 =>
 p.fadr 19 t3 fun t55 =>
 p.store 1 t55 t54 H fun H =>
 p.load true 25 t3 H fun t120 =>
 p.store 25 t2 t120 H fun H =>
 p.load true 25 t2 H fun r0 =>
 k r0 H)
 (p.load true 25 t3 H fun t120 =>
 p.store 25 t2 t120 H fun H =>
 p.load true 25 t2 H fun r0 =>
 k r0 H)) fun j2 =>
 p.cond t44
 (p.fadr 17 t1 fun t45 =>
 p.load false 1 t45 H fun t46 =>
 p.fadr 18 t1 fun t47 =>
 p.fadr 17 t3 fun t49 =>
 p.apart t47 [t3] H
 (p.load false 1 t47 H fun t48 =>
 p.same t49 t3
 (p.store 1 t49 t46 H fun H =>
 p.fadr 18 t3 fun t50 =>
 p.store 1 t50 t48 H fun H =>
 j2 t1 t2 t3 H)))
 (j2 t1 t2 t3 H)) fun j1 =>
 p.cond t30
 (p.fadr 12 t1 fun t31 =>
 p.load false 1 t31 H fun t32 =>
 p.fadr 13 t1 fun t33 =>
 p.fadr 14 t1 fun t35 =>
 p.fadr 15 t1 fun t37 =>
 p.fadr 12 t3 fun t39 =>
 p.apart t33 [t3] H
 (p.load false 1 t33 H fun t34 =>
 p.apart t35 [t3] H
 (p.load false 1 t35 H fun t36 =>
 p.apart t37 [t3] H
 (p.load false 1 t37 H fun t38 =>
 p.same t39 t3
 (p.store 1 t39 t32 H fun H =>
 p.fadr 13 t3 fun t40 =>
 p.same t40 t3
 (p.store 1 t40 t34 H fun H =>
 p.fadr 14 t3 fun t41 =>
 p.same t41 t3
 (p.store 1 t41 t36 H fun H =>
 p.fadr 15 t3 fun t42 =>
 p.store 1 t42 t38 H fun H =>
 j1 t1 t2 t3 H)))))))
 (j1 t1 t2 t3 H))))))))))))
 (p.bin .eql t8 (si 2) fun t57 =>
 p.cond t57
 (p.fadr 20 t1 fun t58 =>
 p.load false 1 t58 H fun t59 =>
 p.fadr 21 t1 fun t60 =>
 p.fadr 20 t3 fun t62 =>
 p.apart t60 [t3] H
 (p.load false 1 t60 H fun t61 =>
 p.same t62 t3
 (p.store 1 t62 t59 H fun H =>
 p.fadr 21 t3 fun t63 =>
 p.store 1 t63 t61 H fun H =>
 p.load true 25 t3 H fun t120 =>
 p.store 25 t2 t120 H fun H =>
 p.load true 25 t2 H fun r0 =>
 k r0 H)))
 (p.bin .eql t8 (si 3) fun t65 =>
 p.cond t65
 (p.fadr 2 t1 fun t66 =>
 p.load false 1 t66 H fun t67 =>
 p.fadr 3 t1 fun t68 =>
 p.fadr 5 t1 fun t70 =>
 p.fadr 6 t1 fun t72 =>
 p.fadr 2 t3 fun t74 =>
 p.apart t68 [t3] H
 (p.load false 1 t68 H fun t69 =>
 p.apart t70 [t3] H
 (p.load false 1 t70 H fun t71 =>
 p.apart t72 [t3] H
 (p.load false 1 t72 H fun t73 =>
 p.same t74 t3
 (p.store 1 t74 t67 H fun H =>
 p.fadr 3 t3 fun t75 =>
 p.same t75 t3
 (p.store 1 t75 t69 H fun H =>
 p.fadr 5 t3 fun t76 =>
 p.same t76 t3
 (p.store 1 t76 t71 H fun H =>
 p.fadr 6 t3 fun t77 =>
 p.store 1 t77 t73 H fun H =>
 p.fadr 2 t1 fun t78 =>
 p.load false 1 t78 H fun t79 =>
 p.bin .gtr t79 i0 fun t80 =>
 p.cond t80
 (p.fadr 1 t1 fun t81 =>
 p.load false 1 t81 H fun t82 =>
 p.fadr 4 t1 fun t83 =>
 p.fadr 1 t3 fun t85 =>
 p.apart t83 [t3] H
 (p.load false 1 t83 H fun t84 =>
 p.same t85 t3
 (p.store 1 t85 t82 H fun H =>
 p.fadr 4 t3 fun t86 =>
 p.store 1 t86 t84 H fun H =>
 p.load true 25 t3 H fun t120 =>
 p.store 25 t2 t120 H fun H =>
 p.load true 25 t2 H fun r0 =>
 k r0 H)))
 (p.load true 25 t3 H fun t120 =>
 p.store 25 t2 t120 H fun H =>
 p.load true 25 t2 H fun r0 =>
 k r0 H))))))))
 (p.bin .eql t8 (si 4) fun t88 =>
 Et (fun (t1 t2 t3 t8 t87 : AV) (H : Ab) => p.cond t87
 (p.fadr 4 t1 fun t93 =>
 p.load false 1 t93 H fun t94 =>
 p.fadr 4 t3 fun t95 =>
 p.store 1 t95 t94 H fun H =>
 p.load true 25 t3 H fun t120 =>
 p.store 25 t2 t120 H fun H =>
 p.load true 25 t2 H fun r0 =>
 k r0 H)
 (p.bin .eql t8 (si 8) fun t97 =>
 p.cond t97
 (p.fadr 4 t1 fun t98 =>
 p.load false 1 t98 H fun t99 =>
 p.fadr 22 t1 fun t100 =>
 p.fadr 4 t3 fun t102 =>
 p.apart t100 [t3] H
 (p.load false 1 t100 H fun t101 =>
 p.same t102 t3
 (p.store 1 t102 t99 H fun H =>
 p.fadr 22 t3 fun t103 =>
 p.store 1 t103 t101 H fun H =>
 p.load true 25 t3 H fun t120 =>
 p.store 25 t2 t120 H fun H =>
 p.load true 25 t2 H fun r0 =>
 k r0 H)))
 (p.bin .eql t8 (si 9) fun t105 =>
 p.cond t105
 (p.fadr 4 t1 fun t106 =>
 p.load false 1 t106 H fun t107 =>
 p.fadr 24 t1 fun t108 =>
 p.fadr 4 t3 fun t110 =>
 p.apart t108 [t3] H
 (p.load false 1 t108 H fun t109 =>
 p.same t110 t3
 (p.store 1 t110 t107 H fun H =>
 p.fadr 24 t3 fun t111 =>
 p.store 1 t111 t109 H fun H =>
 p.load true 25 t3 H fun t120 =>
 p.store 25 t2 t120 H fun H =>
 p.load true 25 t2 H fun r0 =>
 k r0 H)))
 (p.bin .eql t8 (si 10) fun t113 =>
 p.cond t113
 (p.fadr 4 t1 fun t114 =>
 p.load false 1 t114 H fun t115 =>
 p.fadr 23 t1 fun t116 =>
 p.fadr 4 t3 fun t118 =>
 p.apart t116 [t3] H
 (p.load false 1 t116 H fun t117 =>
 p.same t118 t3
 (p.store 1 t118 t115 H fun H =>
 p.fadr 23 t3 fun t119 =>
 p.store 1 t119 t117 H fun H =>
 p.load true 25 t3 H fun t120 =>
 p.store 25 t2 t120 H fun H =>
 p.load true 25 t2 H fun r0 =>
 k r0 H)))
 (p.load true 25 t3 H fun t120 =>
 p.store 25 t2 t120 H fun H =>
 p.load true 25 t2 H fun r0 =>
 k r0 H))))) fun j3 =>
 p.cond t88
 (j3 t1 t2 t3 t8 t88 H)
 (p.bin .eql t8 (si 5) fun t89 =>
 p.cond t89
 (j3 t1 t2 t3 t8 t89 H)
 (p.bin .eql t8 (si 6) fun t90 =>
 p.cond t90
 (j3 t1 t2 t3 t8 t90 H)
 (p.bin .eql t8 (si 7) fun t91 =>
 p.cond t91
 (j3 t1 t2 t3 t8 t91 H)
 (p.bin .eql t8 (si 11) fun t92 =>
 j3 t1 t2 t3 t8 t92 H)))))))
theorem Ad5 : Nm Akd @f105 := fun p n a0 H k => by kernel_rfl
noncomputable def f71 (n : Nat) (a0 a1 : AV) (H : Ab) (k : KO β) : Option β :=
 p.cvBS a0 H fun t6 =>
 p.cvBS a1 H fun t8 =>
 p.bin .eql t6 t8 fun t9 =>
 k t9 H
theorem Agl : Le Amz @f71 := fun p n a0 a1 H k => by kernel_rfl
noncomputable def Rq (p : Pr β) (n : Nat)  (k : KO β) : Nat → AV → AV → AV → KO β
 | 0, _, _, _, _, _ => none
 | m + 1, t0, t1, t12, t13, H => p.bin .lss t13 t12 fun t14 =>
   p.cond t14
   (p.iadr 2 t0 t13 fun t18 =>
   p.load true 2 t18 H fun t19 =>
   p.iadr 2 t1 t13 fun t22 =>
   p.load true 2 t22 H fun t23 =>
   p.binA .neq [1, 0] t19 t23 fun t24 =>
   p.cond t24
   (k bF H)
   (p.bin .add t13 (si 1) fun t25 =>
   Rq p n  k m t0 t1 t12 t25 H))
   (k bT H)
noncomputable def f132 (n : Nat) (a0 a1 : AV) (H : Ab) (k : KO β) : Option β :=
 p.len a0 fun t7 =>
 p.len a1 fun t9 =>
 p.bin .neq t7 t9 fun t10 =>
 p.cond t10
 (k bF H)
 (p.len a0 fun t12 =>
 Rq p n  k n a0 a1 t12 i0 H)
noncomputable def AcG (p : Pr β) (n : Nat)  (k : KO β) (m : Nat) (tm : Tm) (H : Ab) : Option β :=
 Dd 26 (fun tm H k => Ai As p AlQ 26 n (cd AkI [1, 1, 0, 1, 0, 0]) tm H k) (Eg 0 (Dw (fun tm H => Ai As p AlQ 26 n (cd AkI [1, 1, 1]) tm H (Cd As p fi132.results k)) (Cd As p fi132.results k))) m tm H
theorem AbG (p : Pr β) (n : Nat)  (k : KO β) (m0 : Nat) : ∀ (t : Nat → AV) (H : Ab), AcG p n  k m0 (tf 26 0 t) H = Rq p n  k m0 (t 0) (t 1) (t 12) (t 13) H := by
 induction m0 with
 | zero => intros; rfl
 | succ m0 ih =>
  intro t H
  refine Eq.trans (Bh (nt := 26) (m := m0) (g := fun t H => Rq p n  k m0 (t 0) (t 1) (t 12) (t 13) H) ih rfl) ?_
  kernel_rfl
theorem Afs (p : Pr β) (n : Nat) (a0 a1 : AV) (H : Ab) (k : KO β) : B6 As p n fi132 [a0, a1] H k =
 p.len a0 fun t7 =>
 p.len a1 fun t9 =>
 p.bin .neq t7 t9 fun t10 =>
 p.cond t10
 (k bF H)
 (p.len a0 fun t12 =>
 AcG p n  k n (tf 26 0 (ud [(0, a0), (1, a1), (4, bF), (6, a0), (7, t7), (8, a1), (9, t9), (10, t10), (11, a0), (12, t12), (13, i0)] ut)) H) := by kernel_rfl
theorem AdN : Le fi132 @f132 := fun p n a0 a1 H k => by
 rw [Afs]
 simp only [AbG]
 kernel_rfl
noncomputable def Rr (p : Pr β) (n : Nat)  (k : KO β) : Nat → AV → AV → AV → KO β
 | 0, _, _, _, _, _ => none
 | m + 1, t0, t1, t12, t13, H => p.bin .lss t13 t12 fun t14 =>
   p.cond t14
   (p.iadr 1 t0 t13 fun t18 =>
   p.load false 1 t18 H fun t19 =>
   p.iadr 1 t1 t13 fun t22 =>
   p.load false 1 t22 H fun t23 =>
   p.bin .neq t19 t23 fun t24 =>
   p.cond t24
   (k bF H)
   (p.bin .add t13 (si 1) fun t25 =>
   Rr p n  k m t0 t1 t12 t25 H))
   (k bT H)
noncomputable def f133 (n : Nat) (a0 a1 : AV) (H : Ab) (k : KO β) : Option β :=
 p.len a0 fun t7 =>
 p.len a1 fun t9 =>
 p.bin .neq t7 t9 fun t10 =>
 p.cond t10
 (k bF H)
 (p.len a0 fun t12 =>
 Rr p n  k n a0 a1 t12 i0 H)
noncomputable def AcH (p : Pr β) (n : Nat)  (k : KO β) (m : Nat) (tm : Tm) (H : Ab) : Option β :=
 Dd 26 (fun tm H k => Ai As p AlR 26 n (cd AkJ [1, 1, 0, 1, 0, 0]) tm H k) (Eg 0 (Dw (fun tm H => Ai As p AlR 26 n (cd AkJ [1, 1, 1]) tm H (Cd As p fi133.results k)) (Cd As p fi133.results k))) m tm H
theorem AbH (p : Pr β) (n : Nat)  (k : KO β) (m0 : Nat) : ∀ (t : Nat → AV) (H : Ab), AcH p n  k m0 (tf 26 0 t) H = Rr p n  k m0 (t 0) (t 1) (t 12) (t 13) H := by
 induction m0 with
 | zero => intros; rfl
 | succ m0 ih =>
  intro t H
  refine Eq.trans (Bh (nt := 26) (m := m0) (g := fun t H => Rr p n  k m0 (t 0) (t 1) (t 12) (t 13) H) ih rfl) ?_
  kernel_rfl
theorem Aft (p : Pr β) (n : Nat) (a0 a1 : AV) (H : Ab) (k : KO β) : B6 As p n fi133 [a0, a1] H k =
 p.len a0 fun t7 =>
 p.len a1 fun t9 =>
 p.bin .neq t7 t9 fun t10 =>
 p.cond t10
 (k bF H)
 (p.len a0 fun t12 =>
 AcH p n  k n (tf 26 0 (ud [(0, a0), (1, a1), (4, bF), (6, a0), (7, t7), (8, a1), (9, t9), (10, t10), (11, a0), (12, t12), (13, i0)] ut)) H) := by kernel_rfl
theorem AdO : Le fi133 @f133 := fun p n a0 a1 H k => by
 rw [Aft]
 simp only [AbH]
 kernel_rfl
noncomputable def Rs (p : Pr β) (n : Nat)  (k : KO β) : Nat → AV → AV → AV → KO β
 | 0, _, _, _, _, _ => none
 | m + 1, t0, t1, t12, t13, H => p.bin .lss t13 t12 fun t14 =>
   p.cond t14
   (p.iadr 1 t0 t13 fun t18 =>
   p.load false 1 t18 H fun t19 =>
   p.iadr 1 t1 t13 fun t22 =>
   p.load false 1 t22 H fun t23 =>
   p.bin .neq t19 t23 fun t24 =>
   p.cond t24
   (k bF H)
   (p.bin .add t13 (si 1) fun t25 =>
   Rs p n  k m t0 t1 t12 t25 H))
   (k bT H)
noncomputable def f134 (n : Nat) (a0 a1 : AV) (H : Ab) (k : KO β) : Option β :=
 p.len a0 fun t7 =>
 p.len a1 fun t9 =>
 p.bin .neq t7 t9 fun t10 =>
 p.cond t10
 (k bF H)
 (p.len a0 fun t12 =>
 Rs p n  k n a0 a1 t12 i0 H)
noncomputable def AcI (p : Pr β) (n : Nat)  (k : KO β) (m : Nat) (tm : Tm) (H : Ab) : Option β :=
 Dd 26 (fun tm H k => Ai As p AlS 26 n (cd AkK [1, 1, 0, 1, 0, 0]) tm H k) (Eg 0 (Dw (fun tm H => Ai As p AlS 26 n (cd AkK [1, 1, 1]) tm H (Cd As p fi134.results k)) (Cd As p fi134.results k))) m tm H
theorem AbI (p : Pr β) (n : Nat)  (k : KO β) (m0 : Nat) : ∀ (t : Nat → AV) (H : Ab), AcI p n  k m0 (tf 26 0 t) H = Rs p n  k m0 (t 0) (t 1) (t 12) (t 13) H := by
 induction m0 with
 | zero => intros; rfl
 | succ m0 ih =>
  intro t H
  refine Eq.trans (Bh (nt := 26) (m := m0) (g := fun t H => Rs p n  k m0 (t 0) (t 1) (t 12) (t 13) H) ih rfl) ?_
  kernel_rfl
theorem Afu (p : Pr β) (n : Nat) (a0 a1 : AV) (H : Ab) (k : KO β) : B6 As p n fi134 [a0, a1] H k =
 p.len a0 fun t7 =>
 p.len a1 fun t9 =>
 p.bin .neq t7 t9 fun t10 =>
 p.cond t10
 (k bF H)
 (p.len a0 fun t12 =>
 AcI p n  k n (tf 26 0 (ud [(0, a0), (1, a1), (4, bF), (6, a0), (7, t7), (8, a1), (9, t9), (10, t10), (11, a0), (12, t12), (13, i0)] ut)) H) := by kernel_rfl
theorem AdP : Le fi134 @f134 := fun p n a0 a1 H k => by
 rw [Afu]
 simp only [AbI]
 kernel_rfl
noncomputable def f104 (n : Nat) (a0 a1 : AV) (H : Ab) (k : KO β) : Option β :=
 p.box a0 H fun t2 H =>
 p.box a1 H fun t3 H =>
 p.fadr 0 t2 fun t9 =>
 p.load false 1 t9 H fun t10 =>
 p.fadr 0 t3 fun t11 =>
 p.load false 1 t11 H fun t12 =>
 p.bin .eql t10 t12 fun t13 =>
 p.gT t13 H (p.fadr 1 t2) fun t15 H =>
 p.gT t13 H (p.load false 1 t15 H) fun t16 H =>
 p.gT t13 H (p.fadr 1 t3) fun t17 H =>
 p.gT t13 H (p.load false 1 t17 H) fun t18 H =>
 p.gT t13 H (p.binB .eql t16 t18) fun t19 H =>
 p.pick t13 t19 bF fun t20 =>
 p.gT t20 H (p.fadr 2 t2) fun t22 H =>
 p.gT t20 H (p.load false 1 t22 H) fun t23 H =>
 p.gT t20 H (p.fadr 2 t3) fun t24 H =>
 p.gT t20 H (p.load false 1 t24 H) fun t25 H =>
 p.gT t20 H (p.bin .eql t23 t25) fun t26 H =>
 p.pick t20 t26 bF fun t27 =>
 p.gT t27 H (p.fadr 3 t2) fun t29 H =>
 p.gT t27 H (p.load false 1 t29 H) fun t30 H =>
 p.gT t27 H (p.fadr 3 t3) fun t31 H =>
 p.gT t27 H (p.load false 1 t31 H) fun t32 H =>
 p.gT t27 H (p.binB .eql t30 t32) fun t33 H =>
 p.pick t27 t33 bF fun t34 =>
 p.gT t34 H (p.fadr 4 t2) fun t36 H =>
 p.gT t34 H (p.load false 1 t36 H) fun t37 H =>
 p.gT t34 H (p.fadr 4 t3) fun t38 H =>
 p.gT t34 H (p.load false 1 t38 H) fun t39 H =>
 p.gT t34 H (p.bin .eql t37 t39) fun t40 H =>
 p.pick t34 t40 bF fun t41 =>
 p.gT t41 H (p.fadr 5 t2) fun t43 H =>
 p.gT t41 H (p.load false 1 t43 H) fun t44 H =>
 p.gT t41 H (p.fadr 5 t3) fun t45 H =>
 p.gT t41 H (p.load false 1 t45 H) fun t46 H =>
 p.gT t41 H (p.bin .eql t44 t46) fun t47 H =>
 p.pick t41 t47 bF fun t48 =>
 p.gT t48 H (p.fadr 6 t2) fun t50 H =>
 p.gT t48 H (p.load false 1 t50 H) fun t51 H =>
 p.gT t48 H (p.fadr 6 t3) fun t52 H =>
 p.gT t48 H (p.load false 1 t52 H) fun t53 H =>
 p.hT t48 H (p.call 4 (.fn 71 [] []) [t51, t53] H) fun t54 H =>
 p.pick t48 t54 bF fun t55 =>
 p.fadr 7 t2 fun t56 =>
 p.load false 1 t56 H fun t57 =>
 p.fadr 7 t3 fun t58 =>
 p.load false 1 t58 H fun t59 =>
 p.bin .eql t57 t59 fun t60 =>
 p.gT t60 H (p.fadr 8 t2) fun t62 H =>
 p.gT t60 H (p.load false 1 t62 H) fun t63 H =>
 p.gT t60 H (p.fadr 8 t3) fun t64 H =>
 p.gT t60 H (p.load false 1 t64 H) fun t65 H =>
 p.gT t60 H (p.bin .eql t63 t65) fun t66 H =>
 p.pick t60 t66 bF fun t67 =>
 p.gT t67 H (p.fadr 9 t2) fun t69 H =>
 p.gT t67 H (p.load false 1 t69 H) fun t70 H =>
 p.gT t67 H (p.fadr 9 t3) fun t71 H =>
 p.gT t67 H (p.load false 1 t71 H) fun t72 H =>
 p.gT t67 H (p.binB .eql t70 t72) fun t73 H =>
 p.pick t67 t73 bF fun t74 =>
 p.gT t74 H (p.fadr 10 t2) fun t76 H =>
 p.gT t74 H (p.load false 1 t76 H) fun t77 H =>
 p.gT t74 H (p.fadr 10 t3) fun t78 H =>
 p.gT t74 H (p.load false 1 t78 H) fun t79 H =>
 p.gT t74 H (p.bin .eql t77 t79) fun t80 H =>
 p.pick t74 t80 bF fun t81 =>
 p.gT t81 H (p.fadr 16 t2) fun t83 H =>
 p.gT t81 H (p.load false 1 t83 H) fun t84 H =>
 p.gT t81 H (p.fadr 16 t3) fun t85 H =>
 p.gT t81 H (p.load false 1 t85 H) fun t86 H =>
 p.gT t81 H (p.binB .eql t84 t86) fun t87 H =>
 p.pick t81 t87 bF fun t88 =>
 p.gT t88 H (p.fadr 17 t2) fun t90 H =>
 p.gT t88 H (p.load false 1 t90 H) fun t91 H =>
 p.gT t88 H (p.fadr 17 t3) fun t92 H =>
 p.gT t88 H (p.load false 1 t92 H) fun t93 H =>
 p.gT t88 H (p.bin .eql t91 t93) fun t94 H =>
 p.pick t88 t94 bF fun t95 =>
 p.gT t95 H (p.fadr 18 t2) fun t97 H =>
 p.gT t95 H (p.load false 1 t97 H) fun t98 H =>
 p.gT t95 H (p.fadr 18 t3) fun t99 H =>
 p.gT t95 H (p.load false 1 t99 H) fun t100 H =>
 p.gT t95 H (p.binB .eql t98 t100) fun t101 H =>
 p.pick t95 t101 bF fun t102 =>
 p.gT t102 H (p.fadr 19 t2) fun t104 H =>
 p.gT t102 H (p.load false 1 t104 H) fun t105 H =>
 p.gT t102 H (p.fadr 19 t3) fun t106 H =>
 p.gT t102 H (p.load false 1 t106 H) fun t107 H =>
 p.hT t102 H (p.call 4 (.fn 71 [] []) [t105, t107] H) fun t108 H =>
 p.pick t102 t108 bF fun t109 =>
 p.fadr 11 t2 fun t110 =>
 p.load false 1 t110 H fun t111 =>
 p.fadr 11 t3 fun t112 =>
 p.load false 1 t112 H fun t113 =>
 p.binB .eql t111 t113 fun t114 =>
 p.gT t114 H (p.fadr 12 t2) fun t116 H =>
 p.gT t114 H (p.load false 1 t116 H) fun t117 H =>
 p.gT t114 H (p.fadr 12 t3) fun t118 H =>
 p.gT t114 H (p.load false 1 t118 H) fun t119 H =>
 p.gT t114 H (p.bin .eql t117 t119) fun t120 H =>
 p.pick t114 t120 bF fun t121 =>
 p.gT t121 H (p.fadr 13 t2) fun t123 H =>
 p.gT t121 H (p.load false 1 t123 H) fun t124 H =>
 p.gT t121 H (p.fadr 13 t3) fun t125 H =>
 p.gT t121 H (p.load false 1 t125 H) fun t126 H =>
 p.hT t121 H (p.call 4 (.fn 71 [] []) [t124, t126] H) fun t127 H =>
 p.pick t121 t127 bF fun t128 =>
 p.gT t128 H (p.fadr 14 t2) fun t130 H =>
 p.gT t128 H (p.load false 1 t130 H) fun t131 H =>
 p.gT t128 H (p.fadr 14 t3) fun t132 H =>
 p.gT t128 H (p.load false 1 t132 H) fun t133 H =>
 p.gT t128 H (p.bin .eql t131 t133) fun t134 H =>
 p.pick t128 t134 bF fun t135 =>
 p.gT t135 H (p.fadr 15 t2) fun t137 H =>
 p.gT t135 H (p.load false 1 t137 H) fun t138 H =>
 p.gT t135 H (p.fadr 15 t3) fun t139 H =>
 p.gT t135 H (p.load false 1 t139 H) fun t140 H =>
 p.gT t135 H (p.binB .eql t138 t140) fun t141 H =>
 p.pick t135 t141 bF fun t142 =>
 p.fadr 22 t2 fun t143 =>
 p.load false 1 t143 H fun t144 =>
 p.fadr 22 t3 fun t145 =>
 p.load false 1 t145 H fun t146 =>
 p.call 4 (.fn 132 [] []) [t144, t146] H fun t147 H =>
 p.gT t147 H (p.fadr 23 t2) fun t149 H =>
 p.gT t147 H (p.load false 1 t149 H) fun t150 H =>
 p.gT t147 H (p.fadr 23 t3) fun t151 H =>
 p.gT t147 H (p.load false 1 t151 H) fun t152 H =>
 p.hT t147 H (p.call 4 (.fn 133 [] []) [t150, t152] H) fun t153 H =>
 p.pick t147 t153 bF fun t154 =>
 p.gT t154 H (p.fadr 24 t2) fun t156 H =>
 p.gT t154 H (p.load false 1 t156 H) fun t157 H =>
 p.gT t154 H (p.fadr 24 t3) fun t158 H =>
 p.gT t154 H (p.load false 1 t158 H) fun t159 H =>
 p.hT t154 H (p.call 4 (.fn 134 [] []) [t157, t159] H) fun t160 H =>
 p.pick t154 t160 bF fun t161 =>
 p.kT t55 H t109 fun t164 H =>
 p.pick t55 t164 bF fun t165 =>
 p.kT t165 H t142 fun t167 H =>
 p.pick t165 t167 bF fun t168 =>
 p.kT t168 H t161 fun t170 H =>
 p.pick t168 t170 bF fun t171 =>
 p.gT t171 H (p.fadr 20 t2) fun t173 H =>
 p.gT t171 H (p.load false 1 t173 H) fun t174 H =>
 p.gT t171 H (p.fadr 20 t3) fun t175 H =>
 p.gT t171 H (p.load false 1 t175 H) fun t176 H =>
 p.gT t171 H (p.bin .eql t174 t176) fun t177 H =>
 p.pick t171 t177 bF fun t178 =>
 p.gT t178 H (p.fadr 21 t2) fun t180 H =>
 p.gT t178 H (p.load false 1 t180 H) fun t181 H =>
 p.gT t178 H (p.fadr 21 t3) fun t182 H =>
 p.gT t178 H (p.load false 1 t182 H) fun t183 H =>
 p.gT t178 H (p.binB .eql t181 t183) fun t184 H =>
 p.pick t178 t184 bF fun t185 =>
 k t185 H
theorem Ad4 : Le Akc @f104 := fun p n a0 a1 H k => by kernel_rfl
noncomputable def f137 (n : Nat) (a0 : AV) (H : Ab) (k : KO β) : Option β :=
 p.call 56 (.fn 149 [] []) [a0, (.sc (.string ⟨#[47]⟩))] H fun t4 H =>
 k t4 H
theorem AdQ : Nm Akp @f137 := fun p n a0 H k => by kernel_rfl
noncomputable def f108 (n : Nat) (a0 : AV) (H : Ab) (k : KO β) : Option β :=
 p.call 4 (.fn 135 [] []) [a0] H fun t4 H =>
 p.kT t4 H a0 fun t6 H =>
 p.gT t4 H (p.bin .neq t6 sE) fun t7 H =>
 p.pick t4 t7 bF fun t8 =>
 p.kT t8 H a0 fun t10 H =>
 p.hT t8 H (p.call 4 (.fn 136 [] []) [t10, (.sc (.string ⟨#[43, 35]⟩))] H) fun t11 H =>
 p.gT t8 H (p.un .not t11) fun t12 H =>
 p.pick t8 t12 bF fun t13 =>
 p.kT t13 H a0 fun t15 H =>
 p.hT t13 H (p.call 56 (.fn 137 [] []) [t15] H) fun t16 H =>
 p.gT t13 H (p.len t16) fun t17 H =>
 p.gT t13 H (p.bin .leq t17 (si 6)) fun t18 H =>
 p.pick t13 t18 bF fun t19 =>
 k t19 H
theorem Ad8 : Nm Akg @f108 := fun p n a0 H k => by kernel_rfl
noncomputable def f107 (n : Nat) (a0 : AV) (H : Ab) (k : KO β) : Option β :=
 p.call 4 (.fn 98 [] []) [a0, i0, (si 2)] H fun t4 H =>
 k t4 H
theorem Ad7 : Nm Akf @f107 := fun p n a0 H k => by kernel_rfl
noncomputable def f118 (n : Nat) (a0 : AV) (H : Ab) (k : KO β) : Option β :=
 p.call 4 (.fn 98 [] []) [a0, i0, (si 65535)] H fun t4 H =>
 k t4 H
theorem AdG : Nm Akk @f118 := fun p n a0 H k => by kernel_rfl
noncomputable def f106 (n : Nat) (a0 : AV) (H : Ab) (k : KO β) : Option β :=
 p.box a0 H fun t1 H =>
 p.fl 11 t1 1 H fun t5 =>
 p.un .not t5 fun t6 =>
 p.lF t6 H 12 t1 1 fun t9 H =>
 p.hF t6 H (p.ca 4 108 [t9] H) fun t10 H =>
 p.kF t6 H t10 fun t11 H =>
 p.lT t11 H 13 t1 1 fun t13 H =>
 p.gT t11 H (p.len t13) fun t14 H =>
 p.gT t11 H (p.bin .leq t14 (si 40)) fun t15 H =>
 p.gF t6 H (p.pick t11 t15 bF) fun t16 H =>
 p.kF t6 H t16 fun t17 H =>
 p.lT t17 H 14 t1 1 fun t19 H =>
 p.hT t17 H (p.ca 4 107 [t19] H) fun t20 H =>
 p.gF t6 H (p.pick t17 t20 bF) fun t21 H =>
 p.pick t6 bT t21 fun t22 =>
 p.fl 8 t1 1 H fun t24 =>
 p.ca 4 98 [t24, i0, (si 255)] H fun t25 H =>
 p.lT t25 H 7 t1 1 fun t28 H =>
 p.hT t25 H (p.ca 4 135 [t28] H) fun t29 H =>
 p.pick t25 t29 bF fun t30 =>
 p.lT t30 H 10 t1 1 fun t33 H =>
 p.hT t30 H (p.ca 4 118 [t33] H) fun t34 H =>
 p.pick t30 t34 bF fun t35 =>
 p.kT t35 H t22 fun t37 H =>
 p.pick t35 t37 bF fun t38 =>
 p.lT t38 H 17 t1 1 fun t41 H =>
 p.hT t38 H (p.ca 4 135 [t41] H) fun t42 H =>
 p.pick t38 t42 bF fun t43 =>
 p.lT t43 H 19 t1 1 fun t46 H =>
 p.gT t43 H (p.len t46) fun t47 H =>
 p.gT t43 H (p.bin .leq t47 (si 60)) fun t48 H =>
 p.pick t43 t48 bF fun t49 =>
 k t49 H
theorem Ad6 : Nm Ake @f106 := fun p n a0 H k => by kernel_rfl
noncomputable def f109 (n : Nat) (a0 : AV) (H : Ab) (k : KO β) : Option β :=
 p.call 4 (.fn 98 [] []) [a0, (si 1), (si 65535)] H fun t4 H =>
 k t4 H
theorem Ad9 : Nm Akh @f109 := fun p n a0 H k => by kernel_rfl
noncomputable def f150 (n : Nat) (a0 a1 : AV) (H : Ab) (k : KO β) : Option β :=
 p.call 4 (.fn 136 [] []) [a0, (.sc (.string ⟨#[43, 35]⟩))] H fun t6 H =>
 p.un .not t6 fun t7 =>
 p.kF t7 H a0 fun t9 H =>
 p.gF t7 H (p.bin .eql t9 (.sc (.string ⟨#[43]⟩))) fun t10 H =>
 p.pick t7 bT t10 fun t11 =>
 p.kF t11 H a0 fun t13 H =>
 p.gF t11 H (p.bin .eql t13 (.sc (.string ⟨#[35]⟩))) fun t14 H =>
 p.kF t11 H t14 fun t15 H =>
 p.kT t15 H a1 fun t16 H =>
 p.gF t11 H (p.pick t15 t16 bF) fun t17 H =>
 p.pick t11 bT t17 fun t18 =>
 k t18 H
theorem AdY : Le Akv @f150 := fun p n a0 a1 H k => by kernel_rfl
noncomputable def Nz (p : Pr β) (n : Nat)  (k : KO β) : Nat → AV → AV → AV → AV → KO β
 | 0, _, _, _, _, _, _ => none
 | m + 1, t0, t3, t8, t9, t10, H => p.bin .lss t10 t9 fun t11 =>
   p.cond t11
   (p.iadr 1 t8 t10 fun t13 =>
   p.load false 1 t13 H fun t14 =>
   p.len t3 fun t18 =>
   p.bin .sub t18 (si 1) fun t19 =>
   p.bin .eql t10 t19 fun t20 =>
   p.call 4 (.fn 150 [] []) [t14, t20] H fun t21 H =>
   p.un .not t21 fun t22 =>
   p.cond t22
   (k bF H)
   (p.bin .add t10 (si 1) fun t23 =>
   Nz p n  k m t0 t3 t8 t9 t23 H))
   (p.call 4 (.fn 135 [] []) [t0] H fun t25 H =>
   p.kT t25 H t0 fun t27 H =>
   p.gT t25 H (p.bin .neq t27 sE) fun t28 H =>
   p.pick t25 t28 bF fun t29 =>
   p.kT t29 H t3 fun t31 H =>
   p.gT t29 H (p.len t31) fun t32 H =>
   p.gT t29 H (p.bin .leq t32 (si 6)) fun t33 H =>
   p.pick t29 t33 bF fun t34 =>
   k t34 H)
noncomputable def f138 (n : Nat) (a0 : AV) (H : Ab) (k : KO β) : Option β :=
 p.call 56 (.fn 137 [] []) [a0] H fun t7 H =>
 p.len t7 fun t9 =>
 Nz p n  k n a0 t7 t7 t9 i0 H
noncomputable def AcJ (p : Pr β) (n : Nat)  (k : KO β) (m : Nat) (tm : Tm) (H : Ab) : Option β :=
 Dd 35 (fun tm H k => Ai As p [] 35 n (cd AkL [1, 1, 0, 1, 0, 0]) tm H k) (Eg 0 (Dw (fun tm H => Ai As p [] 35 n (cd AkL [1, 1, 1]) tm H (Cd As p fi138.results k)) (Cd As p fi138.results k))) m tm H
theorem AbJ (p : Pr β) (n : Nat)  (k : KO β) (m0 : Nat) : ∀ (t : Nat → AV) (H : Ab), AcJ p n  k m0 (tf 35 0 t) H = Nz p n  k m0 (t 0) (t 3) (t 8) (t 9) (t 10) H := by
 induction m0 with
 | zero => intros; rfl
 | succ m0 ih =>
  intro t H
  refine Eq.trans (Bh (nt := 35) (m := m0) (g := fun t H => Nz p n  k m0 (t 0) (t 3) (t 8) (t 9) (t 10) H) ih rfl) ?_
  kernel_rfl
theorem Afv (p : Pr β) (n : Nat) (a0 : AV) (H : Ab) (k : KO β) : B6 As p n fi138 [a0] H k =
 p.call 56 (.fn 137 [] []) [a0] H fun t7 H =>
 p.len t7 fun t9 =>
 AcJ p n  k n (tf 35 0 (ud [(0, a0), (2, bF), (3, t7), (6, a0), (7, t7), (8, t7), (9, t9), (10, i0)] ut)) H := by kernel_rfl
theorem AdR : Nm fi138 @f138 := fun p n a0 H k => by
 rw [Afv]
 simp only [AbJ]
 kernel_rfl
noncomputable def Nw (p : Pr β) (n : Nat)  (k : KO β) : Nat → AV → AV → AV → KO β
 | 0, _, _, _, _, _ => none
 | m + 1, t1, t39, t40, t41, H => p.bin .lss t41 t40 fun t42 =>
   p.cond t42
   (p.iadr 1 t39 t41 fun t43 =>
   p.load false 1 t43 H fun t44 =>
   p.ca 4 107 [t44] H fun t46 H =>
   p.un .not t46 fun t47 =>
   p.kT t47 H t44 fun t49 H =>
   p.gT t47 H (p.bin .neq t49 (si 128)) fun t50 H =>
   p.pick t47 t50 bF fun t51 =>
   p.cond t51
   (k bF H)
   (p.bin .add t41 (si 1) fun t52 =>
   Nw p n  k m t1 t39 t40 t52 H))
   (p.fadr 22 t1 fun t53 =>
   p.load false 1 t53 H fun t54 =>
   p.len t54 fun t55 =>
   p.fl 23 t1 1 H fun t57 =>
   p.len t57 fun t58 =>
   p.bin .add t55 t58 fun t59 =>
   p.fl 24 t1 1 H fun t61 =>
   p.len t61 fun t62 =>
   p.bin .add t59 t62 fun t63 =>
   p.ca 4 98 [t63, (si 1), (si 4)] H fun t64 H =>
   k t64 H)
noncomputable def K0 (p : Pr β) (n : Nat)  (k : KO β) : Nat → AV → AV → AV → KO β
 | 0, _, _, _, _, _ => none
 | m + 1, t1, t28, t29, t30, H => p.bin .lss t30 t29 fun t31 =>
   p.cond t31
   (p.iadr 1 t28 t30 fun t32 =>
   p.load false 1 t32 H fun t33 =>
   p.ca 4 138 [t33] H fun t35 H =>
   p.un .not t35 fun t36 =>
   p.cond t36
   (k bF H)
   (p.bin .add t30 (si 1) fun t37 =>
   K0 p n  k m t1 t28 t29 t37 H))
   (p.fadr 24 t1 fun t38 =>
   p.load false 1 t38 H fun t39 =>
   p.len t39 fun t40 =>
   Nw p n  k n t1 t39 t40 i0 H)
noncomputable def Kz (p : Pr β) (n : Nat)  (k : KO β) : Nat → AV → AV → AV → KO β
 | 0, _, _, _, _, _ => none
 | m + 1, t1, t10, t11, t12, H => p.bin .lss t12 t11 fun t13 =>
   p.cond t13
   (p.iadr 2 t10 t12 fun t14 =>
   p.load true 2 t14 H fun t15 =>
   p.new [sE, i0] H fun t4 H =>
   p.store 2 t4 t15 H fun H =>
   p.fl 0 t4 1 H fun t17 =>
   p.ca 4 138 [t17] H fun t18 H =>
   p.un .not t18 fun t19 =>
   p.lF t19 H 1 t4 1 fun t22 H =>
   p.hF t19 H (p.ca 4 107 [t22] H) fun t23 H =>
   p.gF t19 H (p.un .not t23) fun t24 H =>
   p.pick t19 bT t24 fun t25 =>
   p.cond t25
   (k bF H)
   (p.bin .add t12 (si 1) fun t26 =>
   Kz p n  k m t1 t10 t11 t26 H))
   (p.fadr 23 t1 fun t27 =>
   p.load false 1 t27 H fun t28 =>
   p.len t28 fun t29 =>
   K0 p n  k n t1 t28 t29 i0 H)
noncomputable def f110 (n : Nat) (a0 : AV) (H : Ab) (k : KO β) : Option β :=
 p.box a0 H fun t1 H =>
 p.fl 22 t1 1 H fun t10 =>
 p.len t10 fun t11 =>
 Kz p n  k n t1 t10 t11 i0 H
noncomputable def Ac8 (p : Pr β) (n : Nat)  (k : KO β) (m : Nat) (tm : Tm) (H : Ab) : Option β :=
 Dd 65 (fun tm H k => Ai As p [] 65 n (cd Va [1, 1, 1, 0, 1, 0, 0]) tm H k) (Eg 4 (Dw (fun tm H => Ai As p [] 65 n (cd Va [1, 1, 1, 1]) tm H (Cd As p fi110.results k)) (Cd As p fi110.results k))) m tm H
noncomputable def Ac7 (p : Pr β) (n : Nat)  (k : KO β) (m : Nat) (tm : Tm) (H : Ab) : Option β :=
 Dd 65 (fun tm H k => Ai As p [] 65 n (cd Va [1, 1, 0, 1, 0, 0]) tm H k) (Eg 2 (Dw (fun tm H => Ai As p [] 65 n (cd Va [1, 1, 1]) tm H (Cd As p fi110.results k)) (Cd As p fi110.results k))) m tm H
noncomputable def Ac6 (p : Pr β) (n : Nat)  (k : KO β) (m : Nat) (tm : Tm) (H : Ab) : Option β :=
 Dd 65 (fun tm H k => Ai As p [] 65 n (cd Va [1, 0, 1, 0, 0]) tm H k) (Eg 0 (Dw (fun tm H => Ai As p [] 65 n (cd Va [1, 1]) tm H (Cd As p fi110.results k)) (Cd As p fi110.results k))) m tm H
theorem Vm (p : Pr β) (n : Nat)  (k : KO β) (m2 : Nat) : ∀ (t : Nat → AV) (H : Ab), Ac8 p n  k m2 (tf 65 0 t) H = Nw p n  k m2 (t 1) (t 39) (t 40) (t 41) H := by
 induction m2 with
 | zero => intros; rfl
 | succ m2 ih =>
  intro t H
  refine Eq.trans (Bh (nt := 65) (m := m2) (g := fun t H => Nw p n  k m2 (t 1) (t 39) (t 40) (t 41) H) ih rfl) ?_
  kernel_rfl
theorem Zo (p : Pr β) (n : Nat)  (k : KO β) (m1 : Nat) (t : Nat → AV) (H : Ab) : Ai As p [] 65 n (cd Va [1, 1, 0, 1, 0, 0]) (tf 65 0 t) H (Dw (fun tm H => K0 p n  k m1 (gt tm 1) (gt tm 28) (gt tm 29) (gt tm 30) H) (Eg 2 (Dw (fun tm H => Ai As p [] 65 n (cd Va [1, 1, 1]) tm H (Cd As p fi110.results k)) (Cd As p fi110.results k)))) =
 p.bin .lss (t 30) (t 29) fun t31 =>
 p.cond t31
 (p.iadr 1 (t 28) (t 30) fun t32 =>
 p.load false 1 t32 H fun t33 =>
 p.call 4 (.fn 138 [] []) [t33] H fun t35 H =>
 p.un .not t35 fun t36 =>
 p.cond t36
 (k bF H)
 (p.bin .add (t 30) (si 1) fun t37 =>
 K0 p n  k m1 (t 1) (t 28) (t 29) t37 H))
 (p.fadr 24 (t 1) fun t38 =>
 p.load false 1 t38 H fun t39 =>
 p.len t39 fun t40 =>
 Ac8 p n  k n (tf 65 0 (ud [(31, t31), (38, t38), (39, t39), (40, t40), (41, i0)] t)) H) := by kernel_rfl
theorem Vl (p : Pr β) (n : Nat)  (k : KO β) (m1 : Nat) : ∀ (t : Nat → AV) (H : Ab), Ac7 p n  k m1 (tf 65 0 t) H = K0 p n  k m1 (t 1) (t 28) (t 29) (t 30) H := by
 induction m1 with
 | zero => intros; rfl
 | succ m1 ih =>
  intro t H
  refine Eq.trans (Bh (nt := 65) (m := m1) (g := fun t H => K0 p n  k m1 (t 1) (t 28) (t 29) (t 30) H) ih rfl) ?_
  refine Eq.trans (Zo p n  k m1 t H) ?_
  simp only [Vm]
  kernel_rfl
theorem Zn (p : Pr β) (n : Nat)  (k : KO β) (m0 : Nat) (t : Nat → AV) (H : Ab) : Ai As p [] 65 n (cd Va [1, 0, 1, 0, 0]) (tf 65 0 t) H (Dw (fun tm H => Kz p n  k m0 (gt tm 1) (gt tm 10) (gt tm 11) (gt tm 12) H) (Eg 0 (Dw (fun tm H => Ai As p [] 65 n (cd Va [1, 1]) tm H (Cd As p fi110.results k)) (Cd As p fi110.results k)))) =
 p.bin .lss (t 12) (t 11) fun t13 =>
 p.cond t13
 (p.iadr 2 (t 10) (t 12) fun t14 =>
 p.load true 2 t14 H fun t15 =>
 p.new [sE, i0] H fun t4 H =>
 p.store 2 t4 t15 H fun H =>
 p.fadr 0 t4 fun t16 =>
 p.load false 1 t16 H fun t17 =>
 p.call 4 (.fn 138 [] []) [t17] H fun t18 H =>
 p.un .not t18 fun t19 =>
 p.gF t19 H (p.fadr 1 t4) fun t21 H =>
 p.gF t19 H (p.load false 1 t21 H) fun t22 H =>
 p.hF t19 H (p.call 4 (.fn 107 [] []) [t22] H) fun t23 H =>
 p.gF t19 H (p.un .not t23) fun t24 H =>
 p.pick t19 bT t24 fun t25 =>
 p.cond t25
 (k bF H)
 (p.bin .add (t 12) (si 1) fun t26 =>
 Kz p n  k m0 (t 1) (t 10) (t 11) t26 H))
 (p.fadr 23 (t 1) fun t27 =>
 p.load false 1 t27 H fun t28 =>
 p.len t28 fun t29 =>
 Ac7 p n  k n (tf 65 0 (ud [(13, t13), (27, t27), (28, t28), (29, t29), (30, i0)] t)) H) := by kernel_rfl
theorem AbA (p : Pr β) (n : Nat)  (k : KO β) (m0 : Nat) : ∀ (t : Nat → AV) (H : Ab), Ac6 p n  k m0 (tf 65 0 t) H = Kz p n  k m0 (t 1) (t 10) (t 11) (t 12) H := by
 induction m0 with
 | zero => intros; rfl
 | succ m0 ih =>
  intro t H
  refine Eq.trans (Bh (nt := 65) (m := m0) (g := fun t H => Kz p n  k m0 (t 1) (t 10) (t 11) (t 12) H) ih rfl) ?_
  refine Eq.trans (Zn p n  k m0 t H) ?_
  simp only [Vl]
  kernel_rfl
theorem Afm (p : Pr β) (n : Nat) (a0 : AV) (H : Ab) (k : KO β) : B6 As p n fi110 [a0] H k =
 p.box a0 H fun t1 H =>
 p.fadr 22 t1 fun t9 =>
 p.load false 1 t9 H fun t10 =>
 p.len t10 fun t11 =>
 Ac6 p n  k n (tf 65 0 (ud [(0, a0), (1, t1), (2, bF), (9, t9), (10, t10), (11, t11), (12, i0)] ut)) H := by kernel_rfl
theorem AdA : Nm fi110 @f110 := fun p n a0 H k => by
 rw [Afm]
 simp only [Vm, Vl, AbA]
 kernel_rfl
noncomputable def f70 (n : Nat) (a0 : AV) (H : Ab) (k : KO β) : Option β :=
 p.box a0 H fun t1 H =>
 p.fl 0 t1 1 H fun t4 =>
 p.ca 4 98 [t4, (si 1), (si 14)] H fun t5 H =>
 p.un .not t5 fun t6 =>
 p.gF t6 H (p.load true 25 t1 H) fun t9 H =>
 p.both
 (p.gF t6 H (p.load true 25 t1 H) fun t8 H =>
 p.hF t6 H (p.ca 59 105 [t9] H) fun t10 H =>
 p.hF t6 H (p.ca 4 104 [t8, t10] H) fun t11 H =>
 p.gF t6 H (p.un .not t11) fun t12 H =>
 p.pick t6 bT t12 fun t13 =>
 p.cond t13
 (k bF H)
 (p.fadr 0 t1 fun t14 =>
 p.load false 1 t14 H fun t15 =>
 p.bin .eql t15 (si 1) fun t17 =>
 p.cond t17
 (p.load true 25 t1 H fun t18 =>
 p.ca 4 106 [t18] H fun t19 H =>
 k t19 H)
 (p.bin .eql t15 (si 2) fun t21 =>
 p.cond t21
 (p.fadr 20 t1 fun t22 =>
 p.load false 1 t22 H fun t23 =>
 p.ca 4 98 [t23, i0, (si 5)] H fun t24 H =>
 p.lT t24 H 21 t1 1 fun t27 H =>
 p.gT t24 H (p.un .not t27) fun t28 H =>
 p.kT t24 H t28 fun t29 H =>
 p.lF t29 H 20 t1 1 fun t31 H =>
 p.gF t29 H (p.bin .eql t31 i0) fun t32 H =>
 p.gT t24 H (p.pick t29 bT t32) fun t33 H =>
 p.pick t24 t33 bF fun t34 =>
 k t34 H)
 (p.bin .eql t15 (si 3) fun t36 =>
 p.cond t36
 (p.fadr 2 t1 fun t37 =>
 p.load false 1 t37 H fun t38 =>
 p.ca 4 107 [t38] H fun t39 H =>
 p.lT t39 H 5 t1 1 fun t42 H =>
 p.hT t39 H (p.ca 4 108 [t42] H) fun t43 H =>
 p.pick t39 t43 bF fun t44 =>
 p.lT t44 H 6 t1 1 fun t47 H =>
 p.gT t44 H (p.len t47) fun t48 H =>
 p.gT t44 H (p.bin .leq t48 (si 40)) fun t49 H =>
 p.pick t44 t49 bF fun t50 =>
 p.lT t50 H 2 t1 1 fun t53 H =>
 p.gT t50 H (p.bin .eql t53 i0) fun t54 H =>
 p.kT t50 H t54 fun t55 H =>
 p.lF t55 H 4 t1 1 fun t57 H =>
 p.hF t55 H (p.ca 4 109 [t57] H) fun t58 H =>
 p.gT t50 H (p.pick t55 bT t58) fun t59 H =>
 p.pick t50 t59 bF fun t60 =>
 k t60 H)
 (p.bin .eql t15 (si 4) fun t62 =>
 Et (fun (t1 t15 t61 : AV) (H : Ab) => p.cond t61
 (p.fadr 4 t1 fun t67 =>
 p.load false 1 t67 H fun t68 =>
 p.ca 4 109 [t68] H fun t69 H =>
 k t69 H)
 (p.bin .eql t15 (si 8) fun t71 =>
 Et (fun (t1 t70 : AV) (H : Ab) => p.cond t70
 (p.fadr 4 t1 fun t74 =>
 p.load false 1 t74 H fun t75 =>
 p.ca 4 109 [t75] H fun t76 H =>
 p.gT t76 H (p.load true 25 t1 H) fun t78 H =>
 p.hT t76 H (p.ca 4 110 [t78] H) fun t79 H =>
 p.pick t76 t79 bF fun t80 =>
 k t80 H)
 (k bT H)) fun j2 =>
 p.cond t71
 (j2 t1 t71 H)
 (p.bin .eql t15 (si 9) fun t72 =>
 p.cond t72
 (j2 t1 t72 H)
 (p.bin .eql t15 (si 10) fun t73 =>
 j2 t1 t73 H)))) fun j1 =>
 p.cond t62
 (j1 t1 t15 t62 H)
 (p.bin .eql t15 (si 5) fun t63 =>
 p.cond t63
 (j1 t1 t15 t63 H)
 (p.bin .eql t15 (si 6) fun t64 =>
 p.cond t64
 (j1 t1 t15 t64 H)
 (p.bin .eql t15 (si 7) fun t65 =>
 p.cond t65
 (j1 t1 t15 t65 H)
 (p.bin .eql t15 (si 11) fun t66 =>
 j1 t1 t15 t66 H)))))))))
 (p.hF t6 H (p.ca 59 105 [t9] H) fun t10 H =>
 p.gF t6 H (p.load true 25 t1 H) fun t8 H =>
 p.hF t6 H (p.ca 4 104 [t8, t10] H) fun t11 H =>
 p.gF t6 H (p.un .not t11) fun t12 H =>
 p.pick t6 bT t12 fun t13 =>
 p.cond t13
 (k bF H)
 (p.fadr 0 t1 fun t14 =>
 p.load false 1 t14 H fun t15 =>
 p.bin .eql t15 (si 1) fun t17 =>
 p.cond t17
 (p.load true 25 t1 H fun t18 =>
 p.ca 4 106 [t18] H fun t19 H =>
 k t19 H)
 (p.bin .eql t15 (si 2) fun t21 =>
 p.cond t21
 (p.fadr 20 t1 fun t22 =>
 p.load false 1 t22 H fun t23 =>
 p.ca 4 98 [t23, i0, (si 5)] H fun t24 H =>
 p.lT t24 H 21 t1 1 fun t27 H =>
 p.gT t24 H (p.un .not t27) fun t28 H =>
 p.kT t24 H t28 fun t29 H =>
 p.lF t29 H 20 t1 1 fun t31 H =>
 p.gF t29 H (p.bin .eql t31 i0) fun t32 H =>
 p.gT t24 H (p.pick t29 bT t32) fun t33 H =>
 p.pick t24 t33 bF fun t34 =>
 k t34 H)
 (p.bin .eql t15 (si 3) fun t36 =>
 p.cond t36
 (p.fadr 2 t1 fun t37 =>
 p.load false 1 t37 H fun t38 =>
 p.ca 4 107 [t38] H fun t39 H =>
 p.lT t39 H 5 t1 1 fun t42 H =>
 p.hT t39 H (p.ca 4 108 [t42] H) fun t43 H =>
 p.pick t39 t43 bF fun t44 =>
 p.lT t44 H 6 t1 1 fun t47 H =>
 p.gT t44 H (p.len t47) fun t48 H =>
 p.gT t44 H (p.bin .leq t48 (si 40)) fun t49 H =>
 p.pick t44 t49 bF fun t50 =>
 p.lT t50 H 2 t1 1 fun t53 H =>
 p.gT t50 H (p.bin .eql t53 i0) fun t54 H =>
 p.kT t50 H t54 fun t55 H =>
 p.lF t55 H 4 t1 1 fun t57 H =>
 p.hF t55 H (p.ca 4 109 [t57] H) fun t58 H =>
 p.gT t50 H (p.pick t55 bT t58) fun t59 H =>
 p.pick t50 t59 bF fun t60 =>
 k t60 H)
 (p.bin .eql t15 (si 4) fun t62 =>
 Et (fun (t1 t15 t61 : AV) (H : Ab) => p.cond t61
 (p.fadr 4 t1 fun t67 =>
 p.load false 1 t67 H fun t68 =>
 p.ca 4 109 [t68] H fun t69 H =>
 k t69 H)
 (p.bin .eql t15 (si 8) fun t71 =>
 Et (fun (t1 t70 : AV) (H : Ab) => p.cond t70
 (p.fadr 4 t1 fun t74 =>
 p.load false 1 t74 H fun t75 =>
 p.ca 4 109 [t75] H fun t76 H =>
 p.gT t76 H (p.load true 25 t1 H) fun t78 H =>
 p.hT t76 H (p.ca 4 110 [t78] H) fun t79 H =>
 p.pick t76 t79 bF fun t80 =>
 k t80 H)
 (k bT H)) fun j4 =>
 p.cond t71
 (j4 t1 t71 H)
 (p.bin .eql t15 (si 9) fun t72 =>
 p.cond t72
 (j4 t1 t72 H)
 (p.bin .eql t15 (si 10) fun t73 =>
 j4 t1 t73 H)))) fun j3 =>
 p.cond t62
 (j3 t1 t15 t62 H)
 (p.bin .eql t15 (si 5) fun t63 =>
 p.cond t63
 (j3 t1 t15 t63 H)
 (p.bin .eql t15 (si 6) fun t64 =>
 p.cond t64
 (j3 t1 t15 t64 H)
 (p.bin .eql t15 (si 7) fun t65 =>
 p.cond t65
 (j3 t1 t15 t65 H)
 (p.bin .eql t15 (si 11) fun t66 =>
 j3 t1 t15 t66 H)))))))))
theorem Agk : Nm Amy @f70 := fun p n a0 H k => by kernel_rfl
noncomputable def f140 (n : Nat) (a0 a1 : AV) (H : Ab) (k : KO β) : Option β :=
 p.cond a0
 (k a1 H)
 (k i0 H)
theorem AdT : Le Akr @f140 := fun p n a0 a1 H k => by kernel_rfl
noncomputable def f142 (n : Nat) (a0 a1 : AV) (H : Ab) (k : KO β) : Option β :=
 p.bin .shr a1 (.sc (.int .u64 8)) fun t7 =>
 p.bin .and t7 (si 255) fun t8 =>
 p.cvI .u8 t8 fun t9 =>
 p.bin .and a1 (si 255) fun t11 =>
 p.cvI .u8 t11 fun t12 =>
 p.fill [(su 0), (su 0)] [(0, 1, t9), (1, 1, t12)] fun ct13 => p.newSl 2 1 ct13 true H fun t13 H =>
 p.fill [.nl, .nl] [(0, 1, a0), (1, 1, t13)] fun ct14 => p.newSl 2 1 ct14 true H fun t14 H =>
 p.ca 22 77 [t14] H fun t15 H =>
 k t15 H
theorem AdV : Le Akt @f142 := fun p n a0 a1 H k => by kernel_rfl
noncomputable def f141 (n : Nat) (a0 a1 : AV) (H : Ab) (k : KO β) : Option β :=
 p.ca 4 135 [a1] H fun t6 H =>
 p.un .not t6 fun t7 =>
 p.cond t7
 (p.fill [.nl] [(0, 1, a0)] fun ct9 => p.newSl 1 1 ct9 true H fun t9 H =>
 p.ca 22 77 [t9] H fun t10 H =>
 k t10 H)
 (p.lenS a1 fun t13 =>
 p.ca 22 142 [a0, t13] H fun t14 H =>
 p.cvSB a1 H fun t16 H =>
 p.fill [.nl, .nl] [(0, 1, t14), (1, 1, t16)] fun ct17 => p.newSl 2 1 ct17 true H fun t17 H =>
 p.ca 22 77 [t17] H fun t18 H =>
 k t18 H)
theorem AdU : Le Aks @f141 := fun p n a0 a1 H k => by kernel_rfl
noncomputable def f151 (n : Nat) (a0 a1 : AV) (H : Ab) (k : KO β) : Option β :=
 p.len a1 fun t6 =>
 p.bin .gtr t6 (si 60) fun t7 =>
 p.cond t7
 (p.fill [.nl] [(0, 1, a0)] fun ct9 => p.newSl 1 1 ct9 true H fun t9 H =>
 p.ca 22 77 [t9] H fun t10 H =>
 k t10 H)
 (p.len a1 fun t13 =>
 p.ca 22 142 [a0, t13] H fun t14 H =>
 p.fill [.nl, .nl] [(0, 1, t14), (1, 1, a1)] fun ct16 => p.newSl 2 1 ct16 true H fun t16 H =>
 p.ca 22 77 [t16] H fun t17 H =>
 k t17 H)
theorem AdZ : Le Akw @f151 := fun p n a0 a1 H k => by kernel_rfl
noncomputable def f139 (n : Nat) (a0 : AV) (H : Ab) (k : KO β) : Option β :=
 p.box a0 H fun t1 H =>
 p.fl 9 t1 1 H fun t6 =>
 p.fl 11 t1 1 H fun t9 =>
 p.fl 14 t1 1 H fun t13 =>
 p.bin .mul (si 8) t13 fun t14 =>
 p.fl 15 t1 1 H fun t17 =>
 p.fl 18 t1 1 H fun t21 =>
 p.fl 16 t1 1 H fun t25 =>
 p.ca 3 140 [t6, (si 2)] H fun t7 H =>
 p.ca 3 140 [t9, (si 4)] H fun t10 H =>
 p.bin .add t7 t10 fun t11 =>
 p.bin .add t11 t14 fun t15 =>
 p.ca 3 140 [t17, (si 32)] H fun t18 H =>
 p.bin .add t15 t18 fun t19 =>
 p.ca 3 140 [t21, (si 64)] H fun t22 H =>
 p.bin .add t19 t22 fun t23 =>
 p.ca 3 140 [t25, (si 128)] H fun t26 H =>
 p.bin .add t23 t26 fun t27 =>
 p.fl 8 t1 1 H fun t30 =>
 p.cvI .u8 t30 fun t31 =>
 p.cvI .u8 t27 fun t33 =>
 Et (fun (t1 t4 : AV) (H : Ab) => p.fadr 10 t1 fun t37 =>
 p.load false 1 t37 H fun t38 =>
 p.fl 7 t1 1 H fun t41 =>
 p.ca 22 142 [t4, t38] H fun t39 H =>
 p.ca 22 141 [t39, t41] H fun t42 H =>
 p.fl 11 t1 1 H fun t44 =>
 Et (fun (t1 t4 : AV) (H : Ab) => p.fadr 16 t1 fun t52 =>
 p.load false 1 t52 H fun t53 =>
 Et (fun (t1 t4 : AV) (H : Ab) => p.fadr 18 t1 fun t58 =>
 p.load false 1 t58 H fun t59 =>
 Et (fun (t4 : AV) (H : Ab) => k t4 H) fun j4 =>
 p.cond t59
 (p.fadr 19 t1 fun t61 =>
 p.load false 1 t61 H fun t62 =>
 p.ca 22 151 [t4, t62] H fun t63 H =>
 j4 t63 H)
 (j4 t4 H)) fun j3 =>
 p.cond t53
 (p.fadr 17 t1 fun t55 =>
 p.load false 1 t55 H fun t56 =>
 p.ca 22 141 [t4, t56] H fun t57 H =>
 j3 t1 t57 H)
 (j3 t1 t4 H)) fun j2 =>
 p.cond t44
 (p.fadr 12 t1 fun t46 =>
 p.load false 1 t46 H fun t47 =>
 p.fl 13 t1 1 H fun t50 =>
 p.ca 22 141 [t42, t47] H fun t48 H =>
 p.ca 22 151 [t48, t50] H fun t51 H =>
 j2 t1 t51 H)
 (j2 t1 t42 H)) fun j1 =>
 p.both
 (p.ca 22 141 [.nl, (.sc (.string ⟨#[77, 81, 84, 84]⟩))] H fun t28 H =>
 p.fill [(su 0), (su 0)] [(0, 1, t31), (1, 1, t33)] fun ct34 => p.newSl 2 1 ct34 true H fun t34 H =>
 p.app 1 1 t28 t34 H fun t35 H =>
 j1 t1 t35 H)
 (p.fill [(su 0), (su 0)] [(0, 1, t31), (1, 1, t33)] fun ct34 => p.newSl 2 1 ct34 true H fun t34 H =>
 p.ca 22 141 [.nl, (.sc (.string ⟨#[77, 81, 84, 84]⟩))] H fun t28 H =>
 p.app 1 1 t28 t34 H fun t35 H =>
 j1 t1 t35 H)
theorem AdS : Nm Akq @f139 := fun p n a0 H k => by kernel_rfl
noncomputable def Nx (p : Pr β) (n : Nat)  (k : KO β) : Nat → AV → AV → AV → KO β
 | 0, _, _, _, _, _ => none
 | m + 1, t3, t85, t86, t87, H => p.bin .lss t87 t86 fun t88 =>
   p.cond t88
   (p.iadr 1 t85 t87 fun t89 =>
   p.load false 1 t89 H fun t90 =>
   p.ca 22 141 [t3, t90] H fun t93 H =>
   p.bin .add t87 (si 1) fun t94 =>
   Nx p n  k m t93 t85 t86 t94 H)
   (k t3 H)
noncomputable def K2 (p : Pr β) (n : Nat)  (k : KO β) : Nat → AV → AV → AV → AV → KO β
 | 0, _, _, _, _, _, _ => none
 | m + 1, t1, t3, t72, t73, t74, H => p.bin .lss t74 t73 fun t75 =>
   p.cond t75
   (p.iadr 1 t72 t74 fun t76 =>
   p.load false 1 t76 H fun t77 =>
   p.cvI .u8 t77 fun t80 =>
   p.fill [(su 0)] [(0, 1, t80)] fun ct81 => p.newSl 1 1 ct81 true H fun t81 H =>
   p.app 1 1 t3 t81 H fun t82 H =>
   p.bin .add t74 (si 1) fun t83 =>
   K2 p n  k m t1 t82 t72 t73 t83 H)
   (p.fadr 23 t1 fun t84 =>
   p.load false 1 t84 H fun t85 =>
   p.len t85 fun t86 =>
   Nx p n  k n t3 t85 t86 i0 H)
noncomputable def K1 (p : Pr β) (n : Nat)  (k : KO β) : Nat → AV → AV → AV → AV → KO β
 | 0, _, _, _, _, _, _ => none
 | m + 1, t1, t3, t55, t56, t57, H => p.bin .lss t57 t56 fun t58 =>
   p.cond t58
   (p.iadr 2 t55 t57 fun t59 =>
   p.load true 2 t59 H fun t60 =>
   p.new [sE, i0] H fun t5 H =>
   p.store 2 t5 t60 H fun H =>
   p.fl 0 t5 1 H fun t63 =>
   p.fl 1 t5 1 H fun t66 =>
   p.cvI .u8 t66 fun t67 =>
   Et (fun (t1 t3 t55 t56 t57 : AV) (H : Ab) => p.bin .add t57 (si 1) fun t70 =>
   K1 p n  k m t1 t3 t55 t56 t70 H) fun j1 =>
   p.both
   (p.ca 22 141 [t3, t63] H fun t64 H =>
   p.fill [(su 0)] [(0, 1, t67)] fun ct68 => p.newSl 1 1 ct68 true H fun t68 H =>
   p.app 1 1 t64 t68 H fun t69 H =>
   j1 t1 t69 t55 t56 t57 H)
   (p.fill [(su 0)] [(0, 1, t67)] fun ct68 => p.newSl 1 1 ct68 true H fun t68 H =>
   p.ca 22 141 [t3, t63] H fun t64 H =>
   p.app 1 1 t64 t68 H fun t69 H =>
   j1 t1 t69 t55 t56 t57 H))
   (p.fadr 24 t1 fun t71 =>
   p.load false 1 t71 H fun t72 =>
   p.len t72 fun t73 =>
   K2 p n  k n t1 t3 t72 t73 i0 H)
noncomputable def f111 (n : Nat) (a0 : AV) (H : Ab) (k : KO β) : Option β :=
 p.box a0 H fun t1 H =>
 p.fl 0 t1 1 H fun t12 =>
 p.bin .eql t12 (si 1) fun t14 =>
 Et (fun (t1 t3 : AV) (H : Ab) => p.fadr 4 t1 fun t51 =>
 p.load false 1 t51 H fun t52 =>
 p.ca 22 142 [t3, t52] H fun t53 H =>
 p.fl 22 t1 1 H fun t55 =>
 p.len t55 fun t56 =>
 K1 p n  k n t1 t53 t55 t56 i0 H) fun j1 =>
 p.cond t14
 (p.load true 25 t1 H fun t15 =>
 p.ca 22 139 [t15] H fun t16 H =>
 k t16 H)
 (p.bin .eql t12 (si 2) fun t18 =>
 p.cond t18
 (p.fadr 21 t1 fun t19 =>
 p.load false 1 t19 H fun t20 =>
 p.fl 20 t1 1 H fun t24 =>
 p.cvI .u8 t24 fun t25 =>
 p.ca 3 140 [t20, (si 1)] H fun t21 H =>
 p.cvI .u8 t21 fun t22 =>
 p.fill [(su 0), (su 0)] [(0, 1, t22), (1, 1, t25)] fun ct26 => p.newSl 2 1 ct26 true H fun t26 H =>
 k t26 H)
 (p.bin .eql t12 (si 3) fun t28 =>
 p.cond t28
 (p.fadr 5 t1 fun t30 =>
 p.load false 1 t30 H fun t31 =>
 p.ca 22 141 [.nl, t31] H fun t32 H =>
 p.fl 2 t1 1 H fun t34 =>
 p.bin .gtr t34 i0 fun t35 =>
 Et (fun (t1 t3 : AV) (H : Ab) => p.fadr 6 t1 fun t41 =>
 p.load false 1 t41 H fun t42 =>
 p.fill [.nl, .nl] [(0, 1, t3), (1, 1, t42)] fun ct43 => p.newSl 2 1 ct43 true H fun t43 H =>
 p.ca 22 77 [t43] H fun t44 H =>
 k t44 H) fun j2 =>
 p.cond t35
 (p.fadr 4 t1 fun t37 =>
 p.load false 1 t37 H fun t38 =>
 p.ca 22 142 [t32, t38] H fun t39 H =>
 j2 t1 t39 H)
 (j2 t1 t32 H))
 (p.bin .eql t12 (si 12) fun t46 =>
 Et (fun (t1 t3 t45 : AV) (H : Ab) => p.cond t45
 (k t3 H)
 (j1 t1 t3 H)) fun j3 =>
 p.cond t46
 (j3 t1 .nl t46 H)
 (p.bin .eql t12 (si 13) fun t47 =>
 p.cond t47
 (j3 t1 .nl t47 H)
 (p.bin .eql t12 (si 14) fun t48 =>
 j3 t1 .nl t48 H)))))
noncomputable def AcB (p : Pr β) (n : Nat)  (k : KO β) (m : Nat) (tm : Tm) (H : Ab) : Option β :=
 Dd 96 (fun tm H k => Ai As p Wx 96 n (cd Vb [1, 1, 1, 1, 1, 1, 0, 1, 0, 0]) tm H k) (Eg 5 (Dw (fun tm H => Ai As p Wx 96 n (cd Vb [1, 1, 1, 1, 1, 1, 1]) tm H (Cd As p fi111.results k)) (Cd As p fi111.results k))) m tm H
noncomputable def AcA (p : Pr β) (n : Nat)  (k : KO β) (m : Nat) (tm : Tm) (H : Ab) : Option β :=
 Dd 96 (fun tm H k => Ai As p Wx 96 n (cd Vb [1, 1, 1, 1, 1, 0, 1, 0, 0]) tm H k) (Eg 3 (Dw (fun tm H => Ai As p Wx 96 n (cd Vb [1, 1, 1, 1, 1, 1]) tm H (Cd As p fi111.results k)) (Cd As p fi111.results k))) m tm H
noncomputable def Ac9 (p : Pr β) (n : Nat)  (k : KO β) (m : Nat) (tm : Tm) (H : Ab) : Option β :=
 Dd 96 (fun tm H k => Ai As p Wx 96 n (cd Vb [1, 1, 1, 1, 0, 1, 0, 0]) tm H k) (Eg 1 (Dw (fun tm H => Ai As p Wx 96 n (cd Vb [1, 1, 1, 1, 1]) tm H (Cd As p fi111.results k)) (Cd As p fi111.results k))) m tm H
theorem Vo (p : Pr β) (n : Nat)  (k : KO β) (m2 : Nat) : ∀ (t : Nat → AV) (H : Ab), AcB p n  k m2 (tf 96 0 t) H = Nx p n  k m2 (t 3) (t 85) (t 86) (t 87) H := by
 induction m2 with
 | zero => intros; rfl
 | succ m2 ih =>
  intro t H
  refine Eq.trans (Bh (nt := 96) (m := m2) (g := fun t H => Nx p n  k m2 (t 3) (t 85) (t 86) (t 87) H) ih rfl) ?_
  kernel_rfl
theorem Zq (p : Pr β) (n : Nat)  (k : KO β) (m1 : Nat) (t : Nat → AV) (H : Ab) : Ai As p Wx 96 n (cd Vb [1, 1, 1, 1, 1, 0, 1, 0, 0]) (tf 96 0 t) H (Dw (fun tm H => K2 p n  k m1 (gt tm 1) (gt tm 3) (gt tm 72) (gt tm 73) (gt tm 74) H) (Eg 3 (Dw (fun tm H => Ai As p Wx 96 n (cd Vb [1, 1, 1, 1, 1, 1]) tm H (Cd As p fi111.results k)) (Cd As p fi111.results k)))) =
 p.bin .lss (t 74) (t 73) fun t75 =>
 p.cond t75
 (p.iadr 1 (t 72) (t 74) fun t76 =>
 p.load false 1 t76 H fun t77 =>
 p.cvI .u8 t77 fun t80 =>
 p.fill [(su 0)] [(0, 1, t80)] fun ct81 => p.newSl 1 1 ct81 true H fun t81 H =>
 p.app 1 1 (t 3) t81 H fun t82 H =>
 p.bin .add (t 74) (si 1) fun t83 =>
 K2 p n  k m1 (t 1) t82 (t 72) (t 73) t83 H)
 (p.fadr 23 (t 1) fun t84 =>
 p.load false 1 t84 H fun t85 =>
 p.len t85 fun t86 =>
 AcB p n  k n (tf 96 0 (ud [(75, t75), (84, t84), (85, t85), (86, t86), (87, i0)] t)) H) := by kernel_rfl
theorem Vn (p : Pr β) (n : Nat)  (k : KO β) (m1 : Nat) : ∀ (t : Nat → AV) (H : Ab), AcA p n  k m1 (tf 96 0 t) H = K2 p n  k m1 (t 1) (t 3) (t 72) (t 73) (t 74) H := by
 induction m1 with
 | zero => intros; rfl
 | succ m1 ih =>
  intro t H
  refine Eq.trans (Bh (nt := 96) (m := m1) (g := fun t H => K2 p n  k m1 (t 1) (t 3) (t 72) (t 73) (t 74) H) ih rfl) ?_
  refine Eq.trans (Zq p n  k m1 t H) ?_
  simp only [Vo]
  kernel_rfl
theorem Zp (p : Pr β) (n : Nat)  (k : KO β) (m0 : Nat) (t : Nat → AV) (H : Ab) : Ai As p Wx 96 n (cd Vb [1, 1, 1, 1, 0, 1, 0, 0]) (tf 96 0 t) H (Dw (fun tm H => K1 p n  k m0 (gt tm 1) (gt tm 3) (gt tm 55) (gt tm 56) (gt tm 57) H) (Eg 1 (Dw (fun tm H => Ai As p Wx 96 n (cd Vb [1, 1, 1, 1, 1]) tm H (Cd As p fi111.results k)) (Cd As p fi111.results k)))) =
 p.bin .lss (t 57) (t 56) fun t58 =>
 p.cond t58
 (p.iadr 2 (t 55) (t 57) fun t59 =>
 p.load true 2 t59 H fun t60 =>
 p.new [sE, i0] H fun t5 H =>
 p.store 2 t5 t60 H fun H =>
 p.fadr 0 t5 fun t62 =>
 p.load false 1 t62 H fun t63 =>
 p.fadr 1 t5 fun t65 =>
 p.load false 1 t65 H fun t66 =>
 p.cvI .u8 t66 fun t67 =>
 Et (fun (t : Nat → AV) (H : Ab) => p.bin .add (t 57) (si 1) fun t70 =>
 K1 p n  k m0 (t 1) (t 3) (t 55) (t 56) t70 H) fun j1 =>
 p.both
 (p.call 22 (.fn 141 [] []) [(t 3), t63] H fun t64 H =>
 p.fill [(su 0)] [(0, 1, t67)] fun ct68 => p.newSl 1 1 ct68 true H fun t68 H =>
 p.app 1 1 t64 t68 H fun t69 H =>
 j1 (ud [(3, t69), (5, t5), (58, t58), (59, t59), (60, t60), (61, (t 3)), (62, t62), (63, t63), (64, t64), (65, t65), (66, t66), (67, t67), (68, t68), (69, t69)] t) H)
 (p.fill [(su 0)] [(0, 1, t67)] fun ct68 => p.newSl 1 1 ct68 true H fun t68 H =>
 p.call 22 (.fn 141 [] []) [(t 3), t63] H fun t64 H =>
 p.app 1 1 t64 t68 H fun t69 H =>
 j1 (ud [(3, t69), (5, t5), (58, t58), (59, t59), (60, t60), (61, (t 3)), (62, t62), (63, t63), (64, t64), (65, t65), (66, t66), (67, t67), (68, t68), (69, t69)] t) H))
 (p.fadr 24 (t 1) fun t71 =>
 p.load false 1 t71 H fun t72 =>
 p.len t72 fun t73 =>
 AcA p n  k n (tf 96 0 (ud [(58, t58), (71, t71), (72, t72), (73, t73), (74, i0)] t)) H) := by kernel_rfl
theorem AbB (p : Pr β) (n : Nat)  (k : KO β) (m0 : Nat) : ∀ (t : Nat → AV) (H : Ab), Ac9 p n  k m0 (tf 96 0 t) H = K1 p n  k m0 (t 1) (t 3) (t 55) (t 56) (t 57) H := by
 induction m0 with
 | zero => intros; rfl
 | succ m0 ih =>
  intro t H
  refine Eq.trans (Bh (nt := 96) (m := m0) (g := fun t H => K1 p n  k m0 (t 1) (t 3) (t 55) (t 56) (t 57) H) ih rfl) ?_
  refine Eq.trans (Zp p n  k m0 t H) ?_
  simp only [Vn]
  kernel_rfl
theorem Afn (p : Pr β) (n : Nat) (a0 : AV) (H : Ab) (k : KO β) : B6 As p n fi111 [a0] H k =
 p.box a0 H fun t1 H =>
 p.fadr 0 t1 fun t11 =>
 p.load false 1 t11 H fun t12 =>
 p.bin .eql t12 (si 1) fun t14 =>
 Et (fun (t : Nat → AV) (H : Ab) => p.fadr 4 (t 1) fun t51 =>
 p.load false 1 t51 H fun t52 =>
 p.call 22 (.fn 142 [] []) [(t 3), t52] H fun t53 H =>
 p.fadr 22 (t 1) fun t54 =>
 p.load false 1 t54 H fun t55 =>
 p.len t55 fun t56 =>
 Ac9 p n  k n (tf 96 0 (ud [(3, t53), (50, (t 3)), (51, t51), (52, t52), (53, t53), (54, t54), (55, t55), (56, t56), (57, i0)] t)) H) fun j1 =>
 p.cond t14
 (p.load true 25 t1 H fun t15 =>
 p.call 22 (.fn 139 [] []) [t15] H fun t16 H =>
 k t16 H)
 (p.bin .eql t12 (si 2) fun t18 =>
 p.cond t18
 (p.fadr 21 t1 fun t19 =>
 p.load false 1 t19 H fun t20 =>
 p.fadr 20 t1 fun t23 =>
 p.load false 1 t23 H fun t24 =>
 p.cvI .u8 t24 fun t25 =>
 p.call 3 (.fn 140 [] []) [t20, (si 1)] H fun t21 H =>
 p.cvI .u8 t21 fun t22 =>
 p.fill [(su 0), (su 0)] [(0, 1, t22), (1, 1, t25)] fun ct26 => p.newSl 2 1 ct26 true H fun t26 H =>
 k t26 H)
 (p.bin .eql t12 (si 3) fun t28 =>
 p.cond t28
 (p.fadr 5 t1 fun t30 =>
 p.load false 1 t30 H fun t31 =>
 p.call 22 (.fn 141 [] []) [.nl, t31] H fun t32 H =>
 p.fadr 2 t1 fun t33 =>
 p.load false 1 t33 H fun t34 =>
 p.bin .gtr t34 i0 fun t35 =>
 Et (fun (t : Nat → AV) (H : Ab) => p.fadr 6 (t 1) fun t41 =>
 p.load false 1 t41 H fun t42 =>
 p.fill [.nl, .nl] [(0, 1, (t 3)), (1, 1, t42)] fun ct43 => p.newSl 2 1 ct43 true H fun t43 H =>
 p.call 22 (.fn 77 [] []) [t43] H fun t44 H =>
 k t44 H) fun j2 =>
 p.cond t35
 (p.fadr 4 t1 fun t37 =>
 p.load false 1 t37 H fun t38 =>
 p.call 22 (.fn 142 [] []) [t32, t38] H fun t39 H =>
 j2 (ud [(0, a0), (1, t1), (2, .nl), (3, t39), (10, .nl), (11, t11), (12, t12), (13, t14), (14, t14), (17, t18), (18, t18), (27, t28), (28, t28), (29, .nl), (30, t30), (31, t31), (32, t32), (33, t33), (34, t34), (35, t35), (36, t32), (37, t37), (38, t38), (39, t39)] ut) H)
 (j2 (ud [(0, a0), (1, t1), (2, .nl), (3, t32), (10, .nl), (11, t11), (12, t12), (13, t14), (14, t14), (17, t18), (18, t18), (27, t28), (28, t28), (29, .nl), (30, t30), (31, t31), (32, t32), (33, t33), (34, t34), (35, t35)] ut) H))
 (p.bin .eql t12 (si 12) fun t46 =>
 Et (fun (t : Nat → AV) (H : Ab) => p.cond (t 45)
 (k (t 3) H)
 (j1 t H)) fun j3 =>
 p.cond t46
 (j3 (ud [(0, a0), (1, t1), (2, .nl), (3, .nl), (10, .nl), (11, t11), (12, t12), (13, t14), (14, t14), (17, t18), (18, t18), (27, t28), (28, t28), (45, t46), (46, t46)] ut) H)
 (p.bin .eql t12 (si 13) fun t47 =>
 p.cond t47
 (j3 (ud [(0, a0), (1, t1), (2, .nl), (3, .nl), (10, .nl), (11, t11), (12, t12), (13, t14), (14, t14), (17, t18), (18, t18), (27, t28), (28, t28), (45, t47), (46, t46), (47, t47)] ut) H)
 (p.bin .eql t12 (si 14) fun t48 =>
 j3 (ud [(0, a0), (1, t1), (2, .nl), (3, .nl), (10, .nl), (11, t11), (12, t12), (13, t14), (14, t14), (17, t18), (18, t18), (27, t28), (28, t28), (45, t48), (46, t46), (47, t47), (48, t48)] ut) H))))) := by kernel_rfl
theorem AdB : Nm fi111 @f111 := fun p n a0 H k => by
 rw [Afn]
 simp only [Vo, Vn, AbB]
 kernel_rfl
noncomputable def f113 (n : Nat) (a0 : AV) (H : Ab) (k : KO β) : Option β :=
 p.box a0 H fun t1 H =>
 p.fl 0 t1 1 H fun t5 =>
 p.bin .mul (si 16) t5 fun t6 =>
 p.fl 0 t1 1 H fun t8 =>
 p.bin .eql t8 (si 3) fun t10 =>
 p.cond t10
 (p.fadr 1 t1 fun t12 =>
 p.load false 1 t12 H fun t13 =>
 p.fl 2 t1 1 H fun t16 =>
 p.bin .mul (si 2) t16 fun t17 =>
 p.fl 3 t1 1 H fun t20 =>
 p.ca 3 140 [t13, (si 8)] H fun t14 H =>
 p.bin .add t14 t17 fun t18 =>
 p.ca 3 140 [t20, (si 1)] H fun t21 H =>
 p.bin .add t18 t21 fun t22 =>
 p.bin .add t6 t22 fun t23 =>
 k t23 H)
 (p.bin .eql t8 (si 6) fun t25 =>
 Et (fun (t3 t24 : AV) (H : Ab) => p.cond t24
 (p.bin .add t3 (si 2) fun t29 =>
 k t29 H)
 (k t3 H)) fun j1 =>
 p.cond t25
 (j1 t6 t25 H)
 (p.bin .eql t8 (si 8) fun t26 =>
 p.cond t26
 (j1 t6 t26 H)
 (p.bin .eql t8 (si 10) fun t27 =>
 j1 t6 t27 H)))
theorem AdD : Nm Aki @f113 := fun p n a0 H k => by kernel_rfl
noncomputable def Ml (p : Pr β) (n : Nat)  (k : KO β) : Nat → AV → KO β
 | 0, _, _, _ => none
 | m + 1, t1, t5, H => p.bin .gtr t1 (si 127) fun t14 =>
   p.cond t14
   (p.bin .rem t1 (si 128) fun t17 =>
   p.bin .add t17 (si 128) fun t18 =>
   p.cvI .u8 t18 fun t19 =>
   p.fill [(su 0)] [(0, 1, t19)] fun ct20 => p.newSl 1 1 ct20 true H fun t20 H =>
   p.app 1 1 t5 t20 H fun t21 H =>
   p.bin .quo t1 (si 128) fun t23 =>
   Ml p n  k m t23 t21 H)
   (p.cvI .u8 t1 fun t26 =>
   p.fill [(su 0)] [(0, 1, t26)] fun ct27 => p.newSl 1 1 ct27 true H fun t27 H =>
   p.app 1 1 t5 t27 H fun t28 H =>
   k t28 H)
noncomputable def f112 (n : Nat) (a0 a1 : AV) (H : Ab) (k : KO β) : Option β :=
 p.fill [.nl] [(0, 1, a0)] fun ct7 => p.newSl 1 1 ct7 true H fun t7 H =>
 p.ca 22 77 [t7] H fun t8 H =>
 p.ca 4 98 [a1, i0, (si 268435455)] H fun t10 H =>
 p.un .not t10 fun t11 =>
 p.cond t11
 (k t8 H)
 (Ml p n  k n a1 t8 H)
noncomputable def AcC (p : Pr β) (n : Nat)  (k : KO β) (m : Nat) (tm : Tm) (H : Ab) : Option β :=
 Dd 29 (fun tm H k => Ai As p [] 29 n (cd AkE [1, 1, 1, 0, 0, 0]) tm H k) (Eg 0 (Dw (fun tm H => Ai As p [] 29 n (cd AkE [1, 1, 1, 1]) tm H (Cd As p fi112.results k)) (Cd As p fi112.results k))) m tm H
theorem AbC (p : Pr β) (n : Nat)  (k : KO β) (m0 : Nat) : ∀ (t : Nat → AV) (H : Ab), AcC p n  k m0 (tf 29 0 t) H = Ml p n  k m0 (t 1) (t 5) H := by
 induction m0 with
 | zero => intros; rfl
 | succ m0 ih =>
  intro t H
  refine Eq.trans (Bh (nt := 29) (m := m0) (g := fun t H => Ml p n  k m0 (t 1) (t 5) H) ih rfl) ?_
  kernel_rfl
theorem Afo (p : Pr β) (n : Nat) (a0 a1 : AV) (H : Ab) (k : KO β) : B6 As p n fi112 [a0, a1] H k =
 p.fill [.nl] [(0, 1, a0)] fun ct7 => p.newSl 1 1 ct7 true H fun t7 H =>
 p.call 22 (.fn 77 [] []) [t7] H fun t8 H =>
 p.call 4 (.fn 98 [] []) [a1, i0, (si 268435455)] H fun t10 H =>
 p.un .not t10 fun t11 =>
 p.cond t11
 (k t8 H)
 (AcC p n  k n (tf 29 0 (ud [(0, a0), (1, a1), (4, .nl), (5, t8), (6, a0), (7, t7), (8, t8), (9, a1), (10, t10), (11, t11)] ut)) H) := by kernel_rfl
theorem AdC : Le fi112 @f112 := fun p n a0 a1 H k => by
 rw [Afo]
 simp only [AbC]
 kernel_rfl
noncomputable def f72 (n : Nat) (a0 : AV) (H : Ab) (k : KO β) : Option β :=
 p.box a0 H fun t1 H =>
 p.load true 25 t1 H fun t4 =>
 p.ca 4 70 [t4] H fun t5 H =>
 p.un .not t5 fun t6 =>
 p.cond t6
 (k .nl H)
 (p.load true 25 t1 H fun t7 =>
 p.ca 22 111 [t7] H fun t8 H =>
 p.load true 25 t1 H fun t9 =>
 p.ca 3 113 [t9] H fun t10 H =>
 p.cvI .u8 t10 fun t11 =>
 p.fill [(su 0)] [(0, 1, t11)] fun ct12 => p.newSl 1 1 ct12 true H fun t12 H =>
 p.len t8 fun t14 =>
 p.ca 22 112 [t12, t14] H fun t15 H =>
 p.fill [.nl, .nl] [(0, 1, t15), (1, 1, t8)] fun ct17 => p.newSl 2 1 ct17 true H fun t17 H =>
 p.ca 22 77 [t17] H fun t18 H =>
 k t18 H)
theorem Agm : Nm Am0 @f72 := fun p n a0 H k => by kernel_rfl
noncomputable def f33 (n : Nat) (a0 : AV) (H : Ab) (k : KO β) : Option β :=
 p.new Ek H fun t2 H =>
 p.len a0 fun t10 =>
 p.bin .eql t10 i0 fun t11 =>
 p.cond t11
 (p.fill Ek [] fun ct12 =>
 p.store 25 t2 (.agg ct12) H fun H =>
 p.load true 25 t2 H fun r0 =>
 k (C2 [r0, i0, (si 1)]) H)
 (p.iadr 1 a0 i0 fun t14 =>
 p.load false 1 t14 H fun t15 =>
 p.cvI .i64 t15 fun t16 =>
 p.ca 4 67 [t16] H fun t17 H =>
 p.un .not t17 fun t18 =>
 p.cond t18
 (p.fill Ek [] fun ct19 =>
 p.store 25 t2 (.agg ct19) H fun H =>
 p.load true 25 t2 H fun r0 =>
 k (C2 [r0, i0, (si 2)]) H)
 (p.ca 85 68 [a0, (si 1)] H fun t22 H =>
 p.extr t22 0 fun t23 =>
 p.extr t22 1 fun t24 =>
 p.extr t22 2 fun t25 =>
 p.bin .neq t25 i0 fun t28 =>
 p.cond t28
 (p.fill Ek [] fun ct29 =>
 p.store 25 t2 (.agg ct29) H fun H =>
 p.load true 25 t2 H fun r0 =>
 k (C2 [r0, i0, t25]) H)
 (p.bin .gtr t23 (si 340) fun t33 =>
 p.cond t33
 (p.fill Ek [] fun ct34 =>
 p.store 25 t2 (.agg ct34) H fun H =>
 p.load true 25 t2 H fun r0 =>
 k (C2 [r0, i0, (si 2)]) H)
 (p.len a0 fun t38 =>
 p.bin .sub t38 t24 fun t40 =>
 p.bin .gtr t23 t40 fun t41 =>
 p.cond t41
 (p.fill Ek [] fun ct42 =>
 p.store 25 t2 (.agg ct42) H fun H =>
 p.load true 25 t2 H fun r0 =>
 k (C2 [r0, i0, (si 1)]) H)
 (p.iadr 1 a0 i0 fun t44 =>
 p.load false 1 t44 H fun t45 =>
 p.cvI .i64 t45 fun t46 =>
 p.bin .add t24 t23 fun t51 =>
 p.slice 1 a0 (some t24) (some t51) fun t52 =>
 Et (fun (t0 t2 t5 t6 t8 : AV) (H : Ab) => p.load true 25 t8 H fun t54 =>
 p.ca 4 70 [t54] H fun t55 H =>
 p.un .not t55 fun t56 =>
 p.gF t56 H (p.load true 25 t8 H) fun t58 H =>
 p.kF t56 H t0 fun t60 H =>
 p.kF t56 H t6 fun t61 H =>
 p.kF t56 H t5 fun t62 H =>
 p.gF t56 H (p.bin .add t61 t62) fun t63 H =>
 p.gF t56 H (p.slice 1 t60 none (some t63)) fun t64 H =>
 p.hF t56 H (p.ca 22 72 [t58] H) fun t59 H =>
 p.hF t56 H (p.ca 4 71 [t59, t64] H) fun t65 H =>
 p.gF t56 H (p.un .not t65) fun t66 H =>
 p.pick t56 bT t66 fun t67 =>
 p.cond t67
 (p.fill Ek [] fun ct68 =>
 p.store 25 t2 (.agg ct68) H fun H =>
 p.load true 25 t2 H fun r0 =>
 k (C2 [r0, i0, (si 2)]) H)
 (p.load true 25 t8 H fun t69 =>
 p.bin .add t6 t5 fun t72 =>
 p.store 25 t2 t69 H fun H =>
 p.load true 25 t2 H fun r0 =>
 k (C2 [r0, t72, i0]) H)) fun j1 =>
 p.both
 (p.ca 59 69 [t46, t52] H fun t53 H =>
 p.new Ek H fun t8 H =>
 p.store 25 t8 t53 H fun H =>
 j1 a0 t2 t23 t24 t8 H)
 (p.new Ek H fun t8 H =>
 p.ca 59 69 [t46, t52] H fun t53 H =>
 p.store 25 t8 t53 H fun H =>
 j1 a0 t2 t23 t24 t8 H))))))
theorem Af6 : Nm Amr @f33 := fun p n a0 H k => by kernel_rfl
noncomputable def S5 (p : Pr β) (n : Nat)  (k : KO β) : Nat → AV → AV → KO β
 | 0, _, _, _, _ => none
 | m + 1, t0, t5, t6, H => p.len t0 fun t13 =>
   p.bin .lss t6 t13 fun t14 =>
   p.cond t14
   (p.slice 1 t0 (some t6) none fun t18 =>
   p.ca 60 33 [t18] H fun t19 H =>
   p.extr t19 0 fun t20 =>
   p.extr t19 1 fun t21 =>
   p.extr t19 2 fun t22 =>
   p.new Ek H fun t7 H =>
   p.store 25 t7 t20 H fun H =>
   p.bin .neq t22 i0 fun t24 =>
   p.cond t24
   (k (C2 [t5, t22, t6]) H)
   (p.load true 25 t7 H fun t29 =>
   p.fill Ek [(0, 25, t29)] fun ct30 => p.newSl 1 25 ct30 true H fun t30 H =>
   p.app 25 320 t5 t30 H fun t31 H =>
   p.bin .add t6 t21 fun t34 =>
   S5 p n  k m t0 t31 t34 H))
   (k (C2 [t5, i0, t6]) H)
noncomputable def f76 (n : Nat) (a0 : AV) (H : Ab) (k : KO β) : Option β :=
 S5 p n  k n a0 .nl i0 H
noncomputable def Agt (p : Pr β) (n : Nat)  (k : KO β) (m : Nat) (tm : Tm) (H : Ab) : Option β :=
 Dd 37 (fun tm H k => Ai As p [] 37 n (cd c76 [1, 1, 1, 0, 0, 0]) tm H k) (Eg 0 (Dw (fun tm H => Ai As p [] 37 n (cd c76 [1, 1, 1, 1]) tm H (Cd As p fi76.results k)) (Cd As p fi76.results k))) m tm H
theorem Aez (p : Pr β) (n : Nat)  (k : KO β) (m0 : Nat) : ∀ (t : Nat → AV) (H : Ab), Agt p n  k m0 (tf 37 0 t) H = S5 p n  k m0 (t 0) (t 5) (t 6) H := by
 induction m0 with
 | zero => intros; rfl
 | succ m0 ih =>
  intro t H
  refine Eq.trans (Bh (nt := 37) (m := m0) (g := fun t H => S5 p n  k m0 (t 0) (t 5) (t 6) H) ih rfl) ?_
  kernel_rfl
theorem AiS (p : Pr β) (n : Nat) (a0 : AV) (H : Ab) (k : KO β) : B6 As p n fi76 [a0] H k =
 Agt p n  k n (tf 37 0 (ud [(0, a0), (2, .nl), (3, i0), (4, i0), (5, .nl), (6, i0), (10, .nl)] ut)) H := by kernel_rfl
theorem Agu : Nm fi76 @f76 := fun p n a0 H k => by
 rw [AiS]
 simp only [Aez]
 kernel_rfl
noncomputable def f40 (n : Nat) (a0 : AV) (H : Ab) (k : KO β) : Option β :=
 p.call 93 (.fn 76 [] []) [a0] H fun t9 H =>
 p.extr t9 0 fun t10 =>
 p.extr t9 1 fun t11 =>
 p.extr t9 2 fun t12 =>
 k (C2 [t10, t11]) H
theorem AfE : Nm Amt @f40 := fun p n a0 H k => by kernel_rfl
noncomputable def Vt (p : Pr β) (n : Nat)  (k : KO β) : Nat → AV → AV → KO β
 | 0, _, _, _, _ => none
 | m + 1, t0, t1, t5, H => p.len t0 fun t13 =>
   p.bin .lss t5 t13 fun t14 =>
   p.cond t14
   (p.iadr 1 t0 t5 fun t19 =>
   p.load false 1 t19 H fun t20 =>
   p.iadr 1 t1 t5 fun t23 =>
   p.load false 1 t23 H fun t24 =>
   p.bin .neq t20 t24 fun t25 =>
   p.cond t25
   (k bF H)
   (p.bin .add t5 (si 1) fun t16 =>
   Vt p n  k m t0 t1 t16 H))
   (k bT H)
noncomputable def f35 (n : Nat) (a0 a1 : AV) (H : Ab) (k : KO β) : Option β :=
 p.len a0 fun t7 =>
 p.len a1 fun t9 =>
 p.bin .neq t7 t9 fun t10 =>
 p.cond t10
 (k bF H)
 (Vt p n  k n a0 a1 i0 H)
noncomputable def Af8 (p : Pr β) (n : Nat)  (k : KO β) (m : Nat) (tm : Tm) (H : Ab) : Option β :=
 Dd 26 (fun tm H k => Ai As p o35 26 n (cd c35 [1, 1, 0, 1, 0, 0]) tm H k) (Eg 0 (Dw (fun tm H => Ai As p o35 26 n (cd c35 [1, 1, 1]) tm H (Cd As p fi35.results k)) (Cd As p fi35.results k))) m tm H
theorem Aee (p : Pr β) (n : Nat)  (k : KO β) (m0 : Nat) : ∀ (t : Nat → AV) (H : Ab), Af8 p n  k m0 (tf 26 0 t) H = Vt p n  k m0 (t 0) (t 1) (t 5) H := by
 induction m0 with
 | zero => intros; rfl
 | succ m0 ih =>
  intro t H
  refine Eq.trans (Bh (nt := 26) (m := m0) (g := fun t H => Vt p n  k m0 (t 0) (t 1) (t 5) H) ih rfl) ?_
  kernel_rfl
theorem Ai9 (p : Pr β) (n : Nat) (a0 a1 : AV) (H : Ab) (k : KO β) : B6 As p n fi35 [a0, a1] H k =
 p.len a0 fun t7 =>
 p.len a1 fun t9 =>
 p.bin .neq t7 t9 fun t10 =>
 p.cond t10
 (k bF H)
 (Af8 p n  k n (tf 26 0 (ud [(0, a0), (1, a1), (4, bF), (5, i0), (6, a0), (7, t7), (8, a1), (9, t9), (10, t10)] ut)) H) := by kernel_rfl
theorem Af9 : Le fi35 @f35 := fun p n a0 a1 H k => by
 rw [Ai9]
 simp only [Aee]
 kernel_rfl
noncomputable def f114 (n : Nat) (a0 a1 : AV) (H : Ab) (k : KO β) : Option β :=
 p.box a0 H fun t2 H =>
 p.box a1 H fun t3 H =>
 p.fadr 0 t2 fun t5 =>
 p.load false 1 t5 H fun t6 =>
 p.fadr 0 t3 fun t7 =>
 p.load false 1 t7 H fun t8 =>
 p.bin .neq t6 t8 fun t9 =>
 p.cond t9
 (k bF H)
 (p.fadr 1 t2 fun t10 =>
 p.load false 1 t10 H fun t11 =>
 p.fadr 1 t3 fun t12 =>
 p.load false 1 t12 H fun t13 =>
 p.bin .neq t11 t13 fun t14 =>
 p.cond t14
 (k bF H)
 (k bT H))
theorem AdE : Le Akj @f114 := fun p n a0 a1 H k => by kernel_rfl
noncomputable def V4 (p : Pr β) (n : Nat)  (k : KO β) : Nat → AV → AV → KO β
 | 0, _, _, _, _ => none
 | m + 1, t0, t1, t5, H => p.len t0 fun t13 =>
   p.bin .lss t5 t13 fun t14 =>
   p.cond t14
   (p.iadr 2 t0 t5 fun t19 =>
   p.load true 2 t19 H fun t20 =>
   p.iadr 2 t1 t5 fun t23 =>
   p.load true 2 t23 H fun t24 =>
   p.call 4 (.fn 114 [] []) [t20, t24] H fun t25 H =>
   p.un .not t25 fun t26 =>
   p.cond t26
   (k bF H)
   (p.bin .add t5 (si 1) fun t16 =>
   V4 p n  k m t0 t1 t16 H))
   (k bT H)
noncomputable def f73 (n : Nat) (a0 a1 : AV) (H : Ab) (k : KO β) : Option β :=
 p.len a0 fun t7 =>
 p.len a1 fun t9 =>
 p.bin .neq t7 t9 fun t10 =>
 p.cond t10
 (k bF H)
 (V4 p n  k n a0 a1 i0 H)
noncomputable def Agn (p : Pr β) (n : Nat)  (k : KO β) (m : Nat) (tm : Tm) (H : Ab) : Option β :=
 Dd 27 (fun tm H k => Ai As p o73 27 n (cd c73 [1, 1, 0, 1, 0, 0]) tm H k) (Eg 0 (Dw (fun tm H => Ai As p o73 27 n (cd c73 [1, 1, 1]) tm H (Cd As p fi73.results k)) (Cd As p fi73.results k))) m tm H
theorem Aew (p : Pr β) (n : Nat)  (k : KO β) (m0 : Nat) : ∀ (t : Nat → AV) (H : Ab), Agn p n  k m0 (tf 27 0 t) H = V4 p n  k m0 (t 0) (t 1) (t 5) H := by
 induction m0 with
 | zero => intros; rfl
 | succ m0 ih =>
  intro t H
  refine Eq.trans (Bh (nt := 27) (m := m0) (g := fun t H => V4 p n  k m0 (t 0) (t 1) (t 5) H) ih rfl) ?_
  kernel_rfl
theorem AiP (p : Pr β) (n : Nat) (a0 a1 : AV) (H : Ab) (k : KO β) : B6 As p n fi73 [a0, a1] H k =
 p.len a0 fun t7 =>
 p.len a1 fun t9 =>
 p.bin .neq t7 t9 fun t10 =>
 p.cond t10
 (k bF H)
 (Agn p n  k n (tf 27 0 (ud [(0, a0), (1, a1), (4, bF), (5, i0), (6, a0), (7, t7), (8, a1), (9, t9), (10, t10)] ut)) H) := by kernel_rfl
theorem Ago : Le fi73 @f73 := fun p n a0 a1 H k => by
 rw [AiP]
 simp only [Aew]
 kernel_rfl
noncomputable def V5 (p : Pr β) (n : Nat)  (k : KO β) : Nat → AV → AV → KO β
 | 0, _, _, _, _ => none
 | m + 1, t0, t1, t5, H => p.len t0 fun t13 =>
   p.bin .lss t5 t13 fun t14 =>
   p.cond t14
   (p.iadr 1 t0 t5 fun t19 =>
   p.load false 1 t19 H fun t20 =>
   p.iadr 1 t1 t5 fun t23 =>
   p.load false 1 t23 H fun t24 =>
   p.bin .neq t20 t24 fun t25 =>
   p.cond t25
   (k bF H)
   (p.bin .add t5 (si 1) fun t16 =>
   V5 p n  k m t0 t1 t16 H))
   (k bT H)
noncomputable def f74 (n : Nat) (a0 a1 : AV) (H : Ab) (k : KO β) : Option β :=
 p.len a0 fun t7 =>
 p.len a1 fun t9 =>
 p.bin .neq t7 t9 fun t10 =>
 p.cond t10
 (k bF H)
 (V5 p n  k n a0 a1 i0 H)
noncomputable def Agp (p : Pr β) (n : Nat)  (k : KO β) (m : Nat) (tm : Tm) (H : Ab) : Option β :=
 Dd 26 (fun tm H k => Ai As p o74 26 n (cd c74 [1, 1, 0, 1, 0, 0]) tm H k) (Eg 0 (Dw (fun tm H => Ai As p o74 26 n (cd c74 [1, 1, 1]) tm H (Cd As p fi74.results k)) (Cd As p fi74.results k))) m tm H
theorem Aex (p : Pr β) (n : Nat)  (k : KO β) (m0 : Nat) : ∀ (t : Nat → AV) (H : Ab), Agp p n  k m0 (tf 26 0 t) H = V5 p n  k m0 (t 0) (t 1) (t 5) H := by
 induction m0 with
 | zero => intros; rfl
 | succ m0 ih =>
  intro t H
  refine Eq.trans (Bh (nt := 26) (m := m0) (g := fun t H => V5 p n  k m0 (t 0) (t 1) (t 5) H) ih rfl) ?_
  kernel_rfl
theorem AiQ (p : Pr β) (n : Nat) (a0 a1 : AV) (H : Ab) (k : KO β) : B6 As p n fi74 [a0, a1] H k =
 p.len a0 fun t7 =>
 p.len a1 fun t9 =>
 p.bin .neq t7 t9 fun t10 =>
 p.cond t10
 (k bF H)
 (Agp p n  k n (tf 26 0 (ud [(0, a0), (1, a1), (4, bF), (5, i0), (6, a0), (7, t7), (8, a1), (9, t9), (10, t10)] ut)) H) := by kernel_rfl
theorem Agq : Le fi74 @f74 := fun p n a0 a1 H k => by
 rw [AiQ]
 simp only [Aex]
 kernel_rfl
noncomputable def V6 (p : Pr β) (n : Nat)  (k : KO β) : Nat → AV → AV → KO β
 | 0, _, _, _, _ => none
 | m + 1, t0, t1, t5, H => p.len t0 fun t13 =>
   p.bin .lss t5 t13 fun t14 =>
   p.cond t14
   (p.iadr 1 t0 t5 fun t19 =>
   p.load false 1 t19 H fun t20 =>
   p.iadr 1 t1 t5 fun t23 =>
   p.load false 1 t23 H fun t24 =>
   p.bin .neq t20 t24 fun t25 =>
   p.cond t25
   (k bF H)
   (p.bin .add t5 (si 1) fun t16 =>
   V6 p n  k m t0 t1 t16 H))
   (k bT H)
noncomputable def f75 (n : Nat) (a0 a1 : AV) (H : Ab) (k : KO β) : Option β :=
 p.len a0 fun t7 =>
 p.len a1 fun t9 =>
 p.bin .neq t7 t9 fun t10 =>
 p.cond t10
 (k bF H)
 (V6 p n  k n a0 a1 i0 H)
noncomputable def Agr (p : Pr β) (n : Nat)  (k : KO β) (m : Nat) (tm : Tm) (H : Ab) : Option β :=
 Dd 26 (fun tm H k => Ai As p o75 26 n (cd c75 [1, 1, 0, 1, 0, 0]) tm H k) (Eg 0 (Dw (fun tm H => Ai As p o75 26 n (cd c75 [1, 1, 1]) tm H (Cd As p fi75.results k)) (Cd As p fi75.results k))) m tm H
theorem Aey (p : Pr β) (n : Nat)  (k : KO β) (m0 : Nat) : ∀ (t : Nat → AV) (H : Ab), Agr p n  k m0 (tf 26 0 t) H = V6 p n  k m0 (t 0) (t 1) (t 5) H := by
 induction m0 with
 | zero => intros; rfl
 | succ m0 ih =>
  intro t H
  refine Eq.trans (Bh (nt := 26) (m := m0) (g := fun t H => V6 p n  k m0 (t 0) (t 1) (t 5) H) ih rfl) ?_
  kernel_rfl
theorem AiR (p : Pr β) (n : Nat) (a0 a1 : AV) (H : Ab) (k : KO β) : B6 As p n fi75 [a0, a1] H k =
 p.len a0 fun t7 =>
 p.len a1 fun t9 =>
 p.bin .neq t7 t9 fun t10 =>
 p.cond t10
 (k bF H)
 (Agr p n  k n (tf 26 0 (ud [(0, a0), (1, a1), (4, bF), (5, i0), (6, a0), (7, t7), (8, a1), (9, t9), (10, t10)] ut)) H) := by kernel_rfl
theorem Ags : Le fi75 @f75 := fun p n a0 a1 H k => by
 rw [AiR]
 simp only [Aey]
 kernel_rfl
noncomputable def f34 (n : Nat) (a0 a1 : AV) (H : Ab) (k : KO β) : Option β :=
 p.box a0 H fun t2 H =>
 p.box a1 H fun t3 H =>
 p.fadr 0 t2 fun t5 =>
 p.load false 1 t5 H fun t6 =>
 p.fadr 0 t3 fun t7 =>
 p.load false 1 t7 H fun t8 =>
 p.bin .neq t6 t8 fun t9 =>
 p.cond t9
 (k bF H)
 (p.fadr 1 t2 fun t10 =>
 p.load false 1 t10 H fun t11 =>
 p.fadr 1 t3 fun t12 =>
 p.load false 1 t12 H fun t13 =>
 p.binB .neq t11 t13 fun t14 =>
 p.cond t14
 (k bF H)
 (p.fadr 2 t2 fun t15 =>
 p.load false 1 t15 H fun t16 =>
 p.fadr 2 t3 fun t17 =>
 p.load false 1 t17 H fun t18 =>
 p.bin .neq t16 t18 fun t19 =>
 p.cond t19
 (k bF H)
 (p.fadr 3 t2 fun t20 =>
 p.load false 1 t20 H fun t21 =>
 p.fadr 3 t3 fun t22 =>
 p.load false 1 t22 H fun t23 =>
 p.binB .neq t21 t23 fun t24 =>
 p.cond t24
 (k bF H)
 (p.fadr 4 t2 fun t25 =>
 p.load false 1 t25 H fun t26 =>
 p.fadr 4 t3 fun t27 =>
 p.load false 1 t27 H fun t28 =>
 p.bin .neq t26 t28 fun t29 =>
 p.cond t29
 (k bF H)
 (p.fadr 5 t2 fun t30 =>
 p.load false 1 t30 H fun t31 =>
 p.fadr 5 t3 fun t32 =>
 p.load false 1 t32 H fun t33 =>
 p.bin .neq t31 t33 fun t34 =>
 p.cond t34
 (k bF H)
 (p.fadr 6 t2 fun t35 =>
 p.load false 1 t35 H fun t36 =>
 p.fadr 6 t3 fun t37 =>
 p.load false 1 t37 H fun t38 =>
 p.call 4 (.fn 35 [] []) [t36, t38] H fun t39 H =>
 p.un .not t39 fun t40 =>
 p.cond t40
 (k bF H)
 (p.fadr 7 t2 fun t41 =>
 p.load false 1 t41 H fun t42 =>
 p.fadr 7 t3 fun t43 =>
 p.load false 1 t43 H fun t44 =>
 p.bin .neq t42 t44 fun t45 =>
 p.cond t45
 (k bF H)
 (p.fadr 8 t2 fun t46 =>
 p.load false 1 t46 H fun t47 =>
 p.fadr 8 t3 fun t48 =>
 p.load false 1 t48 H fun t49 =>
 p.bin .neq t47 t49 fun t50 =>
 p.cond t50
 (k bF H)
 (p.fadr 9 t2 fun t51 =>
 p.load false 1 t51 H fun t52 =>
 p.fadr 9 t3 fun t53 =>
 p.load false 1 t53 H fun t54 =>
 p.binB .neq t52 t54 fun t55 =>
 p.cond t55
 (k bF H)
 (p.fadr 10 t2 fun t56 =>
 p.load false 1 t56 H fun t57 =>
 p.fadr 10 t3 fun t58 =>
 p.load false 1 t58 H fun t59 =>
 p.bin .neq t57 t59 fun t60 =>
 p.cond t60
 (k bF H)
 (p.fadr 11 t2 fun t61 =>
 p.load false 1 t61 H fun t62 =>
 p.fadr 11 t3 fun t63 =>
 p.load false 1 t63 H fun t64 =>
 p.binB .neq t62 t64 fun t65 =>
 p.cond t65
 (k bF H)
 (p.fadr 12 t2 fun t66 =>
 p.load false 1 t66 H fun t67 =>
 p.fadr 12 t3 fun t68 =>
 p.load false 1 t68 H fun t69 =>
 p.bin .neq t67 t69 fun t70 =>
 p.cond t70
 (k bF H)
 (p.fadr 13 t2 fun t71 =>
 p.load false 1 t71 H fun t72 =>
 p.fadr 13 t3 fun t73 =>
 p.load false 1 t73 H fun t74 =>
 p.call 4 (.fn 35 [] []) [t72, t74] H fun t75 H =>
 p.un .not t75 fun t76 =>
 p.cond t76
 (k bF H)
 (p.fadr 14 t2 fun t77 =>
 p.load false 1 t77 H fun t78 =>
 p.fadr 14 t3 fun t79 =>
 p.load false 1 t79 H fun t80 =>
 p.bin .neq t78 t80 fun t81 =>
 p.cond t81
 (k bF H)
 (p.fadr 15 t2 fun t82 =>
 p.load false 1 t82 H fun t83 =>
 p.fadr 15 t3 fun t84 =>
 p.load false 1 t84 H fun t85 =>
 p.binB .neq t83 t85 fun t86 =>
 p.cond t86
 (k bF H)
 (p.fadr 16 t2 fun t87 =>
 p.load false 1 t87 H fun t88 =>
 p.fadr 16 t3 fun t89 =>
 p.load false 1 t89 H fun t90 =>
 p.binB .neq t88 t90 fun t91 =>
 p.cond t91
 (k bF H)
 (p.fadr 17 t2 fun t92 =>
 p.load false 1 t92 H fun t93 =>
 p.fadr 17 t3 fun t94 =>
 p.load false 1 t94 H fun t95 =>
 p.bin .neq t93 t95 fun t96 =>
 p.cond t96
 (k bF H)
 (p.fadr 18 t2 fun t97 =>
 p.load false 1 t97 H fun t98 =>
 p.fadr 18 t3 fun t99 =>
 p.load false 1 t99 H fun t100 =>
 p.binB .neq t98 t100 fun t101 =>
 p.cond t101
 (k bF H)
 (p.fadr 19 t2 fun t102 =>
 p.load false 1 t102 H fun t103 =>
 p.fadr 19 t3 fun t104 =>
 p.load false 1 t104 H fun t105 =>
 p.call 4 (.fn 35 [] []) [t103, t105] H fun t106 H =>
 p.un .not t106 fun t107 =>
 p.cond t107
 (k bF H)
 (p.fadr 20 t2 fun t108 =>
 p.load false 1 t108 H fun t109 =>
 p.fadr 20 t3 fun t110 =>
 p.load false 1 t110 H fun t111 =>
 p.bin .neq t109 t111 fun t112 =>
 p.cond t112
 (k bF H)
 (p.fadr 21 t2 fun t113 =>
 p.load false 1 t113 H fun t114 =>
 p.fadr 21 t3 fun t115 =>
 p.load false 1 t115 H fun t116 =>
 p.binB .neq t114 t116 fun t117 =>
 p.cond t117
 (k bF H)
 (p.fadr 22 t2 fun t118 =>
 p.load false 1 t118 H fun t119 =>
 p.fadr 22 t3 fun t120 =>
 p.load false 1 t120 H fun t121 =>
 p.call 4 (.fn 73 [] []) [t119, t121] H fun t122 H =>
 p.un .not t122 fun t123 =>
 p.cond t123
 (k bF H)
 (p.fadr 23 t2 fun t124 =>
 p.load false 1 t124 H fun t125 =>
 p.fadr 23 t3 fun t126 =>
 p.load false 1 t126 H fun t127 =>
 p.call 4 (.fn 74 [] []) [t125, t127] H fun t128 H =>
 p.un .not t128 fun t129 =>
 p.cond t129
 (k bF H)
 (p.fadr 24 t2 fun t130 =>
 p.load false 1 t130 H fun t131 =>
 p.fadr 24 t3 fun t132 =>
 p.load false 1 t132 H fun t133 =>
 p.call 4 (.fn 75 [] []) [t131, t133] H fun t134 H =>
 p.un .not t134 fun t135 =>
 p.cond t135
 (k bF H)
 (k bT H)))))))))))))))))))))))))
theorem Af7 : Le Ams @f34 := fun p n a0 a1 H k => by kernel_rfl
noncomputable def Vp (p : Pr β) (n : Nat)  (k : KO β) : Nat → AV → AV → KO β
 | 0, _, _, _, _ => none
 | m + 1, t0, t1, t5, H => p.len t0 fun t13 =>
   p.bin .lss t5 t13 fun t14 =>
   p.cond t14
   (p.iadr 25 t0 t5 fun t19 =>
   p.load true 25 t19 H fun t20 =>
   p.iadr 25 t1 t5 fun t23 =>
   p.load true 25 t23 H fun t24 =>
   p.call 4 (.fn 34 [] []) [t20, t24] H fun t25 H =>
   p.un .not t25 fun t26 =>
   p.cond t26
   (k bF H)
   (p.bin .add t5 (si 1) fun t16 =>
   Vp p n  k m t0 t1 t16 H))
   (k bT H)
noncomputable def f22 (n : Nat) (a0 a1 : AV) (H : Ab) (k : KO β) : Option β :=
 p.len a0 fun t7 =>
 p.len a1 fun t9 =>
 p.bin .neq t7 t9 fun t10 =>
 p.cond t10
 (k bF H)
 (Vp p n  k n a0 a1 i0 H)
noncomputable def Afx (p : Pr β) (n : Nat)  (k : KO β) (m : Nat) (tm : Tm) (H : Ab) : Option β :=
 Dd 27 (fun tm H k => Ai As p o22 27 n (cd c22 [1, 1, 0, 1, 0, 0]) tm H k) (Eg 0 (Dw (fun tm H => Ai As p o22 27 n (cd c22 [1, 1, 1]) tm H (Cd As p fi22.results k)) (Cd As p fi22.results k))) m tm H
theorem Aea (p : Pr β) (n : Nat)  (k : KO β) (m0 : Nat) : ∀ (t : Nat → AV) (H : Ab), Afx p n  k m0 (tf 27 0 t) H = Vp p n  k m0 (t 0) (t 1) (t 5) H := by
 induction m0 with
 | zero => intros; rfl
 | succ m0 ih =>
  intro t H
  refine Eq.trans (Bh (nt := 27) (m := m0) (g := fun t H => Vp p n  k m0 (t 0) (t 1) (t 5) H) ih rfl) ?_
  kernel_rfl
theorem Ai5 (p : Pr β) (n : Nat) (a0 a1 : AV) (H : Ab) (k : KO β) : B6 As p n fi22 [a0, a1] H k =
 p.len a0 fun t7 =>
 p.len a1 fun t9 =>
 p.bin .neq t7 t9 fun t10 =>
 p.cond t10
 (k bF H)
 (Afx p n  k n (tf 27 0 (ud [(0, a0), (1, a1), (4, bF), (5, i0), (6, a0), (7, t7), (8, a1), (9, t9), (10, t10)] ut)) H) := by kernel_rfl
theorem Afy : Le fi22 @f22 := fun p n a0 a1 H k => by
 rw [Ai5]
 simp only [Aea]
 kernel_rfl
noncomputable def Vu (p : Pr β) (n : Nat)  (k : KO β) : Nat → AV → AV → KO β
 | 0, _, _, _, _ => none
 | m + 1, t0, t1, t5, H => p.len t0 fun t8 =>
   p.bin .lss t5 t8 fun t9 =>
   p.cond t9
   (p.cvI .u8 t1 fun t15 =>
   p.iadr 1 t0 t5 fun t16 =>
   p.store 1 t16 t15 H fun H =>
   p.bin .add t1 (si 1) fun t18 =>
   p.bin .add t5 (si 1) fun t11 =>
   Vu p n  k m t0 t18 t11 H)
   (k t1 H)
noncomputable def f36 (n : Nat) (a0 a1 : AV) (H : Ab) (k : KO β) : Option β :=
 Vu p n  k n a0 a1 i0 H
noncomputable def AfA (p : Pr β) (n : Nat)  (k : KO β) (m : Nat) (tm : Tm) (H : Ab) : Option β :=
 Dd 20 (fun tm H k => Ai As p [] 20 n (cd c36 [1, 0, 1, 0, 0]) tm H k) (Eg 0 (Dw (fun tm H => Ai As p [] 20 n (cd c36 [1, 1]) tm H (Cd As p fi36.results k)) (Cd As p fi36.results k))) m tm H
theorem Aef (p : Pr β) (n : Nat)  (k : KO β) (m0 : Nat) : ∀ (t : Nat → AV) (H : Ab), AfA p n  k m0 (tf 20 0 t) H = Vu p n  k m0 (t 0) (t 1) (t 5) H := by
 induction m0 with
 | zero => intros; rfl
 | succ m0 ih =>
  intro t H
  refine Eq.trans (Bh (nt := 20) (m := m0) (g := fun t H => Vu p n  k m0 (t 0) (t 1) (t 5) H) ih rfl) ?_
  kernel_rfl
theorem AiA (p : Pr β) (n : Nat) (a0 a1 : AV) (H : Ab) (k : KO β) : B6 As p n fi36 [a0, a1] H k =
 AfA p n  k n (tf 20 0 (ud [(0, a0), (1, a1), (4, i0), (5, i0)] ut)) H := by kernel_rfl
theorem AfB : Le fi36 @f36 := fun p n a0 a1 H k => by
 rw [AiA]
 simp only [Aef]
 kernel_rfl
noncomputable def Vv (p : Pr β) (n : Nat)  (k : KO β) : Nat → AV → KO β
 | 0, _, _, _ => none
 | m + 1, t0, t3, H => p.bin .gtr t0 i0 fun t7 =>
   p.cond t7
   (p.bin .rem t0 (si 10) fun t9 =>
   p.bin .add (si 48) t9 fun t10 =>
   p.cvI .u8 t10 fun t11 =>
   p.fill [(su 0)] [(0, 1, t11)] fun ct12 => p.newSl 1 1 ct12 true H fun t12 H =>
   p.cvBS t12 H fun t13 =>
   p.bin .add t13 t3 fun t15 =>
   p.bin .quo t0 (si 10) fun t17 =>
   Vv p n  k m t17 t15 H)
   (p.bin .add (.sc (.string ⟨#[109]⟩)) t3 fun t19 =>
   k t19 H)
noncomputable def f53 (n : Nat) (a0 : AV) (H : Ab) (k : KO β) : Option β :=
 p.bin .leq a0 i0 fun t5 =>
 p.cond t5
 (k (.sc (.string ⟨#[109, 48]⟩)) H)
 (Vv p n  k n a0 sE H)
noncomputable def AfF (p : Pr β) (n : Nat)  (k : KO β) (m : Nat) (tm : Tm) (H : Ab) : Option β :=
 Dd 20 (fun tm H k => Ai As p [] 20 n (cd c53 [1, 1, 1, 0, 0, 0]) tm H k) (Eg 0 (Dw (fun tm H => Ai As p [] 20 n (cd c53 [1, 1, 1, 1]) tm H (Cd As p fi53.results k)) (Cd As p fi53.results k))) m tm H
theorem Aeh (p : Pr β) (n : Nat)  (k : KO β) (m0 : Nat) : ∀ (t : Nat → AV) (H : Ab), AfF p n  k m0 (tf 20 0 t) H = Vv p n  k m0 (t 0) (t 3) H := by
 induction m0 with
 | zero => intros; rfl
 | succ m0 ih =>
  intro t H
  refine Eq.trans (Bh (nt := 20) (m := m0) (g := fun t H => Vv p n  k m0 (t 0) (t 3) H) ih rfl) ?_
  kernel_rfl
theorem AiC (p : Pr β) (n : Nat) (a0 : AV) (H : Ab) (k : KO β) : B6 As p n fi53 [a0] H k =
 p.bin .leq a0 i0 fun t5 =>
 p.cond t5
 (k (.sc (.string ⟨#[109, 48]⟩)) H)
 (AfF p n  k n (tf 20 0 (ud [(0, a0), (2, sE), (3, sE), (4, a0), (5, t5)] ut)) H) := by kernel_rfl
theorem AfG : Nm fi53 @f53 := fun p n a0 H k => by
 rw [AiC]
 simp only [Aeh]
 kernel_rfl
noncomputable def Vx (p : Pr β) (n : Nat)  (k : KO β) : Nat → AV → AV → KO β
 | 0, _, _, _, _ => none
 | m + 1, t0, t1, t5, H => p.len t0 fun t8 =>
   p.bin .lss t5 t8 fun t9 =>
   p.cond t9
   (p.call 9 (.fn 53 [] []) [t1] H fun t15 H =>
   p.iadr 2 t0 t5 fun t16 =>
   p.fadr 0 t16 fun t17 =>
   p.store 1 t17 t15 H fun H =>
   p.bin .add t1 (si 1) fun t19 =>
   p.iadr 2 t0 t5 fun t23 =>
   p.fadr 1 t23 fun t24 =>
   p.store 1 t24 t19 H fun H =>
   p.bin .add t19 (si 1) fun t26 =>
   p.bin .add t5 (si 1) fun t11 =>
   Vx p n  k m t0 t26 t11 H)
   (k t1 H)
noncomputable def f54 (n : Nat) (a0 a1 : AV) (H : Ab) (k : KO β) : Option β :=
 Vx p n  k n a0 a1 i0 H
noncomputable def AfH (p : Pr β) (n : Nat)  (k : KO β) (m : Nat) (tm : Tm) (H : Ab) : Option β :=
 Dd 28 (fun tm H k => Ai As p [] 28 n (cd c54 [1, 0, 1, 0, 0]) tm H k) (Eg 0 (Dw (fun tm H => Ai As p [] 28 n (cd c54 [1, 1]) tm H (Cd As p fi54.results k)) (Cd As p fi54.results k))) m tm H
theorem Aei (p : Pr β) (n : Nat)  (k : KO β) (m0 : Nat) : ∀ (t : Nat → AV) (H : Ab), AfH p n  k m0 (tf 28 0 t) H = Vx p n  k m0 (t 0) (t 1) (t 5) H := by
 induction m0 with
 | zero => intros; rfl
 | succ m0 ih =>
  intro t H
  refine Eq.trans (Bh (nt := 28) (m := m0) (g := fun t H => Vx p n  k m0 (t 0) (t 1) (t 5) H) ih rfl) ?_
  kernel_rfl
theorem AiD (p : Pr β) (n : Nat) (a0 a1 : AV) (H : Ab) (k : KO β) : B6 As p n fi54 [a0, a1] H k =
 AfH p n  k n (tf 28 0 (ud [(0, a0), (1, a1), (4, i0), (5, i0)] ut)) H := by kernel_rfl
theorem AfI : Le fi54 @f54 := fun p n a0 a1 H k => by
 rw [AiD]
 simp only [Aei]
 kernel_rfl
noncomputable def Vy (p : Pr β) (n : Nat)  (k : KO β) : Nat → AV → AV → KO β
 | 0, _, _, _, _ => none
 | m + 1, t0, t1, t5, H => p.len t0 fun t8 =>
   p.bin .lss t5 t8 fun t9 =>
   p.cond t9
   (p.call 9 (.fn 53 [] []) [t1] H fun t15 H =>
   p.iadr 1 t0 t5 fun t16 =>
   p.store 1 t16 t15 H fun H =>
   p.bin .add t1 (si 1) fun t18 =>
   p.bin .add t5 (si 1) fun t11 =>
   Vy p n  k m t0 t18 t11 H)
   (k t1 H)
noncomputable def f55 (n : Nat) (a0 a1 : AV) (H : Ab) (k : KO β) : Option β :=
 Vy p n  k n a0 a1 i0 H
noncomputable def AfJ (p : Pr β) (n : Nat)  (k : KO β) (m : Nat) (tm : Tm) (H : Ab) : Option β :=
 Dd 20 (fun tm H k => Ai As p [] 20 n (cd c55 [1, 0, 1, 0, 0]) tm H k) (Eg 0 (Dw (fun tm H => Ai As p [] 20 n (cd c55 [1, 1]) tm H (Cd As p fi55.results k)) (Cd As p fi55.results k))) m tm H
theorem Aej (p : Pr β) (n : Nat)  (k : KO β) (m0 : Nat) : ∀ (t : Nat → AV) (H : Ab), AfJ p n  k m0 (tf 20 0 t) H = Vy p n  k m0 (t 0) (t 1) (t 5) H := by
 induction m0 with
 | zero => intros; rfl
 | succ m0 ih =>
  intro t H
  refine Eq.trans (Bh (nt := 20) (m := m0) (g := fun t H => Vy p n  k m0 (t 0) (t 1) (t 5) H) ih rfl) ?_
  kernel_rfl
theorem AiE (p : Pr β) (n : Nat) (a0 a1 : AV) (H : Ab) (k : KO β) : B6 As p n fi55 [a0, a1] H k =
 AfJ p n  k n (tf 20 0 (ud [(0, a0), (1, a1), (4, i0), (5, i0)] ut)) H := by kernel_rfl
theorem AfK : Le fi55 @f55 := fun p n a0 a1 H k => by
 rw [AiE]
 simp only [Aej]
 kernel_rfl
noncomputable def Vz (p : Pr β) (n : Nat)  (k : KO β) : Nat → AV → AV → KO β
 | 0, _, _, _, _ => none
 | m + 1, t0, t1, t5, H => p.len t0 fun t8 =>
   p.bin .lss t5 t8 fun t9 =>
   p.cond t9
   (p.iadr 1 t0 t5 fun t15 =>
   p.store 1 t15 t1 H fun H =>
   p.bin .add t1 (si 1) fun t17 =>
   p.bin .add t5 (si 1) fun t11 =>
   Vz p n  k m t0 t17 t11 H)
   (k t1 H)
noncomputable def f56 (n : Nat) (a0 a1 : AV) (H : Ab) (k : KO β) : Option β :=
 Vz p n  k n a0 a1 i0 H
noncomputable def AfL (p : Pr β) (n : Nat)  (k : KO β) (m : Nat) (tm : Tm) (H : Ab) : Option β :=
 Dd 19 (fun tm H k => Ai As p [] 19 n (cd c56 [1, 0, 1, 0, 0]) tm H k) (Eg 0 (Dw (fun tm H => Ai As p [] 19 n (cd c56 [1, 1]) tm H (Cd As p fi56.results k)) (Cd As p fi56.results k))) m tm H
theorem Aek (p : Pr β) (n : Nat)  (k : KO β) (m0 : Nat) : ∀ (t : Nat → AV) (H : Ab), AfL p n  k m0 (tf 19 0 t) H = Vz p n  k m0 (t 0) (t 1) (t 5) H := by
 induction m0 with
 | zero => intros; rfl
 | succ m0 ih =>
  intro t H
  refine Eq.trans (Bh (nt := 19) (m := m0) (g := fun t H => Vz p n  k m0 (t 0) (t 1) (t 5) H) ih rfl) ?_
  kernel_rfl
theorem AiF (p : Pr β) (n : Nat) (a0 a1 : AV) (H : Ab) (k : KO β) : B6 As p n fi56 [a0, a1] H k =
 AfL p n  k n (tf 19 0 (ud [(0, a0), (1, a1), (4, i0), (5, i0)] ut)) H := by kernel_rfl
theorem AfM : Le fi56 @f56 := fun p n a0 a1 H k => by
 rw [AiF]
 simp only [Aek]
 kernel_rfl
noncomputable def Vq (p : Pr β) (n : Nat)  (k : KO β) : Nat → AV → AV → KO β
 | 0, _, _, _, _ => none
 | m + 1, t0, t1, t5, H => p.len t0 fun t8 =>
   p.bin .lss t5 t8 fun t9 =>
   p.cond t9
   (p.iadr 25 t0 t5 fun t15 =>
   p.fadr 0 t15 fun t16 =>
   p.store 1 t16 t1 H fun H =>
   p.bin .add t1 (si 1) fun t18 =>
   p.bin .rem t18 (si 3) fun t22 =>
   p.bin .eql t22 i0 fun t23 =>
   p.iadr 25 t0 t5 fun t24 =>
   p.fadr 1 t24 fun t25 =>
   p.store 1 t25 t23 H fun H =>
   p.bin .add t18 (si 1) fun t27 =>
   p.iadr 25 t0 t5 fun t31 =>
   p.fadr 2 t31 fun t32 =>
   p.store 1 t32 t27 H fun H =>
   p.bin .add t27 (si 1) fun t34 =>
   p.bin .rem t34 (si 3) fun t38 =>
   p.bin .eql t38 i0 fun t39 =>
   p.iadr 25 t0 t5 fun t40 =>
   p.fadr 3 t40 fun t41 =>
   p.store 1 t41 t39 H fun H =>
   p.bin .add t34 (si 1) fun t43 =>
   p.iadr 25 t0 t5 fun t47 =>
   p.fadr 4 t47 fun t48 =>
   p.store 1 t48 t43 H fun H =>
   p.bin .add t43 (si 1) fun t50 =>
   p.call 9 (.fn 53 [] []) [t50] H fun t54 H =>
   p.iadr 25 t0 t5 fun t55 =>
   p.fadr 5 t55 fun t56 =>
   p.store 1 t56 t54 H fun H =>
   p.bin .add t50 (si 1) fun t58 =>
   p.iadr 25 t0 t5 fun t61 =>
   p.fadr 6 t61 fun t62 =>
   p.load false 1 t62 H fun t63 =>
   p.call 3 (.fn 36 [] []) [t63, t58] H fun t65 H =>
   p.call 9 (.fn 53 [] []) [t65] H fun t69 H =>
   p.iadr 25 t0 t5 fun t70 =>
   p.fadr 7 t70 fun t71 =>
   p.store 1 t71 t69 H fun H =>
   p.bin .add t65 (si 1) fun t73 =>
   p.iadr 25 t0 t5 fun t77 =>
   p.fadr 8 t77 fun t78 =>
   p.store 1 t78 t73 H fun H =>
   p.bin .add t73 (si 1) fun t80 =>
   p.bin .rem t80 (si 3) fun t84 =>
   p.bin .eql t84 i0 fun t85 =>
   p.iadr 25 t0 t5 fun t86 =>
   p.fadr 9 t86 fun t87 =>
   p.store 1 t87 t85 H fun H =>
   p.bin .add t80 (si 1) fun t89 =>
   p.iadr 25 t0 t5 fun t93 =>
   p.fadr 10 t93 fun t94 =>
   p.store 1 t94 t89 H fun H =>
   p.bin .add t89 (si 1) fun t96 =>
   p.bin .rem t96 (si 3) fun t100 =>
   p.bin .eql t100 i0 fun t101 =>
   p.iadr 25 t0 t5 fun t102 =>
   p.fadr 11 t102 fun t103 =>
   p.store 1 t103 t101 H fun H =>
   p.bin .add t96 (si 1) fun t105 =>
   p.call 9 (.fn 53 [] []) [t105] H fun t109 H =>
   p.iadr 25 t0 t5 fun t110 =>
   p.fadr 12 t110 fun t111 =>
   p.store 1 t111 t109 H fun H =>
   p.bin .add t105 (si 1) fun t113 =>
   p.iadr 25 t0 t5 fun t116 =>
   p.fadr 13 t116 fun t117 =>
   p.load false 1 t117 H fun t118 =>
   p.call 3 (.fn 36 [] []) [t118, t113] H fun t120 H =>
   p.iadr 25 t0 t5 fun t124 =>
   p.fadr 14 t124 fun t125 =>
   p.store 1 t125 t120 H fun H =>
   p.bin .add t120 (si 1) fun t127 =>
   p.bin .rem t127 (si 3) fun t131 =>
   p.bin .eql t131 i0 fun t132 =>
   p.iadr 25 t0 t5 fun t133 =>
   p.fadr 15 t133 fun t134 =>
   p.store 1 t134 t132 H fun H =>
   p.bin .add t127 (si 1) fun t136 =>
   p.bin .rem t136 (si 3) fun t140 =>
   p.bin .eql t140 i0 fun t141 =>
   p.iadr 25 t0 t5 fun t142 =>
   p.fadr 16 t142 fun t143 =>
   p.store 1 t143 t141 H fun H =>
   p.bin .add t136 (si 1) fun t145 =>
   p.call 9 (.fn 53 [] []) [t145] H fun t149 H =>
   p.iadr 25 t0 t5 fun t150 =>
   p.fadr 17 t150 fun t151 =>
   p.store 1 t151 t149 H fun H =>
   p.bin .add t145 (si 1) fun t153 =>
   p.bin .rem t153 (si 3) fun t157 =>
   p.bin .eql t157 i0 fun t158 =>
   p.iadr 25 t0 t5 fun t159 =>
   p.fadr 18 t159 fun t160 =>
   p.store 1 t160 t158 H fun H =>
   p.bin .add t153 (si 1) fun t162 =>
   p.iadr 25 t0 t5 fun t165 =>
   p.fadr 19 t165 fun t166 =>
   p.load false 1 t166 H fun t167 =>
   p.call 3 (.fn 36 [] []) [t167, t162] H fun t169 H =>
   p.iadr 25 t0 t5 fun t173 =>
   p.fadr 20 t173 fun t174 =>
   p.store 1 t174 t169 H fun H =>
   p.bin .add t169 (si 1) fun t176 =>
   p.bin .rem t176 (si 3) fun t180 =>
   p.bin .eql t180 i0 fun t181 =>
   p.iadr 25 t0 t5 fun t182 =>
   p.fadr 21 t182 fun t183 =>
   p.store 1 t183 t181 H fun H =>
   p.bin .add t176 (si 1) fun t185 =>
   p.iadr 25 t0 t5 fun t188 =>
   p.fadr 22 t188 fun t189 =>
   p.load false 1 t189 H fun t190 =>
   p.call 3 (.fn 54 [] []) [t190, t185] H fun t192 H =>
   p.iadr 25 t0 t5 fun t195 =>
   p.fadr 23 t195 fun t196 =>
   p.load false 1 t196 H fun t197 =>
   p.call 3 (.fn 55 [] []) [t197, t192] H fun t199 H =>
   p.iadr 25 t0 t5 fun t202 =>
   p.fadr 24 t202 fun t203 =>
   p.load false 1 t203 H fun t204 =>
   p.call 3 (.fn 56 [] []) [t204, t199] H fun t206 H =>
   p.bin .add t5 (si 1) fun t11 =>
   Vq p n  k m t0 t206 t11 H)
   (k t1 H)
noncomputable def f26 (n : Nat) (a0 a1 : AV) (H : Ab) (k : KO β) : Option β :=
 Vq p n  k n a0 a1 i0 H
noncomputable def Afz (p : Pr β) (n : Nat)  (k : KO β) (m : Nat) (tm : Tm) (H : Ab) : Option β :=
 Dd 208 (fun tm H k => Ai As p [] 208 n (cd c26 [1, 0, 1, 0, 0]) tm H k) (Eg 0 (Dw (fun tm H => Ai As p [] 208 n (cd c26 [1, 1]) tm H (Cd As p fi26.results k)) (Cd As p fi26.results k))) m tm H
theorem Aeb (p : Pr β) (n : Nat)  (k : KO β) (m0 : Nat) : ∀ (t : Nat → AV) (H : Ab), Afz p n  k m0 (tf 208 0 t) H = Vq p n  k m0 (t 0) (t 1) (t 5) H := by
 induction m0 with
 | zero => intros; rfl
 | succ m0 ih =>
  intro t H
  refine Eq.trans (Bh (nt := 208) (m := m0) (g := fun t H => Vq p n  k m0 (t 0) (t 1) (t 5) H) ih rfl) ?_
  kernel_rfl
theorem Ai6 (p : Pr β) (n : Nat) (a0 a1 : AV) (H : Ab) (k : KO β) : B6 As p n fi26 [a0, a1] H k =
 Afz p n  k n (tf 208 0 (ud [(0, a0), (1, a1), (4, i0), (5, i0)] ut)) H := by kernel_rfl
theorem Af0 : Le fi26 @f26 := fun p n a0 a1 H k => by
 rw [Ai6]
 simp only [Aeb]
 kernel_rfl
noncomputable def V0 (p : Pr β) (n : Nat)  (k : KO β) : Nat → AV → AV → KO β
 | 0, _, _, _, _ => none
 | m + 1, t0, t1, t5, H => p.len t0 fun t8 =>
   p.bin .lss t5 t8 fun t9 =>
   p.cond t9
   (p.iadr 1 t0 t5 fun t14 =>
   p.load false 1 t14 H fun t15 =>
   p.cvI .u8 t1 fun t17 =>
   p.bin .neq t15 t17 fun t18 =>
   p.cond t18
   (k (si (-1)) H)
   (p.bin .add t1 (si 1) fun t20 =>
   p.bin .add t5 (si 1) fun t11 =>
   V0 p n  k m t0 t20 t11 H))
   (k t1 H)
noncomputable def f57 (n : Nat) (a0 a1 : AV) (H : Ab) (k : KO β) : Option β :=
 V0 p n  k n a0 a1 i0 H
noncomputable def AfN (p : Pr β) (n : Nat)  (k : KO β) (m : Nat) (tm : Tm) (H : Ab) : Option β :=
 Dd 22 (fun tm H k => Ai As p [] 22 n (cd c57 [1, 0, 1, 0, 0]) tm H k) (Eg 0 (Dw (fun tm H => Ai As p [] 22 n (cd c57 [1, 1]) tm H (Cd As p fi57.results k)) (Cd As p fi57.results k))) m tm H
theorem Ael (p : Pr β) (n : Nat)  (k : KO β) (m0 : Nat) : ∀ (t : Nat → AV) (H : Ab), AfN p n  k m0 (tf 22 0 t) H = V0 p n  k m0 (t 0) (t 1) (t 5) H := by
 induction m0 with
 | zero => intros; rfl
 | succ m0 ih =>
  intro t H
  refine Eq.trans (Bh (nt := 22) (m := m0) (g := fun t H => V0 p n  k m0 (t 0) (t 1) (t 5) H) ih rfl) ?_
  kernel_rfl
theorem AiG (p : Pr β) (n : Nat) (a0 a1 : AV) (H : Ab) (k : KO β) : B6 As p n fi57 [a0, a1] H k =
 AfN p n  k n (tf 22 0 (ud [(0, a0), (1, a1), (4, i0), (5, i0)] ut)) H := by kernel_rfl
theorem AfO : Le fi57 @f57 := fun p n a0 a1 H k => by
 rw [AiG]
 simp only [Ael]
 kernel_rfl
noncomputable def V1 (p : Pr β) (n : Nat)  (k : KO β) : Nat → AV → AV → KO β
 | 0, _, _, _, _ => none
 | m + 1, t0, t1, t5, H => p.len t0 fun t8 =>
   p.bin .lss t5 t8 fun t9 =>
   p.cond t9
   (p.iadr 2 t0 t5 fun t14 =>
   p.fadr 0 t14 fun t15 =>
   p.load false 1 t15 H fun t16 =>
   p.call 9 (.fn 53 [] []) [t1] H fun t18 H =>
   p.bin .neq t16 t18 fun t19 =>
   p.cond t19
   (k (si (-1)) H)
   (p.bin .add t1 (si 1) fun t21 =>
   p.iadr 2 t0 t5 fun t24 =>
   p.fadr 1 t24 fun t25 =>
   p.load false 1 t25 H fun t26 =>
   p.bin .neq t26 t21 fun t28 =>
   p.cond t28
   (k (si (-1)) H)
   (p.bin .add t21 (si 1) fun t30 =>
   p.bin .add t5 (si 1) fun t11 =>
   V1 p n  k m t0 t30 t11 H)))
   (k t1 H)
noncomputable def f58 (n : Nat) (a0 a1 : AV) (H : Ab) (k : KO β) : Option β :=
 V1 p n  k n a0 a1 i0 H
noncomputable def AfP (p : Pr β) (n : Nat)  (k : KO β) (m : Nat) (tm : Tm) (H : Ab) : Option β :=
 Dd 32 (fun tm H k => Ai As p o58 32 n (cd c58 [1, 0, 1, 0, 0]) tm H k) (Eg 0 (Dw (fun tm H => Ai As p o58 32 n (cd c58 [1, 1]) tm H (Cd As p fi58.results k)) (Cd As p fi58.results k))) m tm H
theorem Aem (p : Pr β) (n : Nat)  (k : KO β) (m0 : Nat) : ∀ (t : Nat → AV) (H : Ab), AfP p n  k m0 (tf 32 0 t) H = V1 p n  k m0 (t 0) (t 1) (t 5) H := by
 induction m0 with
 | zero => intros; rfl
 | succ m0 ih =>
  intro t H
  refine Eq.trans (Bh (nt := 32) (m := m0) (g := fun t H => V1 p n  k m0 (t 0) (t 1) (t 5) H) ih rfl) ?_
  kernel_rfl
theorem AiH (p : Pr β) (n : Nat) (a0 a1 : AV) (H : Ab) (k : KO β) : B6 As p n fi58 [a0, a1] H k =
 AfP p n  k n (tf 32 0 (ud [(0, a0), (1, a1), (4, i0), (5, i0)] ut)) H := by kernel_rfl
theorem AfQ : Le fi58 @f58 := fun p n a0 a1 H k => by
 rw [AiH]
 simp only [Aem]
 kernel_rfl
noncomputable def V2 (p : Pr β) (n : Nat)  (k : KO β) : Nat → AV → AV → KO β
 | 0, _, _, _, _ => none
 | m + 1, t0, t1, t5, H => p.len t0 fun t8 =>
   p.bin .lss t5 t8 fun t9 =>
   p.cond t9
   (p.iadr 1 t0 t5 fun t14 =>
   p.load false 1 t14 H fun t15 =>
   p.call 9 (.fn 53 [] []) [t1] H fun t17 H =>
   p.bin .neq t15 t17 fun t18 =>
   p.cond t18
   (k (si (-1)) H)
   (p.bin .add t1 (si 1) fun t20 =>
   p.bin .add t5 (si 1) fun t11 =>
   V2 p n  k m t0 t20 t11 H))
   (k t1 H)
noncomputable def f59 (n : Nat) (a0 a1 : AV) (H : Ab) (k : KO β) : Option β :=
 V2 p n  k n a0 a1 i0 H
noncomputable def AfR (p : Pr β) (n : Nat)  (k : KO β) (m : Nat) (tm : Tm) (H : Ab) : Option β :=
 Dd 22 (fun tm H k => Ai As p o59 22 n (cd c59 [1, 0, 1, 0, 0]) tm H k) (Eg 0 (Dw (fun tm H => Ai As p o59 22 n (cd c59 [1, 1]) tm H (Cd As p fi59.results k)) (Cd As p fi59.results k))) m tm H
theorem Aen (p : Pr β) (n : Nat)  (k : KO β) (m0 : Nat) : ∀ (t : Nat → AV) (H : Ab), AfR p n  k m0 (tf 22 0 t) H = V2 p n  k m0 (t 0) (t 1) (t 5) H := by
 induction m0 with
 | zero => intros; rfl
 | succ m0 ih =>
  intro t H
  refine Eq.trans (Bh (nt := 22) (m := m0) (g := fun t H => V2 p n  k m0 (t 0) (t 1) (t 5) H) ih rfl) ?_
  kernel_rfl
theorem AiI (p : Pr β) (n : Nat) (a0 a1 : AV) (H : Ab) (k : KO β) : B6 As p n fi59 [a0, a1] H k =
 AfR p n  k n (tf 22 0 (ud [(0, a0), (1, a1), (4, i0), (5, i0)] ut)) H := by kernel_rfl
theorem AfS : Le fi59 @f59 := fun p n a0 a1 H k => by
 rw [AiI]
 simp only [Aen]
 kernel_rfl
noncomputable def V3 (p : Pr β) (n : Nat)  (k : KO β) : Nat → AV → AV → KO β
 | 0, _, _, _, _ => none
 | m + 1, t0, t1, t5, H => p.len t0 fun t8 =>
   p.bin .lss t5 t8 fun t9 =>
   p.cond t9
   (p.iadr 1 t0 t5 fun t14 =>
   p.load false 1 t14 H fun t15 =>
   p.bin .neq t15 t1 fun t17 =>
   p.cond t17
   (k (si (-1)) H)
   (p.bin .add t1 (si 1) fun t19 =>
   p.bin .add t5 (si 1) fun t11 =>
   V3 p n  k m t0 t19 t11 H))
   (k t1 H)
noncomputable def f60 (n : Nat) (a0 a1 : AV) (H : Ab) (k : KO β) : Option β :=
 V3 p n  k n a0 a1 i0 H
noncomputable def AfT (p : Pr β) (n : Nat)  (k : KO β) (m : Nat) (tm : Tm) (H : Ab) : Option β :=
 Dd 21 (fun tm H k => Ai As p [] 21 n (cd c60 [1, 0, 1, 0, 0]) tm H k) (Eg 0 (Dw (fun tm H => Ai As p [] 21 n (cd c60 [1, 1]) tm H (Cd As p fi60.results k)) (Cd As p fi60.results k))) m tm H
theorem Aeo (p : Pr β) (n : Nat)  (k : KO β) (m0 : Nat) : ∀ (t : Nat → AV) (H : Ab), AfT p n  k m0 (tf 21 0 t) H = V3 p n  k m0 (t 0) (t 1) (t 5) H := by
 induction m0 with
 | zero => intros; rfl
 | succ m0 ih =>
  intro t H
  refine Eq.trans (Bh (nt := 21) (m := m0) (g := fun t H => V3 p n  k m0 (t 0) (t 1) (t 5) H) ih rfl) ?_
  kernel_rfl
theorem AiJ (p : Pr β) (n : Nat) (a0 a1 : AV) (H : Ab) (k : KO β) : B6 As p n fi60 [a0, a1] H k =
 AfT p n  k n (tf 21 0 (ud [(0, a0), (1, a1), (4, i0), (5, i0)] ut)) H := by kernel_rfl
theorem AfU : Le fi60 @f60 := fun p n a0 a1 H k => by
 rw [AiJ]
 simp only [Aeo]
 kernel_rfl
noncomputable def Vr (p : Pr β) (n : Nat)  (k : KO β) : Nat → AV → AV → KO β
 | 0, _, _, _, _ => none
 | m + 1, t0, t1, t5, H => p.len t0 fun t8 =>
   p.bin .lss t5 t8 fun t9 =>
   p.cond t9
   (p.iadr 25 t0 t5 fun t14 =>
   p.fadr 0 t14 fun t15 =>
   p.load false 1 t15 H fun t16 =>
   p.bin .neq t16 t1 fun t18 =>
   p.cond t18
   (k (si (-1)) H)
   (p.bin .add t1 (si 1) fun t20 =>
   p.iadr 25 t0 t5 fun t23 =>
   p.fadr 1 t23 fun t24 =>
   p.load false 1 t24 H fun t25 =>
   p.bin .rem t20 (si 3) fun t27 =>
   p.bin .eql t27 i0 fun t28 =>
   p.binB .neq t25 t28 fun t29 =>
   p.cond t29
   (k (si (-1)) H)
   (p.bin .add t20 (si 1) fun t31 =>
   p.iadr 25 t0 t5 fun t34 =>
   p.fadr 2 t34 fun t35 =>
   p.load false 1 t35 H fun t36 =>
   p.bin .neq t36 t31 fun t38 =>
   p.cond t38
   (k (si (-1)) H)
   (p.bin .add t31 (si 1) fun t40 =>
   p.iadr 25 t0 t5 fun t43 =>
   p.fadr 3 t43 fun t44 =>
   p.load false 1 t44 H fun t45 =>
   p.bin .rem t40 (si 3) fun t47 =>
   p.bin .eql t47 i0 fun t48 =>
   p.binB .neq t45 t48 fun t49 =>
   p.cond t49
   (k (si (-1)) H)
   (p.bin .add t40 (si 1) fun t51 =>
   p.iadr 25 t0 t5 fun t54 =>
   p.fadr 4 t54 fun t55 =>
   p.load false 1 t55 H fun t56 =>
   p.bin .neq t56 t51 fun t58 =>
   p.cond t58
   (k (si (-1)) H)
   (p.bin .add t51 (si 1) fun t60 =>
   p.iadr 25 t0 t5 fun t63 =>
   p.fadr 5 t63 fun t64 =>
   p.load false 1 t64 H fun t65 =>
   p.call 9 (.fn 53 [] []) [t60] H fun t67 H =>
   p.bin .neq t65 t67 fun t68 =>
   p.cond t68
   (k (si (-1)) H)
   (p.bin .add t60 (si 1) fun t70 =>
   p.iadr 25 t0 t5 fun t73 =>
   p.fadr 6 t73 fun t74 =>
   p.load false 1 t74 H fun t75 =>
   p.call 3 (.fn 57 [] []) [t75, t70] H fun t77 H =>
   p.bin .lss t77 i0 fun t79 =>
   p.cond t79
   (k (si (-1)) H)
   (p.iadr 25 t0 t5 fun t82 =>
   p.fadr 7 t82 fun t83 =>
   p.load false 1 t83 H fun t84 =>
   p.call 9 (.fn 53 [] []) [t77] H fun t86 H =>
   p.bin .neq t84 t86 fun t87 =>
   p.cond t87
   (k (si (-1)) H)
   (p.bin .add t77 (si 1) fun t89 =>
   p.iadr 25 t0 t5 fun t92 =>
   p.fadr 8 t92 fun t93 =>
   p.load false 1 t93 H fun t94 =>
   p.bin .neq t94 t89 fun t96 =>
   p.cond t96
   (k (si (-1)) H)
   (p.bin .add t89 (si 1) fun t98 =>
   p.iadr 25 t0 t5 fun t101 =>
   p.fadr 9 t101 fun t102 =>
   p.load false 1 t102 H fun t103 =>
   p.bin .rem t98 (si 3) fun t105 =>
   p.bin .eql t105 i0 fun t106 =>
   p.binB .neq t103 t106 fun t107 =>
   p.cond t107
   (k (si (-1)) H)
   (p.bin .add t98 (si 1) fun t109 =>
   p.iadr 25 t0 t5 fun t112 =>
   p.fadr 10 t112 fun t113 =>
   p.load false 1 t113 H fun t114 =>
   p.bin .neq t114 t109 fun t116 =>
   p.cond t116
   (k (si (-1)) H)
   (p.bin .add t109 (si 1) fun t118 =>
   p.iadr 25 t0 t5 fun t121 =>
   p.fadr 11 t121 fun t122 =>
   p.load false 1 t122 H fun t123 =>
   p.bin .rem t118 (si 3) fun t125 =>
   p.bin .eql t125 i0 fun t126 =>
   p.binB .neq t123 t126 fun t127 =>
   p.cond t127
   (k (si (-1)) H)
   (p.bin .add t118 (si 1) fun t129 =>
   p.iadr 25 t0 t5 fun t132 =>
   p.fadr 12 t132 fun t133 =>
   p.load false 1 t133 H fun t134 =>
   p.call 9 (.fn 53 [] []) [t129] H fun t136 H =>
   p.bin .neq t134 t136 fun t137 =>
   p.cond t137
   (k (si (-1)) H)
   (p.bin .add t129 (si 1) fun t139 =>
   p.iadr 25 t0 t5 fun t142 =>
   p.fadr 13 t142 fun t143 =>
   p.load false 1 t143 H fun t144 =>
   p.call 3 (.fn 57 [] []) [t144, t139] H fun t146 H =>
   p.bin .lss t146 i0 fun t148 =>
   p.cond t148
   (k (si (-1)) H)
   (p.iadr 25 t0 t5 fun t151 =>
   p.fadr 14 t151 fun t152 =>
   p.load false 1 t152 H fun t153 =>
   p.bin .neq t153 t146 fun t155 =>
   p.cond t155
   (k (si (-1)) H)
   (p.bin .add t146 (si 1) fun t157 =>
   p.iadr 25 t0 t5 fun t160 =>
   p.fadr 15 t160 fun t161 =>
   p.load false 1 t161 H fun t162 =>
   p.bin .rem t157 (si 3) fun t164 =>
   p.bin .eql t164 i0 fun t165 =>
   p.binB .neq t162 t165 fun t166 =>
   p.cond t166
   (k (si (-1)) H)
   (p.bin .add t157 (si 1) fun t168 =>
   p.iadr 25 t0 t5 fun t171 =>
   p.fadr 16 t171 fun t172 =>
   p.load false 1 t172 H fun t173 =>
   p.bin .rem t168 (si 3) fun t175 =>
   p.bin .eql t175 i0 fun t176 =>
   p.binB .neq t173 t176 fun t177 =>
   p.cond t177
   (k (si (-1)) H)
   (p.bin .add t168 (si 1) fun t179 =>
   p.iadr 25 t0 t5 fun t182 =>
   p.fadr 17 t182 fun t183 =>
   p.load false 1 t183 H fun t184 =>
   p.call 9 (.fn 53 [] []) [t179] H fun t186 H =>
   p.bin .neq t184 t186 fun t187 =>
   p.cond t187
   (k (si (-1)) H)
   (p.bin .add t179 (si 1) fun t189 =>
   p.iadr 25 t0 t5 fun t192 =>
   p.fadr 18 t192 fun t193 =>
   p.load false 1 t193 H fun t194 =>
   p.bin .rem t189 (si 3) fun t196 =>
   p.bin .eql t196 i0 fun t197 =>
   p.binB .neq t194 t197 fun t198 =>
   p.cond t198
   (k (si (-1)) H)
   (p.bin .add t189 (si 1) fun t200 =>
   p.iadr 25 t0 t5 fun t203 =>
   p.fadr 19 t203 fun t204 =>
   p.load false 1 t204 H fun t205 =>
   p.call 3 (.fn 57 [] []) [t205, t200] H fun t207 H =>
   p.bin .lss t207 i0 fun t209 =>
   p.cond t209
   (k (si (-1)) H)
   (p.iadr 25 t0 t5 fun t212 =>
   p.fadr 20 t212 fun t213 =>
   p.load false 1 t213 H fun t214 =>
   p.bin .neq t214 t207 fun t216 =>
   p.cond t216
   (k (si (-1)) H)
   (p.bin .add t207 (si 1) fun t218 =>
   p.iadr 25 t0 t5 fun t221 =>
   p.fadr 21 t221 fun t222 =>
   p.load false 1 t222 H fun t223 =>
   p.bin .rem t218 (si 3) fun t225 =>
   p.bin .eql t225 i0 fun t226 =>
   p.binB .neq t223 t226 fun t227 =>
   p.cond t227
   (k (si (-1)) H)
   (p.bin .add t218 (si 1) fun t229 =>
   p.iadr 25 t0 t5 fun t232 =>
   p.fadr 22 t232 fun t233 =>
   p.load false 1 t233 H fun t234 =>
   p.call 3 (.fn 58 [] []) [t234, t229] H fun t236 H =>
   p.bin .lss t236 i0 fun t238 =>
   p.cond t238
   (k (si (-1)) H)
   (p.iadr 25 t0 t5 fun t241 =>
   p.fadr 23 t241 fun t242 =>
   p.load false 1 t242 H fun t243 =>
   p.call 3 (.fn 59 [] []) [t243, t236] H fun t245 H =>
   p.bin .lss t245 i0 fun t247 =>
   p.cond t247
   (k (si (-1)) H)
   (p.iadr 25 t0 t5 fun t250 =>
   p.fadr 24 t250 fun t251 =>
   p.load false 1 t251 H fun t252 =>
   p.call 3 (.fn 60 [] []) [t252, t245] H fun t254 H =>
   p.bin .lss t254 i0 fun t256 =>
   p.cond t256
   (k (si (-1)) H)
   (p.bin .add t5 (si 1) fun t11 =>
   Vr p n  k m t0 t254 t11 H))))))))))))))))))))))))))
   (k t1 H)
noncomputable def f28 (n : Nat) (a0 a1 : AV) (H : Ab) (k : KO β) : Option β :=
 Vr p n  k n a0 a1 i0 H
noncomputable def Af1 (p : Pr β) (n : Nat)  (k : KO β) (m : Nat) (tm : Tm) (H : Ab) : Option β :=
 Dd 258 (fun tm H k => Ai As p o28 258 n (cd c28 [1, 0, 1, 0, 0]) tm H k) (Eg 0 (Dw (fun tm H => Ai As p o28 258 n (cd c28 [1, 1]) tm H (Cd As p fi28.results k)) (Cd As p fi28.results k))) m tm H
theorem Aec (p : Pr β) (n : Nat)  (k : KO β) (m0 : Nat) : ∀ (t : Nat → AV) (H : Ab), Af1 p n  k m0 (tf 258 0 t) H = Vr p n  k m0 (t 0) (t 1) (t 5) H := by
 induction m0 with
 | zero => intros; rfl
 | succ m0 ih =>
  intro t H
  refine Eq.trans (Bh (nt := 258) (m := m0) (g := fun t H => Vr p n  k m0 (t 0) (t 1) (t 5) H) ih rfl) ?_
  kernel_rfl
theorem Ai7 (p : Pr β) (n : Nat) (a0 a1 : AV) (H : Ab) (k : KO β) : B6 As p n fi28 [a0, a1] H k =
 Af1 p n  k n (tf 258 0 (ud [(0, a0), (1, a1), (4, i0), (5, i0)] ut)) H := by kernel_rfl
theorem Af2 : Le fi28 @f28 := fun p n a0 a1 H k => by
 rw [Ai7]
 simp only [Aec]
 kernel_rfl
noncomputable def f7 (n : Nat) (a0 : AV) (H : Ab) (k : KO β) : Option β :=
 p.len a0 fun t14 =>
 p.bin .gtr t14 (si 1048576) fun t15 =>
 p.cond t15
 (k bT H)
 (p.call 22 (.fn 32 [] []) [a0] H fun t18 H =>
 p.call 68 (.fn 39 [] []) [t18] H fun t19 H =>
 p.extr t19 0 fun t20 =>
 p.extr t19 1 fun t21 =>
 p.call 22 (.fn 32 [] []) [a0] H fun t23 H =>
 p.call 68 (.fn 40 [] []) [t23] H fun t26 H =>
 p.extr t26 0 fun t27 =>
 p.extr t26 1 fun t28 =>
 p.call 4 (.fn 22 [] []) [t27, t20] H fun t31 H =>
 p.un .not t31 fun t32 =>
 p.kF t32 H t28 fun t34 H =>
 p.kF t32 H t21 fun t35 H =>
 p.gF t32 H (p.bin .neq t34 t35) fun t36 H =>
 p.pick t32 bT t36 fun t37 =>
 p.cond t37
 (k bF H)
 (p.call 22 (.fn 32 [] []) [a0] H fun t40 H =>
 p.call 4 (.fn 35 [] []) [t23, t40] H fun t41 H =>
 p.un .not t41 fun t42 =>
 p.cond t42
 (k bF H)
 (p.call 3 (.fn 36 [] []) [t23, (si 1)] H fun t45 H =>
 p.bin .lss t45 i0 fun t47 =>
 p.kF t47 H t27 fun t49 H =>
 p.kF t47 H t20 fun t50 H =>
 p.hF t47 H (p.call 4 (.fn 22 [] []) [t49, t50] H) fun t51 H =>
 p.gF t47 H (p.un .not t51) fun t52 H =>
 p.pick t47 bT t52 fun t53 =>
 p.kF t53 H t28 fun t55 H =>
 p.kF t53 H t21 fun t56 H =>
 p.gF t53 H (p.bin .neq t55 t56) fun t57 H =>
 p.pick t53 bT t57 fun t58 =>
 p.cond t58
 (k bF H)
 (p.call 3 (.fn 26 [] []) [t27, (si 1)] H fun t61 H =>
 p.call 3 (.fn 28 [] []) [t27, (si 1)] H fun t64 H =>
 p.bin .lss t64 i0 fun t66 =>
 p.cond t66
 (k bF H)
 (p.bin .neq t64 t61 fun t69 =>
 p.cond t69
 (k bF H)
 (p.call 22 (.fn 32 [] []) [a0] H fun t72 H =>
 p.call 68 (.fn 40 [] []) [t72] H fun t73 H =>
 p.extr t73 0 fun t74 =>
 p.extr t73 1 fun t75 =>
 p.call 4 (.fn 22 [] []) [t74, t20] H fun t78 H =>
 p.un .not t78 fun t79 =>
 p.kF t79 H t75 fun t81 H =>
 p.kF t79 H t21 fun t82 H =>
 p.gF t79 H (p.bin .neq t81 t82) fun t83 H =>
 p.pick t79 bT t83 fun t84 =>
 p.cond t84
 (k bF H)
 (p.call 3 (.fn 28 [] []) [t27, (si 1)] H fun t87 H =>
 p.bin .lss t87 i0 fun t89 =>
 p.cond t89
 (k bF H)
 (p.bin .neq t87 t61 fun t92 =>
 p.cond t92
 (k bF H)
 (k bT H)))))))))
theorem AiU : Nm fi7 @f7 := fun p n a0 H k => by kernel_rfl
noncomputable def fss : List (Option Fj) := [none, none, none, none, none, none, none, some fi7, none, none, none, none, none, none, none, none, none, none, none, none, none, none, some fi22, none, none, none, some fi26, none, some fi28, none, none, some Amq, some fi32, some Amr, some Ams, some fi35, some fi36, none, none, some fi39, some Amt, none, none, none, none, none, none, none, none, none, none, none, none, some fi53, some fi54, some fi55, some fi56, some fi57, some fi58, some fi59, some fi60, some Amu, some fi62, some fi63, some fi64, some Amv, some fi66, some Amw, some fi68, some Amx, some Amy, some Amz, some Am0, some fi73, some fi74, some fi75, some fi76, some fi77, none, none, some Am1, some Am2, none, none, none, none, some Am3, some Am4, some Am5, some fi89, some Am6, some Am7, some fi92, some Am8, some Am9, some AmA, some AmB, some fi97, some AmC, some AmD, some AjZ, some Aka, some Akb, some fi103, some Akc, some Akd, some Ake, some Akf, some Akg, some Akh, some fi110, some fi111, some fi112, some Aki, some Akj, some fi115, none, none, some Akk, none, none, none, none, none, none, none, some Akl, some fi127, some fi128, some Akm, some Akn, some Ako, some fi132, some fi133, some fi134, none, none, some Akp, some fi138, some Akq, some Akr, some Aks, some Akt, some fi143, none, none, some Aku, none, none, none, some Akv, some Akw]
noncomputable def tps : List (Nat × List Nat) := [(43, [32, 33]), (60, [59, 3, 3]), (68, [33, 3]), (85, [3, 3, 3]), (93, [33, 3, 3]), (108, [9, 3, 4]), (110, [3, 3, 4]), (131, [22, 3, 4]), (152, [151, 4]), (162, [21, 3]), (165, [164, 164])]
noncomputable def E0 : Ov := { ti := As, tp := fun t => Ada tps t, fs := fun f => (fss[f]?).getD none, ext := fun f => if zb3 f 135 then some Zm else if zb3 f 136 then some Vk else if zb3 f 149 then some S3 else none, hm := fun f => [24, 25, 26, 36, 37, 54, 55, 56, 90, 99, 100, 101, 102, 103, 105, 129, 131, 156, 182, 183, 184, 185, 186].contains f }
noncomputable def PR (n : Nat) (β : Type) : Pr β := En E0 (Eh E0 n) β
abbrev Np (j : Nat) (f : (β : Type) → Pr β → Nat → AV → Ab → KO β → Option β) : Prop := ∀ {β : Type} (n : Nat) (a0 : AV) (H : Ab) (k : KO β), Eh E0 (n + 1) β j [a0] H k = f β (PR n β) n a0 H k
abbrev Lf (j : Nat) (f : (β : Type) → Pr β → Nat → AV → AV → Ab → KO β → Option β) : Prop := ∀ {β : Type} (n : Nat) (a0 a1 : AV) (H : Ab) (k : KO β), Eh E0 (n + 1) β j [a0, a1] H k = f β (PR n β) n a0 a1 H k
abbrev Ce3 (j : Nat) (f : (β : Type) → Pr β → Nat → AV → AV → AV → Ab → KO β → Option β) : Prop := ∀ {β : Type} (n : Nat) (a0 a1 a2 : AV) (H : Ab) (k : KO β), Eh E0 (n + 1) β j [a0, a1, a2] H k = f β (PR n β) n a0 a1 a2 H k
theorem AkV : Np 32 @f32 := fun n => Af5 (PR n _) n
theorem Alk : Np 61 @f61 := fun n => AfV (PR n _) n
theorem All : Lf 62 @f62 := fun n => AfX (PR n _) n
theorem Al4 : Lf 88 @f88 := fun n => Ag2 (PR n _) n
theorem Aim : Lf 126 @f126 := fun n => AdH (PR n _) n
theorem Al1 : Ce3 81 @f81 := fun n => Agz (PR n _) n
theorem Ai1 : Lf 143 @f143 := fun n => AdW (PR n _) n
theorem Aik : Np 115 @f115 := fun n => AdF (PR n _) n
theorem Al0 : Np 80 @f80 := fun n => Agy (PR n _) n
theorem Al3 : Lf 87 @f87 := fun n => Ag1 (PR n _) n
theorem Al2 : Np 86 @f86 := fun n => Ag0 (PR n _) n
theorem Alm : Lf 63 @f63 := fun n => AfZ (PR n _) n
theorem Al6 : Np 90 @f90 := fun n => Ag7 (PR n _) n
theorem Alo : Lf 65 @f65 := fun n => Agb (PR n _) n
theorem Al5 : Lf 89 @f89 := fun n => Ag6 (PR n _) n
theorem Ain : Lf 127 @f127 := fun n => AdI (PR n _) n
theorem Aio : Np 128 @f128 := fun n => AdJ (PR n _) n
theorem Al7 : Np 91 @f91 := fun n => Ag8 (PR n _) n
theorem Al8 : Np 92 @f92 := fun n => AgA (PR n _) n
theorem Aln : Np 64 @f64 := fun n => Aga (PR n _) n
theorem AlB : Lf 95 @f95 := fun n => AgD (PR n _) n
theorem Al9 : Lf 93 @f93 := fun n => AgB (PR n _) n
theorem AlA : Lf 94 @f94 := fun n => AgC (PR n _) n
theorem AlC : Lf 96 @f96 := fun n => AgE (PR n _) n
theorem AlD : Lf 97 @f97 := fun n => AgG (PR n _) n
theorem Alp : Np 66 @f66 := fun n => Agf (PR n _) n
theorem AkU : Np 31 @f31 := fun n => Af3 (PR n _) n
theorem Ala : Np 39 @f39 := fun n => AfD (PR n _) n
theorem AlE : Ce3 98 @f98 := fun n => AgH (PR n _) n
theorem Alq : Np 67 @f67 := fun n => Agg (PR n _) n
theorem Alr : Lf 68 @f68 := fun n => Agi (PR n _) n
theorem Aiq : Lf 130 @f130 := fun n => AdL (PR n _) n
theorem Agx : Np 77 @f77 := fun n => Agw (PR n _) n
theorem Ai2 : Lf 146 @f146 := fun n => AdX (PR n _) n
theorem Aip : Np 129 @f129 := fun n => AdK (PR n _) n
theorem Mk : Np 101 @f101 := fun n => Ad1 (PR n _) n
theorem AhW : Np 100 @f100 := fun n => Ad0 (PR n _) n
theorem AhX : Np 102 @f102 := fun n => Ad2 (PR n _) n
theorem AlF : Lf 99 @f99 := fun n => AgI (PR n _) n
theorem Air : Np 131 @f131 := fun n => AdM (PR n _) n
theorem AhY : Lf 103 @f103 := fun n => Ad3 (PR n _) n
theorem Als : Lf 69 @f69 := fun n => Agj (PR n _) n
theorem Aia : Np 105 @f105 := fun n => Ad5 (PR n _) n
theorem Alu : Lf 71 @f71 := fun n => Agl (PR n _) n
theorem Ais : Lf 132 @f132 := fun n => AdN (PR n _) n
theorem Ait : Lf 133 @f133 := fun n => AdO (PR n _) n
theorem Aiu : Lf 134 @f134 := fun n => AdP (PR n _) n
theorem AhZ : Lf 104 @f104 := fun n => Ad4 (PR n _) n
theorem Aiv : Np 137 @f137 := fun n => AdQ (PR n _) n
theorem Aid : Np 108 @f108 := fun n => Ad8 (PR n _) n
theorem Aic : Np 107 @f107 := fun n => Ad7 (PR n _) n
theorem Ail : Np 118 @f118 := fun n => AdG (PR n _) n
theorem Aib : Np 106 @f106 := fun n => Ad6 (PR n _) n
theorem Aie : Np 109 @f109 := fun n => Ad9 (PR n _) n
theorem Ai3 : Lf 150 @f150 := fun n => AdY (PR n _) n
theorem Aiw : Np 138 @f138 := fun n => AdR (PR n _) n
theorem Aif : Np 110 @f110 := fun n => AdA (PR n _) n
theorem Alt : Np 70 @f70 := fun n => Agk (PR n _) n
theorem Aiy : Lf 140 @f140 := fun n => AdT (PR n _) n
theorem Ai0 : Lf 142 @f142 := fun n => AdV (PR n _) n
theorem Aiz : Lf 141 @f141 := fun n => AdU (PR n _) n
theorem Ai4 : Lf 151 @f151 := fun n => AdZ (PR n _) n
theorem Aix : Np 139 @f139 := fun n => AdS (PR n _) n
theorem Aig : Np 111 @f111 := fun n => AdB (PR n _) n
theorem Aii : Np 113 @f113 := fun n => AdD (PR n _) n
theorem Aih : Lf 112 @f112 := fun n => AdC (PR n _) n
theorem Alv : Np 72 @f72 := fun n => Agm (PR n _) n
theorem AkW : Np 33 @f33 := fun n => Af6 (PR n _) n
theorem Alz : Np 76 @f76 := fun n => Agu (PR n _) n
theorem Alb : Np 40 @f40 := fun n => AfE (PR n _) n
theorem AkY : Lf 35 @f35 := fun n => Af9 (PR n _) n
theorem Aij : Lf 114 @f114 := fun n => AdE (PR n _) n
theorem Alw : Lf 73 @f73 := fun n => Ago (PR n _) n
theorem Alx : Lf 74 @f74 := fun n => Agq (PR n _) n
theorem Aly : Lf 75 @f75 := fun n => Ags (PR n _) n
theorem AkX : Lf 34 @f34 := fun n => Af7 (PR n _) n
theorem AkR : Lf 22 @f22 := fun n => Afy (PR n _) n
theorem AkZ : Lf 36 @f36 := fun n => AfB (PR n _) n
theorem Alc : Np 53 @f53 := fun n => AfG (PR n _) n
theorem Ald : Lf 54 @f54 := fun n => AfI (PR n _) n
theorem Ale : Lf 55 @f55 := fun n => AfK (PR n _) n
theorem Alf : Lf 56 @f56 := fun n => AfM (PR n _) n
theorem AkS : Lf 26 @f26 := fun n => Af0 (PR n _) n
theorem Alg : Lf 57 @f57 := fun n => AfO (PR n _) n
theorem Alh : Lf 58 @f58 := fun n => AfQ (PR n _) n
theorem Ali : Lf 59 @f59 := fun n => AfS (PR n _) n
theorem Alj : Lf 60 @f60 := fun n => AfU (PR n _) n
theorem AkT : Lf 28 @f28 := fun n => Af2 (PR n _) n
theorem Amp : Np 7 @f7 := fun n => AiU (PR n _) n
end
end Go.Proofs.YtlcpigdmekgajaaGreatDoor.Abs
