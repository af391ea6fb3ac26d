/- What the proof needs, part 2: a sound evaluator over trees, the program's functions on it, and what they come to. -/
import Derived.Test.YtlcpigdmekgajaaGreatDoorMfa
import Derived.Lib.SplitLaws
import Derived.Lib.IndexAny
import Derived.Lib.ValidLaws
import Derived.Test.YtlcpigdmekgajaaGreatDoorProg
import Derived.KernelRfl
set_option linter.unusedVariables false
set_option linter.unusedSimpArgs false
namespace Go.Proofs.YtlcpigdmekgajaaGreatDoor.Abs
open _root_.Bool renaming false_eq_true → zaa, false_or → za7
open _root_.List renaming length_singleton → zas, map_cons → zat, any_cons → zbI, map_map → zbT
open _root_.Nat renaming le_refl → zao, add_zero → zaR, beq → zbC, add_comm → zbM
section
open Go
def lvL : List UInt8 → List UInt8 → List (List UInt8)
 | cur, [] => [cur]
 | cur, b :: l => if b = 47 then cur :: lvL [] l else lvL (cur ++ [b]) l
def ofL (l : List UInt8) : ByteArray := ⟨l.toArray⟩
def Be (s : ByteArray) : List ByteArray := (lvL [] s.data.toList).map ofL
def Iz (s : ByteArray) (b : UInt8) : Bool := s.data.toList.any fun c => c == b
def vPH (s : ByteArray) : Bool := Iz s 43 || Iz s 35
def X3 : ByteArray := ⟨#[47]⟩
def phB : ByteArray := ⟨#[43, 35]⟩
def Pj (c : List UInt8) : List (List UInt8) → List (List UInt8)
 | [] => [c]
 | h :: t => (c ++ h) :: t
theorem Y2 {X : List (List UInt8)} (h : X ≠ []) : Pj [] X = X := by
 cases X with
 | nil => exact absurd rfl h
 | cons h t => rfl
theorem AaV (a b : List UInt8) {X : List (List UInt8)} (h : X ≠ []) : Pj a (Pj b X) = Pj (a ++ b) X := by
 cases X with
 | nil => exact absurd rfl h
 | cons h t => simp [Pj]
theorem T1 (sep : List UInt8) (k : Nat) (l : List UInt8) : Lib.splitK sep 0 k l ≠ [] := by
 cases k with
 | zero => simp [Lib.splitK]
 | succ k =>
  unfold Lib.splitK
  split <;> simp
theorem Aik (l : List UInt8) : Lib.index (47 :: l) [47] = 0 := by
 unfold Lib.index
 simp
theorem Ail (b : UInt8) (l : List UInt8) (h : b ≠ 47) : Lib.index (b :: l) [47] = if Lib.index l [47] == -1 then -1 else Lib.index l [47] + 1 := by
 rw [Lib.index]
 rw [if_neg]
 simpa using fun h' => h h'.symm
theorem Yb (b : UInt8) (h : b ≠ 47) (k : Nat) (l : List UInt8) : Lib.splitK [47] 0 k (b :: l) = Pj [b] (Lib.splitK [47] 0 k l) := by
 cases k with
 | zero => rfl
 | succ k =>
  have hge := Lib.index_ge l [47]
  unfold Lib.splitK
  rw [Ail b l h]
  by_cases hi : Lib.index l [47] = -1
  ·simp [hi, Pj]
  ·have e1 : (Lib.index l [47] == -1) = false := by simpa using hi
   have e2 : (Lib.index l [47] + 1 == -1) = false := by simp; omega
   have e3 : (Lib.index l [47] + 1).toNat = (Lib.index l [47]).toNat + 1 := by omega
   simp only [e1, e2, e3, zaa, if_false, Pj, zaR, zas]
   rw [show (Lib.index l [47]).toNat + 1 + 1 = ((Lib.index l [47]).toNat + 1) + 1 from rfl, List.drop_succ_cons, List.take_succ_cons]
   rfl
theorem Tp : ∀ (l cur : List UInt8), lvL cur l = Pj cur (Lib.splitK [47] 0 (Lib.count l [47]) l)
 | [], cur => by
  have e : Lib.count [] [47] = 0 := by rw [Lib.count_one]; rfl
  rw [e]
  simp [lvL, Lib.splitK, Pj]
 | b :: l, cur => by
  rw [lvL]
  by_cases h : b = 47
  ·subst h
   rw [if_pos rfl, Tp l [], Lib.count_cons_eq, zbM, Lib.splitK, Aik]
   rw [Y2 (T1 _ _ _)]
   simp [Pj]
  ·rw [if_neg h, Tp l (cur ++ [b]), Lib.count_cons_ne _ _ _ h, Yb b h, AaV _ _ (T1 _ _ _)]
theorem Abz (s : ByteArray) : ofL s.data.toList = s := by
 cases s
 rfl
theorem AkP (l : List ByteArray) : (l.map (·.data.toList)).map ofL = l := by
 rw [zbT]
 conv => rhs; rw [← List.map_id l]
 exact List.map_congr_left fun s _ => Abz s
theorem S7 (s : ByteArray) : Lib.splitB X3 0 (Lib.countB s X3) s = Be s := by
 have h := Lib.splitB_data X3 0 (Lib.countB s X3) s
 rw [← AkP (Lib.splitB X3 0 (Lib.countB s X3) s), h, Be, Tp, Y2 (T1 _ _ _)]
 rfl
theorem AcI (s : ByteArray) : (Be s).length = Lib.countB s X3 + 1 := by
 rw [← S7]
 exact Lib.splitB_all X3 (zao _) 0 _ s rfl
theorem Sj (chars : List UInt8) : ∀ l : List UInt8, decide (0 ≤ Lib.indexAny l chars) = l.any fun c => chars.contains c
 | [] => rfl
 | b :: l => by
  have ih := Sj chars l
  have hge := Lib.indexAny_ge chars l
  rw [Lib.indexAny, zbI, ← ih]
  by_cases h : chars.contains b = true
  ·rw [if_pos h, h]
   simp
  ·rw [if_neg h]
   have h' : chars.contains b = false := by simpa using h
   rw [h', za7]
   by_cases hi : Lib.indexAny l chars = -1
   ·rw [hi]
    rfl
   ·rw [if_neg (by simpa using hi)]
    congr 1
    simp
    omega
theorem AbZ {α : Type} (p q : α → Bool) : ∀ l : List α, (l.any fun c => p c || q c) = (l.any p || l.any q)
 | [] => rfl
 | x :: l => by
  rw [zbI, zbI, zbI, AbZ p q l]
  cases p x <;> cases q x <;> simp
theorem An8 (s : ByteArray) : Lib.containsAny s.data.toList phB.data.toList = vPH s := by
 unfold Lib.containsAny vPH Iz
 rw [Sj, ← AbZ]
 congr 1
 funext c
 simp [phB]
 rfl
end
section
open Go
def Qf : Nat → List UInt8 → Bool
 | 0, _ => true
 | n + 1, l => if l = [] then true else if (Lib.decodeL l).1 = 65533 ∧ (Lib.decodeL l).2 = 1 then false else if (Lib.decodeL l).1 = 0 then false else Qf n (l.drop (Lib.decodeL l).2)
def Bv (s : ByteArray) : Bool := decide (s.size ≤ 60) && Qf s.size s.data.toList
def Aag (ty : Nat) (vs : List AV) : Option AV :=
 match vs with
 | [.sc (.string s)] => if s.size ≤ maxLen then some (.sc (.bool (Bv s))) else none
 | _ => none
def V7 (ty : Nat) (vs : List AV) : Option AV :=
 match vs with
 | [.sc (.string s), .sc (.string c)] => if c.data.toList = [43, 35] ∧ s.size < 4294967281 then some (.sc (.bool (vPH s))) else none
 | _ => none
def Te (ty : Nat) (vs : List AV) : Option AV :=
 match vs with
 | [.sc (.string s), .sc (.string c)] => if ty = 56 ∧ c.data.toList = [47] ∧ s.size < 4294967281 then some (.ro (Be s).length ((Be s).map fun x => .sc (.string x))) else none
 | _ => none
end
set_option maxRecDepth 100000
section
open Go
variable {β : Type} (p : Pr β)
noncomputable def tis : List (Option TI) := [none,
 none,
 some ⟨false, false, 1, 8, [(.int .i64 0)], 0, [], some .i64, false, false, [2], false⟩,
 some ⟨false, false, 1, 8, [(.int .i64 0)], 0, [], some .i64, false, false, [3], false⟩,
 some ⟨false, false, 1, 1, [(.bool false)], 0, [], none, false, true, [4], false⟩,
 some ⟨false, false, 1, 1, [(.int .u8 0)], 0, [], some .u8, false, false, [5], false⟩,
 some ⟨false, false, 1, 1, [(.int .u8 0)], 0, [], some .u8, false, false, [6], false⟩,
 none,
 none,
 some ⟨false, false, 1, 16, [(.string ⟨#[]⟩)], 0, [], none, true, false, [9], false⟩,
 some ⟨false, false, 1, 16, [(.string ⟨#[]⟩)], 0, [], none, true, false, [10], false⟩,
 some ⟨false, false, 1, 16, [(.string ⟨#[]⟩)], 0, [], none, true, false, [11], false⟩,
 some ⟨false, false, 1, 8, [(.int .u64 0)], 0, [], some .u64, false, false, [12], false⟩,
 none,
 none,
 none,
 none,
 none,
 none,
 none,
 none,
 some ⟨false, false, 1, 4, [(.int .i32 0)], 0, [], some .i32, false, false, [21], false⟩,
 some ⟨false, true, 1, 24, [(.slice none 0 0)], 5, [], none, false, false, [22], false⟩,
 none,
 some ⟨true, false, 2, 32, [(.slice none 0 0), (.bool false)], 0, [(0, 22), (1, 4)], none, false, false, [22, 4], false⟩,
 none,
 none,
 none,
 none,
 none,
 none,
 none,
 some ⟨true, false, 2, 32, [(.slice none 0 0), (.bool false)], 0, [(0, 22), (1, 4)], none, false, false, [22, 4], false⟩,
 some ⟨false, true, 1, 24, [(.slice none 0 0)], 59, [], none, false, false, [33], false⟩,
 none,
 none,
 none,
 none,
 none,
 none,
 some ⟨false, true, 1, 24, [(.slice none 0 0)], 22, [], none, false, false, [40], false⟩,
 none,
 none,
 none,
 none,
 none,
 none,
 none,
 none,
 none,
 none,
 none,
 none,
 none,
 none,
 some ⟨false, true, 1, 24, [(.slice none 0 0)], 105, [], none, false, false, [55], false⟩,
 some ⟨false, true, 1, 24, [(.slice none 0 0)], 9, [], none, false, false, [56], false⟩,
 some ⟨false, true, 1, 24, [(.slice none 0 0)], 3, [], none, false, false, [57], false⟩,
 none,
 some ⟨true, false, 25, 320, [(.int .i64 0), (.bool false), (.int .i64 0), (.bool false), (.int .i64 0), (.string ⟨#[]⟩), (.slice none 0 0), (.string ⟨#[]⟩), (.int .i64 0), (.bool false), (.int .i64 0), (.bool false), (.string ⟨#[]⟩), (.slice none 0 0), (.int .i64 0), (.bool false), (.bool false), (.string ⟨#[]⟩), (.bool false), (.slice none 0 0), (.int .i64 0), (.bool false), (.slice none 0 0), (.slice none 0 0), (.slice none 0 0)], 0, [(0, 3), (1, 4), (2, 3), (3, 4), (4, 3), (5, 9), (6, 22), (7, 9), (8, 3), (9, 4), (10, 3), (11, 4), (12, 9), (13, 22), (14, 3), (15, 4), (16, 4), (17, 9), (18, 4), (19, 22), (20, 3), (21, 4), (22, 55), (23, 56), (24, 57)], none, false, false, [3, 4, 3, 4, 3, 9, 22, 9, 3, 4, 3, 4, 9, 22, 3, 4, 4, 9, 4, 22, 3, 4, 55, 56, 57], false⟩,
 none,
 none,
 none,
 none,
 none,
 none,
 none,
 none,
 none,
 none,
 none,
 none,
 none,
 none,
 none,
 none,
 none,
 none,
 none,
 none,
 none,
 none,
 none,
 none,
 none,
 none,
 none,
 none,
 none,
 none,
 none,
 none,
 none,
 none,
 none,
 none,
 none,
 none,
 none,
 none,
 none,
 none,
 none,
 none,
 none,
 some ⟨true, false, 2, 24, [(.string ⟨#[]⟩), (.int .i64 0)], 0, [(0, 9), (1, 3)], none, false, false, [9, 3], true⟩,
 none,
 none,
 none,
 none,
 none,
 none,
 none,
 none,
 none,
 none,
 none,
 none,
 none,
 some ⟨true, false, 3, 40, [(.slice none 0 0), (.int .i64 0), (.bool false)], 0, [(0, 22), (1, 3), (2, 4)], none, false, false, [22, 3, 4], false⟩]
noncomputable def A5 (f : Func) : Code := match f.body with | some c => c | none => .skip
noncomputable def c47 : Code := A5 Tryz.f47
noncomputable def c15 : Code := A5 Tryz.f15
noncomputable def c32 : Code := A5 Tryz.f32
noncomputable def c18 : Code := A5 Tryz.f18
noncomputable def c61 : Code := A5 Tryz.f61
noncomputable def c62 : Code := A5 Tryz.f62
noncomputable def c88 : Code := A5 Tryz.f88
noncomputable def ApG : Code := A5 Tryz.f126
noncomputable def c81 : Code := A5 Tryz.f81
noncomputable def Amz : Code := A5 Tryz.f143
noncomputable def Ams : Code := A5 Tryz.f115
noncomputable def c80 : Code := A5 Tryz.f80
noncomputable def c87 : Code := A5 Tryz.f87
noncomputable def c86 : Code := A5 Tryz.f86
noncomputable def c63 : Code := A5 Tryz.f63
noncomputable def c90 : Code := A5 Tryz.f90
noncomputable def c65 : Code := A5 Tryz.f65
noncomputable def c89 : Code := A5 Tryz.f89
noncomputable def Amt : Code := A5 Tryz.f127
noncomputable def Amu : Code := A5 Tryz.f128
noncomputable def c91 : Code := A5 Tryz.f91
noncomputable def c92 : Code := A5 Tryz.f92
noncomputable def c64 : Code := A5 Tryz.f64
noncomputable def c95 : Code := A5 Tryz.f95
noncomputable def c93 : Code := A5 Tryz.f93
noncomputable def c94 : Code := A5 Tryz.f94
noncomputable def c96 : Code := A5 Tryz.f96
noncomputable def c97 : Code := A5 Tryz.f97
noncomputable def c66 : Code := A5 Tryz.f66
noncomputable def c31 : Code := A5 Tryz.f31
noncomputable def c29 : Code := A5 Tryz.f29
noncomputable def c51 : Code := A5 Tryz.f51
noncomputable def c41 : Code := A5 Tryz.f41
noncomputable def c98 : Code := A5 Tryz.f98
noncomputable def c67 : Code := A5 Tryz.f67
noncomputable def c68 : Code := A5 Tryz.f68
noncomputable def ApI : Code := A5 Tryz.f130
noncomputable def c77 : Code := A5 Tryz.f77
noncomputable def ApP : Code := A5 Tryz.f146
noncomputable def ApH : Code := A5 Tryz.f129
noncomputable def Ap5 : Code := A5 Tryz.f101
noncomputable def Ap4 : Code := A5 Tryz.f100
noncomputable def Ap6 : Code := A5 Tryz.f102
noncomputable def c99 : Code := A5 Tryz.f99
noncomputable def ApJ : Code := A5 Tryz.f131
noncomputable def Aol : Code := A5 Tryz.f103
noncomputable def c69 : Code := A5 Tryz.f69
noncomputable def Ap8 : Code := A5 Tryz.f105
noncomputable def c71 : Code := A5 Tryz.f71
noncomputable def Amv : Code := A5 Tryz.f132
noncomputable def Amw : Code := A5 Tryz.f133
noncomputable def Amx : Code := A5 Tryz.f134
noncomputable def Ap7 : Code := A5 Tryz.f104
noncomputable def ApK : Code := A5 Tryz.f137
noncomputable def ApB : Code := A5 Tryz.f108
noncomputable def ApA : Code := A5 Tryz.f107
noncomputable def ApF : Code := A5 Tryz.f118
noncomputable def Ap9 : Code := A5 Tryz.f106
noncomputable def ApC : Code := A5 Tryz.f109
noncomputable def ApQ : Code := A5 Tryz.f150
noncomputable def Amy : Code := A5 Tryz.f138
noncomputable def Vx : Code := A5 Tryz.f110
noncomputable def c70 : Code := A5 Tryz.f70
noncomputable def ApM : Code := A5 Tryz.f140
noncomputable def ApO : Code := A5 Tryz.f142
noncomputable def ApN : Code := A5 Tryz.f141
noncomputable def ApR : Code := A5 Tryz.f151
noncomputable def ApL : Code := A5 Tryz.f139
noncomputable def Vy : Code := A5 Tryz.f111
noncomputable def ApD : Code := A5 Tryz.f113
noncomputable def Amr : Code := A5 Tryz.f112
noncomputable def c72 : Code := A5 Tryz.f72
noncomputable def c33 : Code := A5 Tryz.f33
noncomputable def c30 : Code := A5 Tryz.f30
noncomputable def c52 : Code := A5 Tryz.f52
noncomputable def c76 : Code := A5 Tryz.f76
noncomputable def c42 : Code := A5 Tryz.f42
noncomputable def c35 : Code := A5 Tryz.f35
noncomputable def c21 : Code := A5 Tryz.f21
noncomputable def ApE : Code := A5 Tryz.f114
noncomputable def c73 : Code := A5 Tryz.f73
noncomputable def c74 : Code := A5 Tryz.f74
noncomputable def c75 : Code := A5 Tryz.f75
noncomputable def c34 : Code := A5 Tryz.f34
noncomputable def c22 : Code := A5 Tryz.f22
noncomputable def c36 : Code := A5 Tryz.f36
noncomputable def c24 : Code := A5 Tryz.f24
noncomputable def c53 : Code := A5 Tryz.f53
noncomputable def c54 : Code := A5 Tryz.f54
noncomputable def c55 : Code := A5 Tryz.f55
noncomputable def c56 : Code := A5 Tryz.f56
noncomputable def c26 : Code := A5 Tryz.f26
noncomputable def c57 : Code := A5 Tryz.f57
noncomputable def c27 : Code := A5 Tryz.f27
noncomputable def c58 : Code := A5 Tryz.f58
noncomputable def c59 : Code := A5 Tryz.f59
noncomputable def c60 : Code := A5 Tryz.f60
noncomputable def c28 : Code := A5 Tryz.f28
noncomputable def c8 : Code := A5 Tryz.f8
noncomputable def o88 : List (Nat × PI) := [(3, PI.of [0, 1, 2, 3, 4, 5, 6, 7, 8, 9, 10, 11, 12, 13, 14, 15, 16, 17])]
noncomputable def o63 : List (Nat × PI) := [(36, PI.of [0, 1, 2, 3, 4, 5, 6, 7, 8, 9, 10]), (46, PI.of [0, 1, 2, 3, 4, 5, 6, 7, 8, 9, 10, 11, 12])]
noncomputable def o89 : List (Nat × PI) := [(6, PI.of [0, 1, 2, 3, 4, 5, 6, 7, 8, 9, 10]), (11, PI.of [0, 1, 2, 3, 4, 5, 6, 7, 8, 9, 10]), (16, PI.of [0, 1, 2, 3, 4, 5, 6, 7, 8, 9, 10])]
noncomputable def o64 : List (Nat × PI) := [(1, .one 0 (.one 1 (.one 2 (.one 3 (.one 4 (.one 6 (.two 5 (PI.of [7, 8, 9, 10]) 7 (PI.of [5, 8, 9, 10]))))))))]
noncomputable def o66 : List (Nat × PI) := [(7, .one 0 (.one 2 (.one 3 (.one 4 (.two 1 (PI.of [5, 6, 7]) 5 (PI.of [1, 6, 7])))))), (8, PI.of [0, 1, 2, 4, 5, 8, 9, 10, 12, 13, 16, 17, 20, 21, 3, 6, 7, 11, 14, 15, 18, 19, 22, 23, 24, 25, 26, 27]), (9, PI.of [0, 1, 2, 4, 5, 3, 6, 7]), (11, PI.of [0, 1, 2, 4, 5, 3, 6, 7]), (17, PI.of [0, 1, 2, 5, 6, 7, 3, 4, 8, 9, 10]), (19, PI.of [0, 1, 2, 5, 6, 7, 9, 10, 3, 4, 8, 11, 12, 13]), (33, .one 0 (.one 1 (.one 2 (.one 3 (.one 4 (.one 5 (.one 6 (.one 8 (.one 9 (.one 10 (.one 11 (.one 12 (.one 13 (.one 14 (.two 7 (PI.of [15, 16, 17]) 15 (PI.of [7, 16, 17]))))))))))))))))]
noncomputable def o31 : List (Nat × PI) := [(12, .one 0 (.one 1 (.one 2 (.one 3 (.one 4 (.one 5 (.one 6 (.one 7 (.one 8 (.one 9 (.two 10 (PI.of [11, 12]) 11 (PI.of [10, 12])))))))))))), (13, PI.of [0, 1, 2, 3, 4, 6, 7, 8, 9, 10, 5, 11, 12, 13])]
noncomputable def o51 : List (Nat × PI) := [(1, PI.of [1, 2, 4, 5, 0, 3, 6, 7])]
noncomputable def Apf : List (Nat × PI) := [(3, PI.of [0, 1, 2, 3, 4, 5, 6, 7, 8, 9, 10, 11, 12, 13, 14, 15, 16, 17])]
noncomputable def Ape : List (Nat × PI) := [(1, PI.of [0, 1, 2, 3, 4, 5, 6, 7, 8, 9, 10, 11, 12, 13, 14, 15])]
noncomputable def Apa : List (Nat × PI) := [(1, PI.of [0, 1, 2, 3, 4, 5, 6, 7, 8, 9, 10, 11, 12, 13, 14, 15]), (5, PI.of [0, 1, 2, 3, 4, 5, 6, 7, 8, 9, 10, 11, 12])]
noncomputable def Apb : List (Nat × PI) := [(1, PI.of [0, 1, 2, 3, 4, 5, 6, 7, 8, 9, 10, 11, 12, 13, 14, 15])]
noncomputable def Apg : List (Nat × PI) := [(1, PI.of [0, 1, 2, 3, 4, 5, 6, 7, 8, 9, 10, 11, 12, 13, 14, 15, 16, 17])]
noncomputable def AnF : List (Nat × PI) := [(0, PI.of [0, 1, 2, 3, 4, 5, 6, 7, 8, 9, 10, 11, 12, 13, 14, 15, 16, 17, 18, 19, 20, 21]), (7, PI.of [0, 1, 2, 3, 4, 5, 6, 7, 8, 9, 10])]
noncomputable def Apc : List (Nat × PI) := [(4, .one 0 (.one 1 (.one 2 (.one 4 (.one 6 (.one 8 (.one 10 (.one 12 (.ld 3 (.ld 5 (.ld 7 (.ld 9 (.ld 11 (.st 13 3 (.one 14 (.st 15 3 (.one 16 (.st 17 3 (.one 18 (.st 19 3 (.one 20 (.st 21 3 (PI.of [22, 23]))))))))))))))))))))))), (6, .one 0 (.one 1 (.one 2 (.one 4 (.one 6 (.one 8 (.ld 3 (.ld 5 (.ld 7 (.st 9 3 (.one 10 (.st 11 3 (.one 12 (.st 13 3 (PI.of [14, 15]))))))))))))))), (8, .one 0 (.one 1 (.one 2 (.one 4 (.ld 3 (.st 5 3 (PI.of [6, 7]))))))), (12, .one 0 (.one 1 (.one 2 (.one 4 (.ld 3 (.st 5 3 (PI.of [6, 7]))))))), (14, .one 0 (.one 1 (.one 2 (.one 4 (.one 6 (.one 8 (.ld 3 (.ld 5 (.ld 7 (.st 9 3 (.one 10 (.st 11 3 (.one 12 (.st 13 3 (PI.of [14, 15]))))))))))))))), (16, .one 0 (.one 1 (.one 2 (.one 4 (.ld 3 (.st 5 3 (PI.of [6, 7]))))))), (24, .one 0 (.one 1 (.one 2 (.one 4 (.ld 3 (.st 5 3 (PI.of [6, 7]))))))), (26, .one 0 (.one 1 (.one 2 (.one 4 (.ld 3 (.st 5 3 (PI.of [6, 7]))))))), (28, .one 0 (.one 1 (.one 2 (.one 4 (.ld 3 (.st 5 3 (PI.of [6, 7])))))))]
noncomputable def AkS : List (Nat × PI) := [(6, PI.of [0, 1, 2, 3, 4, 5, 6, 7, 8])]
noncomputable def AkT : List (Nat × PI) := [(6, PI.of [0, 1, 2, 3, 4, 5, 6, 7, 8])]
noncomputable def AkU : List (Nat × PI) := [(6, PI.of [0, 1, 2, 3, 4, 5, 6, 7, 8])]
noncomputable def o70 : List (Nat × PI) := [(1, .one 0 (.one 1 (.one 2 (.one 3 (.one 4 (.one 6 (.two 5 (PI.of [7, 8, 9, 10]) 7 (PI.of [5, 8, 9, 10]))))))))]
noncomputable def ApY : List (Nat × PI) := [(1, PI.of [0, 1, 3, 4, 7, 8, 9, 11, 12, 15, 16, 19, 20, 2, 5, 6, 10, 13, 14, 17, 18, 21, 22, 23]), (2, .one 1 (.one 2 (.one 3 (.one 4 (.one 5 (.two 0 (PI.of [6, 7, 8]) 6 (PI.of [0, 7, 8]))))))), (3, PI.of [0, 1, 2, 4, 5, 3, 6, 7]), (5, PI.of [0, 1, 2, 4, 5, 3, 6, 7])]
noncomputable def Xg : List (Nat × PI) := [(6, PI.of [0, 1, 4, 5, 6, 2, 3, 7, 8]), (20, .one 0 (.one 1 (.one 2 (.one 4 (.one 5 (.one 6 (.two 3 (PI.of [7, 8, 9]) 7 (PI.of [3, 8, 9]))))))))]
noncomputable def Apd : List (Nat × PI) := [(4, PI.of [0, 1, 2, 4, 5, 6, 8, 9, 3, 7, 10, 11, 12, 13])]
noncomputable def o33 : List (Nat × PI) := [(12, .one 0 (.one 1 (.one 2 (.one 3 (.one 4 (.one 5 (.one 6 (.one 7 (.one 8 (.one 9 (.two 10 (PI.of [11, 12]) 11 (PI.of [10, 12])))))))))))), (13, PI.of [0, 1, 2, 3, 4, 6, 7, 8, 9, 10, 5, 11, 12, 13])]
noncomputable def o52 : List (Nat × PI) := [(1, PI.of [0, 1, 4, 5, 2, 3, 6, 7])]
noncomputable def o35 : List (Nat × PI) := [(6, PI.of [0, 1, 2, 3, 4, 5, 6, 7, 8])]
noncomputable def o73 : List (Nat × PI) := [(6, PI.of [0, 1, 2, 3, 4, 5, 6, 7, 8, 9])]
noncomputable def o74 : List (Nat × PI) := [(6, PI.of [0, 1, 2, 3, 4, 5, 6, 7, 8])]
noncomputable def o75 : List (Nat × PI) := [(6, PI.of [0, 1, 2, 3, 4, 5, 6, 7, 8])]
noncomputable def o22 : List (Nat × PI) := [(6, PI.of [0, 1, 2, 3, 4, 5, 6, 7, 8, 9])]
noncomputable def o58 : List (Nat × PI) := [(4, PI.of [0, 1, 2, 3, 4, 5, 6, 7])]
noncomputable def o59 : List (Nat × PI) := [(4, PI.of [0, 1, 2, 3, 4, 5, 6])]
noncomputable def o28 : List (Nat × PI) := [(19, PI.of [0, 1, 2, 3, 4, 5, 6, 7]), (25, PI.of [0, 1, 2, 3, 4, 5, 6, 7]), (40, PI.of [0, 1, 2, 3, 4, 5, 6, 7]), (55, PI.of [0, 1, 2, 3, 4, 5, 6, 7])]
noncomputable def o8 : List (Nat × PI) := [(13, PI.of [0, 1, 2, 3, 4])]
noncomputable abbrev Aoz : E7 := ⟨c47, 12, Tryz.f47.results.toList, []⟩
noncomputable abbrev Aoo : E7 := ⟨c15, 12, Tryz.f15.results.toList, []⟩
noncomputable abbrev fi32 : E7 := ⟨c32, 22, Tryz.f32.results.toList, []⟩
noncomputable abbrev Aop : E7 := ⟨c18, 12, Tryz.f18.results.toList, []⟩
noncomputable abbrev Ao2 : E7 := ⟨c61, 37, Tryz.f61.results.toList, []⟩
noncomputable abbrev fi62 : E7 := ⟨c62, 55, Tryz.f62.results.toList, []⟩
noncomputable abbrev AoD : E7 := ⟨c88, 31, Tryz.f88.results.toList, o88⟩
noncomputable abbrev AlI : E7 := ⟨ApG, 43, Tryz.f126.results.toList, []⟩
noncomputable abbrev AoA : E7 := ⟨c81, 15, Tryz.f81.results.toList, []⟩
noncomputable abbrev fi143 : E7 := ⟨Amz, 104, Tryz.f143.results.toList, []⟩
noncomputable abbrev fi115 : E7 := ⟨Ams, 35, Tryz.f115.results.toList, []⟩
noncomputable abbrev Ao9 : E7 := ⟨c80, 6, Tryz.f80.results.toList, []⟩
noncomputable abbrev AoC : E7 := ⟨c87, 28, Tryz.f87.results.toList, []⟩
noncomputable abbrev AoB : E7 := ⟨c86, 168, Tryz.f86.results.toList, []⟩
noncomputable abbrev fi63 : E7 := ⟨c63, 186, Tryz.f63.results.toList, o63⟩
noncomputable abbrev AoE : E7 := ⟨c90, 120, Tryz.f90.results.toList, []⟩
noncomputable abbrev Ao3 : E7 := ⟨c65, 10, Tryz.f65.results.toList, []⟩
noncomputable abbrev fi89 : E7 := ⟨c89, 239, Tryz.f89.results.toList, o89⟩
noncomputable abbrev fi127 : E7 := ⟨Amt, 17, Tryz.f127.results.toList, []⟩
noncomputable abbrev fi128 : E7 := ⟨Amu, 33, Tryz.f128.results.toList, []⟩
noncomputable abbrev AoF : E7 := ⟨c91, 25, Tryz.f91.results.toList, []⟩
noncomputable abbrev fi92 : E7 := ⟨c92, 57, Tryz.f92.results.toList, []⟩
noncomputable abbrev fi64 : E7 := ⟨c64, 191, Tryz.f64.results.toList, o64⟩
noncomputable abbrev AoI : E7 := ⟨c95, 17, Tryz.f95.results.toList, []⟩
noncomputable abbrev AoG : E7 := ⟨c93, 17, Tryz.f93.results.toList, []⟩
noncomputable abbrev AoH : E7 := ⟨c94, 7, Tryz.f94.results.toList, []⟩
noncomputable abbrev AoJ : E7 := ⟨c96, 17, Tryz.f96.results.toList, []⟩
noncomputable abbrev fi97 : E7 := ⟨c97, 29, Tryz.f97.results.toList, []⟩
noncomputable abbrev fi66 : E7 := ⟨c66, 204, Tryz.f66.results.toList, o66⟩
noncomputable abbrev Aov : E7 := ⟨c31, 70, Tryz.f31.results.toList, o31⟩
noncomputable abbrev Aot : E7 := ⟨c29, 24, Tryz.f29.results.toList, []⟩
noncomputable abbrev Ao0 : E7 := ⟨c51, 10, Tryz.f51.results.toList, o51⟩
noncomputable abbrev fi41 : E7 := ⟨c41, 61, Tryz.f41.results.toList, []⟩
noncomputable abbrev AoK : E7 := ⟨c98, 15, Tryz.f98.results.toList, []⟩
noncomputable abbrev Ao4 : E7 := ⟨c67, 39, Tryz.f67.results.toList, []⟩
noncomputable abbrev fi68 : E7 := ⟨c68, 52, Tryz.f68.results.toList, []⟩
noncomputable abbrev AlK : E7 := ⟨ApI, 31, Tryz.f130.results.toList, Apf⟩
noncomputable abbrev fi77 : E7 := ⟨c77, 18, Tryz.f77.results.toList, []⟩
noncomputable abbrev AlR : E7 := ⟨ApP, 42, Tryz.f146.results.toList, []⟩
noncomputable abbrev AlJ : E7 := ⟨ApH, 35, Tryz.f129.results.toList, Ape⟩
noncomputable abbrev Al7 : E7 := ⟨Ap5, 6, Tryz.f101.results.toList, []⟩
noncomputable abbrev Al6 : E7 := ⟨Ap4, 41, Tryz.f100.results.toList, Apa⟩
noncomputable abbrev Al8 : E7 := ⟨Ap6, 35, Tryz.f102.results.toList, Apb⟩
noncomputable abbrev AoL : E7 := ⟨c99, 92, Tryz.f99.results.toList, []⟩
noncomputable abbrev AlL : E7 := ⟨ApJ, 20, Tryz.f131.results.toList, Apg⟩
noncomputable abbrev fi103 : E7 := ⟨Aol, 83, Tryz.f103.results.toList, AnF⟩
noncomputable abbrev Ao5 : E7 := ⟨c69, 77, Tryz.f69.results.toList, []⟩
noncomputable abbrev AlA : E7 := ⟨Ap8, 121, Tryz.f105.results.toList, Apc⟩
noncomputable abbrev Ao7 : E7 := ⟨c71, 10, Tryz.f71.results.toList, []⟩
noncomputable abbrev fi132 : E7 := ⟨Amv, 26, Tryz.f132.results.toList, AkS⟩
noncomputable abbrev fi133 : E7 := ⟨Amw, 26, Tryz.f133.results.toList, AkT⟩
noncomputable abbrev fi134 : E7 := ⟨Amx, 26, Tryz.f134.results.toList, AkU⟩
noncomputable abbrev Al9 : E7 := ⟨Ap7, 186, Tryz.f104.results.toList, []⟩
noncomputable abbrev AlM : E7 := ⟨ApK, 5, Tryz.f137.results.toList, []⟩
noncomputable abbrev AlD : E7 := ⟨ApB, 20, Tryz.f108.results.toList, []⟩
noncomputable abbrev AlC : E7 := ⟨ApA, 5, Tryz.f107.results.toList, []⟩
noncomputable abbrev AlH : E7 := ⟨ApF, 5, Tryz.f118.results.toList, []⟩
noncomputable abbrev AlB : E7 := ⟨Ap9, 50, Tryz.f106.results.toList, []⟩
noncomputable abbrev AlE : E7 := ⟨ApC, 5, Tryz.f109.results.toList, []⟩
noncomputable abbrev AlS : E7 := ⟨ApQ, 19, Tryz.f150.results.toList, []⟩
noncomputable abbrev fi138 : E7 := ⟨Amy, 35, Tryz.f138.results.toList, []⟩
noncomputable abbrev fi110 : E7 := ⟨Vx, 65, Tryz.f110.results.toList, []⟩
noncomputable abbrev Ao6 : E7 := ⟨c70, 81, Tryz.f70.results.toList, o70⟩
noncomputable abbrev AlO : E7 := ⟨ApM, 7, Tryz.f140.results.toList, []⟩
noncomputable abbrev AlQ : E7 := ⟨ApO, 16, Tryz.f142.results.toList, []⟩
noncomputable abbrev AlP : E7 := ⟨ApN, 19, Tryz.f141.results.toList, []⟩
noncomputable abbrev AlT : E7 := ⟨ApR, 18, Tryz.f151.results.toList, []⟩
noncomputable abbrev AlN : E7 := ⟨ApL, 65, Tryz.f139.results.toList, ApY⟩
noncomputable abbrev fi111 : E7 := ⟨Vy, 96, Tryz.f111.results.toList, Xg⟩
noncomputable abbrev AlF : E7 := ⟨ApD, 31, Tryz.f113.results.toList, Apd⟩
noncomputable abbrev fi112 : E7 := ⟨Amr, 29, Tryz.f112.results.toList, []⟩
noncomputable abbrev Ao8 : E7 := ⟨c72, 19, Tryz.f72.results.toList, []⟩
noncomputable abbrev Aow : E7 := ⟨c33, 73, Tryz.f33.results.toList, o33⟩
noncomputable abbrev Aou : E7 := ⟨c30, 26, Tryz.f30.results.toList, []⟩
noncomputable abbrev Ao1 : E7 := ⟨c52, 10, Tryz.f52.results.toList, o52⟩
noncomputable abbrev fi76 : E7 := ⟨c76, 37, Tryz.f76.results.toList, []⟩
noncomputable abbrev Aoy : E7 := ⟨c42, 41, Tryz.f42.results.toList, []⟩
noncomputable abbrev fi35 : E7 := ⟨c35, 26, Tryz.f35.results.toList, o35⟩
noncomputable abbrev Aoq : E7 := ⟨c21, 16, Tryz.f21.results.toList, []⟩
noncomputable abbrev AlG : E7 := ⟨ApE, 15, Tryz.f114.results.toList, []⟩
noncomputable abbrev fi73 : E7 := ⟨c73, 27, Tryz.f73.results.toList, o73⟩
noncomputable abbrev fi74 : E7 := ⟨c74, 26, Tryz.f74.results.toList, o74⟩
noncomputable abbrev fi75 : E7 := ⟨c75, 26, Tryz.f75.results.toList, o75⟩
noncomputable abbrev Aox : E7 := ⟨c34, 136, Tryz.f34.results.toList, []⟩
noncomputable abbrev fi22 : E7 := ⟨c22, 27, Tryz.f22.results.toList, o22⟩
noncomputable abbrev fi36 : E7 := ⟨c36, 20, Tryz.f36.results.toList, []⟩
noncomputable abbrev Aor : E7 := ⟨c24, 10, Tryz.f24.results.toList, []⟩
noncomputable abbrev fi53 : E7 := ⟨c53, 20, Tryz.f53.results.toList, []⟩
noncomputable abbrev fi54 : E7 := ⟨c54, 28, Tryz.f54.results.toList, []⟩
noncomputable abbrev fi55 : E7 := ⟨c55, 20, Tryz.f55.results.toList, []⟩
noncomputable abbrev fi56 : E7 := ⟨c56, 19, Tryz.f56.results.toList, []⟩
noncomputable abbrev fi26 : E7 := ⟨c26, 208, Tryz.f26.results.toList, []⟩
noncomputable abbrev fi57 : E7 := ⟨c57, 22, Tryz.f57.results.toList, []⟩
noncomputable abbrev Aos : E7 := ⟨c27, 12, Tryz.f27.results.toList, []⟩
noncomputable abbrev fi58 : E7 := ⟨c58, 32, Tryz.f58.results.toList, o58⟩
noncomputable abbrev fi59 : E7 := ⟨c59, 22, Tryz.f59.results.toList, o59⟩
noncomputable abbrev fi60 : E7 := ⟨c60, 21, Tryz.f60.results.toList, []⟩
noncomputable abbrev fi28 : E7 := ⟨c28, 258, Tryz.f28.results.toList, o28⟩
noncomputable abbrev fi8 : E7 := ⟨c8, 133, Tryz.f8.results.toList, o8⟩
abbrev uu : AV := .sc undef
noncomputable def tf : Nat → Nat → (Nat → AV) → Tm
 | 0, _, _ => []
 | n + 1, i, t => (i, t i) :: tf n (i + 1) t
noncomputable def ut : Nat → AV := fun _ => uu
noncomputable def ud : List (Nat × AV) → (Nat → AV) → Nat → AV
 | [], t, i => t i
 | (j, v) :: r, t, i => match zbC j i with
  | true => v
  | false => ud r t i
theorem AbP : ∀ (n i : Nat) (t : Nat → AV), tf n i t = (List.range' i n).map fun j => (j, t j)
 | 0, _, _ => rfl
 | n + 1, i, t => by
  rw [tf, AbP n (i + 1) t, List.range'_succ, zat]
theorem AnE (nt : Nat) (tm : Tm) : nrm nt tm = tf nt 0 (fun i => gt tm i) := by
 rw [AbP, nrm, List.range_eq_range']
theorem Bb {nt m : Nat} {body : Tm → Ab → (Ex → Tm → Ab → Option β) → Option β} {c c' : Ex → Tm → Ab → Option β} {g : (Nat → AV) → Ab → Option β} {tm : Tm} {H : Ab} (h : ∀ t H, C7 nt body c m (tf nt 0 t) H = g t H) (hc : c = c') : C7 nt body c (m + 1) tm H = body tm H (Dt (fun tm H => g (fun i => gt tm i) H) c') := by
 have e : (fun tm H => C7 nt body c m (nrm nt tm) H) = fun tm H => g (fun i => gt tm i) H := by
  funext tm H
  rw [AnE, h]
 rw [C7, e, hc]
noncomputable def Ak (t : Nat) : Option TI := (tis[t]?).getD none
noncomputable def cd : Code → List Nat → Code
 | c, [] => c
 | .seq a b, i :: p => cd (if i = 0 then a else b) p
 | .cond _ a b, i :: p => cd (if i = 1 then a else b) p
 | .block _ a, _ :: p => cd a p
 | .loop a, _ :: p => cd a p
 | c, _ => c
abbrev Nh (i : E7) (f : (β : Type) → Pr β → Nat → AV → Ab → KO β → Option β) : Prop := ∀ {β : Type} (p : Pr β) (n : Nat) (a0 : AV) (H : Ab) (k : KO β), Bw Ak p n i [a0] H k = f β p n a0 H k
abbrev J6 (i : E7) (f : (β : Type) → Pr β → Nat → AV → AV → Ab → KO β → Option β) : Prop := ∀ {β : Type} (p : Pr β) (n : Nat) (a0 a1 : AV) (H : Ab) (k : KO β), Bw Ak p n i [a0, a1] H k = f β p n a0 a1 H k
abbrev Bd3 (i : E7) (f : (β : Type) → Pr β → Nat → AV → AV → AV → Ab → KO β → Option β) : Prop := ∀ {β : Type} (p : Pr β) (n : Nat) (a0 a1 a2 : AV) (H : Ab) (k : KO β), Bw Ak p n i [a0, a1, a2] H k = f β p n a0 a1 a2 H k
noncomputable def f47 (n : Nat) (a0 a1 : AV) (H : Ab) (k : KO β) : Option β :=
 p.len a0 fun t7 =>
 p.bin .sub a1 t7 fun t8 =>
 p.bin .lss t8 i0 fun t10 =>
 p.cond t10
 (k (si (-1)) H)
 (k t8 H)
theorem AgL : J6 Aoz @f47 := fun p n a0 a1 H k => by kernel_rfl
noncomputable def f15 (n : Nat) (a0 a1 : AV) (H : Ab) (k : KO β) : Option β :=
 p.box a0 H fun t2 H =>
 p.fadr 0 t2 fun t5 =>
 p.load false 1 t5 H fun t6 =>
 p.call 3 (.fn 47 [] []) [t6, a1] H fun t8 H =>
 p.bin .lss t8 i0 fun t10 =>
 p.cond t10
 (k (si (-1)) H)
 (k t8 H)
theorem Agw : J6 Aoo @f15 := fun p n a0 a1 H k => by kernel_rfl
noncomputable def Wf (p : Pr β) (n : Nat)  (k : KO β) : Nat → AV → AV → KO β
 | 0, _, _, _, _ => none
 | m + 1, t0, t3, t4, H => p.len t0 fun t10 =>
   p.bin .lss t4 t10 fun t11 =>
   p.cond t11
   (p.iadr 1 t0 t4 fun t18 =>
   p.load false 1 t18 H fun t19 =>
   p.iadr 1 t3 t4 fun t20 =>
   p.store 1 t20 t19 H fun H =>
   p.bin .add t4 (si 1) fun t13 =>
   Wf p n  k m t0 t3 t13 H)
   (k t3 H)
noncomputable def f32 (n : Nat) (a0 : AV) (H : Ab) (k : KO β) : Option β :=
 p.len a0 fun t6 =>
 p.make 1 1 [(su 0)] t6 t6 H fun t7 H =>
 Wf p n  k n a0 t7 i0 H
noncomputable def AgA (p : Pr β) (n : Nat)  (k : KO β) (m : Nat) (tm : Tm) (H : Ab) : Option β :=
 C7 22 (fun tm H k => Af Ak p [] 22 n (cd c32 [1, 1, 0, 1, 0, 0]) tm H k) (Eb 0 (Dt (fun tm H => Af Ak p [] 22 n (cd c32 [1, 1, 1]) tm H (B5 Ak p fi32.results k)) (B5 Ak p fi32.results k))) m tm H
theorem AeU (p : Pr β) (n : Nat)  (k : KO β) (m0 : Nat) : ∀ (t : Nat → AV) (H : Ab), AgA p n  k m0 (tf 22 0 t) H = Wf p n  k m0 (t 0) (t 3) (t 4) H := by
 induction m0 with
 | zero => intros; rfl
 | succ m0 ih =>
  intro t H
  refine Eq.trans (Bb (nt := 22) (m := m0) (g := fun t H => Wf p n  k m0 (t 0) (t 3) (t 4) H) ih rfl) ?_
  kernel_rfl
theorem AjV (p : Pr β) (n : Nat) (a0 : AV) (H : Ab) (k : KO β) : Bw Ak p n fi32 [a0] H k =
 p.len a0 fun t6 =>
 p.make 1 1 [(su 0)] t6 t6 H fun t7 H =>
 AgA p n  k n (tf 22 0 (ud [(0, a0), (2, .nl), (3, t7), (4, i0), (5, a0), (6, t6), (7, t7)] ut)) H := by kernel_rfl
theorem AgB : Nh fi32 @f32 := fun p n a0 H k => by
 rw [AjV]
 simp only [AeU]
 kernel_rfl
noncomputable def f18 (n : Nat) (a0 : AV) (H : Ab) (k : KO β) : Option β :=
 p.box a0 H fun t1 H =>
 p.new [.nl, bF] H fun t2 H =>
 p.new [.nl, bF] H fun t3 H =>
 p.fadr 0 t1 fun t4 =>
 p.load false 1 t4 H fun t5 =>
 p.call 22 (.fn 32 [] []) [t5] H fun t6 H =>
 p.fadr 0 t3 fun t7 =>
 p.store 1 t7 t6 H fun H =>
 p.fadr 1 t1 fun t8 =>
 p.load false 1 t8 H fun t9 =>
 p.fadr 1 t3 fun t10 =>
 p.store 1 t10 t9 H fun H =>
 p.load true 2 t3 H fun t11 =>
 p.store 2 t2 t11 H fun H =>
 p.load true 2 t2 H fun r0 =>
 k r0 H
theorem Agx : Nh Aop @f18 := fun p n a0 H k => by kernel_rfl
noncomputable def f61 (n : Nat) (a0 : AV) (H : Ab) (k : KO β) : Option β :=
 p.bin .quo a0 (si 16) fun t7 =>
 p.bin .rem a0 (si 16) fun t9 =>
 p.bin .eql t7 i0 fun t12 =>
 D4 (fun (t4 t10 t11 : AV) (H : Ab) => p.cond t11
 (k bF H)
 (p.bin .eql t10 (si 3) fun t15 =>
 p.cond t15
 (p.bin .quo t4 (si 2) fun t17 =>
 p.bin .rem t17 (si 4) fun t18 =>
 p.bin .lss t18 (si 3) fun t20 =>
 p.kT t20 H t18 fun t22 H =>
 p.gT t20 H (p.bin .gtr t22 i0) fun t23 H =>
 p.kT t20 H t23 fun t24 H =>
 p.kF t24 H t4 fun t25 H =>
 p.gF t24 H (p.bin .lss t25 (si 8)) fun t26 H =>
 p.gT t20 H (p.pick t24 bT t26) fun t27 H =>
 p.pick t20 t27 bF fun t28 =>
 k t28 H)
 (p.bin .eql t10 (si 6) fun t30 =>
 D4 (fun (t4 t29 : AV) (H : Ab) => p.cond t29
 (p.bin .eql t4 (si 2) fun t34 =>
 k t34 H)
 (p.bin .eql t4 i0 fun t36 =>
 k t36 H)) fun j2 =>
 p.cond t30
 (j2 t4 t30 H)
 (p.bin .eql t10 (si 8) fun t31 =>
 p.cond t31
 (j2 t4 t31 H)
 (p.bin .eql t10 (si 10) fun t32 =>
 j2 t4 t32 H))))) fun j1 =>
 p.cond t12
 (j1 t9 t7 t12 H)
 (p.bin .eql t7 (si 15) fun t13 =>
 j1 t9 t7 t13 H)
theorem Ahe : Nh Ao2 @f61 := fun p n a0 H k => by kernel_rfl
noncomputable def Rh (p : Pr β) (n : Nat)  (k : KO β) : Nat → AV → AV → AV → KO β
 | 0, _, _, _, _, _ => none
 | m + 1, t0, t1, t7, t8, H => p.bin .lss t8 (si 4) fun t19 =>
   p.cond t19
   (p.bin .add t1 t8 fun t24 =>
   p.len t0 fun t26 =>
   p.bin .geq t24 t26 fun t27 =>
   p.cond t27
   (k (Cj [i0, i0, (si 1)]) H)
   (p.bin .add t1 t8 fun t31 =>
   p.iadr 1 t0 t31 fun t32 =>
   p.load false 1 t32 H fun t33 =>
   p.cvI .i64 t33 fun t34 =>
   p.bin .and t34 (si 127) fun t37 =>
   p.bin .mul (si 7) t8 fun t39 =>
   p.bin .shl t37 t39 fun t40 =>
   p.bin .or t7 t40 fun t41 =>
   p.bin .lss t34 (si 128) fun t43 =>
   p.cond t43
   (p.bin .gtr t8 i0 fun t45 =>
   p.kT t45 H t34 fun t47 H =>
   p.gT t45 H (p.bin .eql t47 i0) fun t48 H =>
   p.pick t45 t48 bF fun t49 =>
   p.cond t49
   (k (Cj [i0, i0, (si 2)]) H)
   (p.bin .add t1 t8 fun t53 =>
   p.bin .add t53 (si 1) fun t54 =>
   k (Cj [t41, t54, i0]) H))
   (p.bin .add t8 (si 1) fun t21 =>
   Rh p n  k m t0 t1 t41 t21 H)))
   (k (Cj [i0, i0, (si 2)]) H)
noncomputable def f62 (n : Nat) (a0 a1 : AV) (H : Ab) (k : KO β) : Option β :=
 p.bin .lss a1 i0 fun t11 =>
 p.kF t11 H a1 fun t13 H =>
 p.kF t11 H a0 fun t14 H =>
 p.gF t11 H (p.len t14) fun t15 H =>
 p.gF t11 H (p.bin .gtr t13 t15) fun t16 H =>
 p.pick t11 bT t16 fun t17 =>
 p.cond t17
 (k (Cj [i0, i0, (si 2)]) H)
 (Rh p n  k n a0 a1 i0 i0 H)
noncomputable def Ahf (p : Pr β) (n : Nat)  (k : KO β) (m : Nat) (tm : Tm) (H : Ab) : Option β :=
 C7 55 (fun tm H k => Af Ak p [] 55 n (cd c62 [1, 1, 1, 0, 1, 0, 0]) tm H k) (Eb 0 (Dt (fun tm H => Af Ak p [] 55 n (cd c62 [1, 1, 1, 1]) tm H (B5 Ak p fi62.results k)) (B5 Ak p fi62.results k))) m tm H
theorem Afg (p : Pr β) (n : Nat)  (k : KO β) (m0 : Nat) : ∀ (t : Nat → AV) (H : Ab), Ahf p n  k m0 (tf 55 0 t) H = Rh p n  k m0 (t 0) (t 1) (t 7) (t 8) H := by
 induction m0 with
 | zero => intros; rfl
 | succ m0 ih =>
  intro t H
  refine Eq.trans (Bb (nt := 55) (m := m0) (g := fun t H => Rh p n  k m0 (t 0) (t 1) (t 7) (t 8) H) ih rfl) ?_
  kernel_rfl
theorem Akh (p : Pr β) (n : Nat) (a0 a1 : AV) (H : Ab) (k : KO β) : Bw Ak p n fi62 [a0, a1] H k =
 p.bin .lss a1 i0 fun t11 =>
 p.kF t11 H a1 fun t13 H =>
 p.kF t11 H a0 fun t14 H =>
 p.gF t11 H (p.len t14) fun t15 H =>
 p.gF t11 H (p.bin .gtr t13 t15) fun t16 H =>
 p.pick t11 bT t16 fun t17 =>
 p.cond t17
 (k (Cj [i0, i0, (si 2)]) H)
 (Ahf p n  k n (tf 55 0 (ud [(0, a0), (1, a1), (4, i0), (5, i0), (6, i0), (7, i0), (8, i0), (10, a1), (11, t11), (12, t11), (13, t13), (14, t14), (15, t15), (16, t16), (17, t17)] ut)) H) := by kernel_rfl
theorem Ahg : J6 fi62 @f62 := fun p n a0 a1 H k => by
 rw [Akh]
 simp only [Afg]
 kernel_rfl
noncomputable def f88 (n : Nat) (a0 a1 : AV) (H : Ab) (k : KO β) : Option β :=
 p.bin .lss a1 i0 fun t8 =>
 p.kF t8 H a1 fun t10 H =>
 p.kF t8 H a0 fun t11 H =>
 p.gF t8 H (p.len t11) fun t12 H =>
 p.gF t8 H (p.bin .sub t12 (si 2)) fun t13 H =>
 p.gF t8 H (p.bin .gtr t10 t13) fun t14 H =>
 p.pick t8 bT t14 fun t15 =>
 p.cond t15
 (k (Cj [i0, i0, bF]) H)
 (p.iadr 1 a0 a1 fun t18 =>
 p.load false 1 t18 H fun t19 =>
 p.cvI .i64 t19 fun t20 =>
 p.bin .mul t20 (si 256) fun t21 =>
 p.bin .add a1 (si 1) fun t24 =>
 p.iadr 1 a0 t24 fun t25 =>
 p.load false 1 t25 H fun t26 =>
 p.cvI .i64 t26 fun t27 =>
 p.bin .add t21 t27 fun t28 =>
 p.bin .add a1 (si 2) fun t30 =>
 k (Cj [t28, t30, bT]) H)
theorem AhB : J6 AoD @f88 := fun p n a0 a1 H k => by kernel_rfl
noncomputable def f126 (n : Nat) (a0 a1 : AV) (H : Ab) (k : KO β) : Option β :=
 p.ca 110 88 [a0, a1] H fun t13 H =>
 p.extr t13 0 fun t14 =>
 p.extr t13 1 fun t15 =>
 p.extr t13 2 fun t16 =>
 p.un .not t16 fun t18 =>
 p.kF t18 H t14 fun t20 H =>
 p.gF t18 H (p.bin .gtr t20 (si 60)) fun t21 H =>
 p.pick t18 bT t21 fun t22 =>
 p.kF t22 H t14 fun t24 H =>
 p.kF t22 H a0 fun t25 H =>
 p.gF t22 H (p.len t25) fun t26 H =>
 p.kF t22 H t15 fun t27 H =>
 p.gF t22 H (p.bin .sub t26 t27) fun t28 H =>
 p.gF t22 H (p.bin .gtr t24 t28) fun t29 H =>
 p.pick t22 bT t29 fun t30 =>
 p.cond t30
 (k (Cj [.nl, i0, bF]) H)
 (p.bin .add t15 t14 fun t37 =>
 p.slice 1 a0 (some t15) (some t37) fun t38 =>
 p.app 1 1 .nl t38 H fun t39 H =>
 p.bin .add t15 t14 fun t42 =>
 k (Cj [t39, t42, bT]) H)
theorem Ae8 : J6 AlI @f126 := fun p n a0 a1 H k => by kernel_rfl
noncomputable def f81 (n : Nat) (a0 a1 a2 : AV) (H : Ab) (k : KO β) : Option β :=
 p.bin .geq a0 a1 fun t9 =>
 p.kT t9 H a0 fun t11 H =>
 p.kT t9 H a2 fun t12 H =>
 p.gT t9 H (p.bin .leq t11 t12) fun t13 H =>
 p.pick t9 t13 bF fun t14 =>
 k t14 H
theorem Ah8 : Bd3 AoA @f81 := fun p n a0 a1 a2 H k => by kernel_rfl
noncomputable def Jr (p : Pr β) (n : Nat)  (k : KO β) : Nat → AV → AV → AV → AV → AV → KO β
 | 0, _, _, _, _, _, _, _ => none
 | m + 1, t0, t1, t8, t9, t10, t11, H => p.bin .leq t11 t8 fun t67 =>
   p.cond t67
   (p.bin .add t1 t11 fun t73 =>
   p.iadr 1 t0 t73 fun t74 =>
   p.load false 1 t74 H fun t75 =>
   p.cvI .i64 t75 fun t76 =>
   p.bin .lss t76 (si 128) fun t78 =>
   p.kF t78 H t76 fun t80 H =>
   p.gF t78 H (p.bin .gtr t80 (si 191)) fun t81 H =>
   p.pick t78 bT t81 fun t82 =>
   p.cond t82
   (k (Cj [i0, i0, bF]) H)
   (p.bin .mul t10 (si 64) fun t84 =>
   p.bin .add t84 t76 fun t86 =>
   p.bin .sub t86 (si 128) fun t87 =>
   p.bin .add t11 (si 1) fun t69 =>
   Jr p n  k m t0 t1 t8 t9 t87 t69 H))
   (p.bin .lss t10 t9 fun t90 =>
   p.kF t90 H t10 fun t92 H =>
   p.gF t90 H (p.bin .gtr t92 (si 1114111)) fun t93 H =>
   p.pick t90 bT t93 fun t94 =>
   p.kF t94 H t10 fun t96 H =>
   p.hF t94 H (p.call 4 (.fn 81 [] []) [t96, (si 55296), (si 57343)] H) fun t97 H =>
   p.pick t94 bT t97 fun t98 =>
   p.cond t98
   (k (Cj [i0, i0, bF]) H)
   (p.bin .add t1 (si 1) fun t101 =>
   p.bin .add t101 t8 fun t103 =>
   k (Cj [t10, t103, bT]) H))
noncomputable def f143 (n : Nat) (a0 a1 : AV) (H : Ab) (k : KO β) : Option β :=
 p.bin .lss a1 i0 fun t14 =>
 p.kF t14 H a1 fun t16 H =>
 p.kF t14 H a0 fun t17 H =>
 p.gF t14 H (p.len t17) fun t18 H =>
 p.gF t14 H (p.bin .geq t16 t18) fun t19 H =>
 p.pick t14 bT t19 fun t20 =>
 p.cond t20
 (k (Cj [i0, i0, bF]) H)
 (p.iadr 1 a0 a1 fun t23 =>
 p.load false 1 t23 H fun t24 =>
 p.cvI .i64 t24 fun t25 =>
 p.bin .lss t25 (si 128) fun t27 =>
 p.cond t27
 (p.bin .add a1 (si 1) fun t30 =>
 k (Cj [t25, t30, bT]) H)
 (p.bin .geq t25 (si 192) fun t33 =>
 p.kT t33 H t25 fun t35 H =>
 p.gT t33 H (p.bin .lss t35 (si 224)) fun t36 H =>
 p.pick t33 t36 bF fun t37 =>
 p.cond t37
 (p.bin .and t25 (si 31) fun t39 =>
 p.len a0 fun t60 =>
 p.bin .sub t60 (si 1) fun t61 =>
 p.bin .sub t61 (si 1) fun t63 =>
 p.bin .gtr a1 t63 fun t64 =>
 p.cond t64
 (k (Cj [i0, i0, bF]) H)
 (Jr p n  k n a0 a1 (si 1) (si 128) t39 (si 1) H))
 (p.bin .geq t25 (si 224) fun t42 =>
 p.kT t42 H t25 fun t44 H =>
 p.gT t42 H (p.bin .lss t44 (si 240)) fun t45 H =>
 p.pick t42 t45 bF fun t46 =>
 p.cond t46
 (p.bin .and t25 (si 15) fun t48 =>
 p.len a0 fun t60 =>
 p.bin .sub t60 (si 1) fun t61 =>
 p.bin .sub t61 (si 2) fun t63 =>
 p.bin .gtr a1 t63 fun t64 =>
 p.cond t64
 (k (Cj [i0, i0, bF]) H)
 (Jr p n  k n a0 a1 (si 2) (si 2048) t48 (si 1) H))
 (p.bin .geq t25 (si 240) fun t51 =>
 p.kT t51 H t25 fun t53 H =>
 p.gT t51 H (p.bin .lss t53 (si 248)) fun t54 H =>
 p.pick t51 t54 bF fun t55 =>
 p.cond t55
 (p.bin .and t25 (si 7) fun t57 =>
 p.len a0 fun t60 =>
 p.bin .sub t60 (si 1) fun t61 =>
 p.bin .sub t61 (si 3) fun t63 =>
 p.bin .gtr a1 t63 fun t64 =>
 p.cond t64
 (k (Cj [i0, i0, bF]) H)
 (Jr p n  k n a0 a1 (si 3) (si 65536) t57 (si 1) H))
 (k (Cj [i0, i0, bF]) H)))))
noncomputable def U8 (p : Pr β) (n : Nat)  (k : KO β) (m : Nat) (tm : Tm) (H : Ab) : Option β :=
 C7 104 (fun tm H k => Af Ak p [] 104 n (cd Amz [1, 1, 1, 1, 1, 1, 1, 1, 1, 0, 1, 0, 0]) tm H k) (Eb 1 (Dt (fun tm H => Af Ak p [] 104 n (cd Amz [1, 1, 1, 1, 1, 1, 1, 1, 1, 1]) tm H (B5 Ak p fi143.results k)) (B5 Ak p fi143.results k))) m tm H
theorem Ac3 (p : Pr β) (n : Nat)  (k : KO β) (m0 : Nat) : ∀ (t : Nat → AV) (H : Ab), U8 p n  k m0 (tf 104 0 t) H = Jr p n  k m0 (t 0) (t 1) (t 8) (t 9) (t 10) (t 11) H := by
 induction m0 with
 | zero => intros; rfl
 | succ m0 ih =>
  intro t H
  refine Eq.trans (Bb (nt := 104) (m := m0) (g := fun t H => Jr p n  k m0 (t 0) (t 1) (t 8) (t 9) (t 10) (t 11) H) ih rfl) ?_
  kernel_rfl
theorem Agv (p : Pr β) (n : Nat) (a0 a1 : AV) (H : Ab) (k : KO β) : Bw Ak p n fi143 [a0, a1] H k =
 p.bin .lss a1 i0 fun t14 =>
 p.kF t14 H a1 fun t16 H =>
 p.kF t14 H a0 fun t17 H =>
 p.gF t14 H (p.len t17) fun t18 H =>
 p.gF t14 H (p.bin .geq t16 t18) fun t19 H =>
 p.pick t14 bT t19 fun t20 =>
 p.cond t20
 (k (Cj [i0, i0, bF]) H)
 (p.iadr 1 a0 a1 fun t23 =>
 p.load false 1 t23 H fun t24 =>
 p.cvI .i64 t24 fun t25 =>
 p.bin .lss t25 (si 128) fun t27 =>
 p.cond t27
 (p.bin .add a1 (si 1) fun t30 =>
 k (Cj [t25, t30, bT]) H)
 (p.bin .geq t25 (si 192) fun t33 =>
 p.kT t33 H t25 fun t35 H =>
 p.gT t33 H (p.bin .lss t35 (si 224)) fun t36 H =>
 p.pick t33 t36 bF fun t37 =>
 p.cond t37
 (p.bin .and t25 (si 31) fun t39 =>
 p.len a0 fun t60 =>
 p.bin .sub t60 (si 1) fun t61 =>
 p.bin .sub t61 (si 1) fun t63 =>
 p.bin .gtr a1 t63 fun t64 =>
 p.cond t64
 (k (Cj [i0, i0, bF]) H)
 (U8 p n  k n (tf 104 0 (ud [(0, a0), (1, a1), (4, i0), (5, i0), (6, bF), (7, t25), (8, (si 1)), (9, (si 128)), (10, t39), (11, (si 1)), (13, a1), (14, t14), (15, t14), (16, t16), (17, t17), (18, t18), (19, t19), (20, t20), (21, a0), (22, a1), (23, t23), (24, t24), (25, t25), (26, t25), (27, t27), (31, t37), (32, t25), (33, t33), (34, t33), (35, t35), (36, t36), (37, t37), (38, t25), (39, t39), (58, a1), (59, a0), (60, t60), (61, t61), (62, (si 1)), (63, t63), (64, t64)] ut)) H))
 (p.bin .geq t25 (si 224) fun t42 =>
 p.kT t42 H t25 fun t44 H =>
 p.gT t42 H (p.bin .lss t44 (si 240)) fun t45 H =>
 p.pick t42 t45 bF fun t46 =>
 p.cond t46
 (p.bin .and t25 (si 15) fun t48 =>
 p.len a0 fun t60 =>
 p.bin .sub t60 (si 1) fun t61 =>
 p.bin .sub t61 (si 2) fun t63 =>
 p.bin .gtr a1 t63 fun t64 =>
 p.cond t64
 (k (Cj [i0, i0, bF]) H)
 (U8 p n  k n (tf 104 0 (ud [(0, a0), (1, a1), (4, i0), (5, i0), (6, bF), (7, t25), (8, (si 2)), (9, (si 2048)), (10, t48), (11, (si 1)), (13, a1), (14, t14), (15, t14), (16, t16), (17, t17), (18, t18), (19, t19), (20, t20), (21, a0), (22, a1), (23, t23), (24, t24), (25, t25), (26, t25), (27, t27), (31, t37), (32, t25), (33, t33), (34, t33), (35, t35), (36, t36), (37, t37), (40, t46), (41, t25), (42, t42), (43, t42), (44, t44), (45, t45), (46, t46), (47, t25), (48, t48), (58, a1), (59, a0), (60, t60), (61, t61), (62, (si 2)), (63, t63), (64, t64)] ut)) H))
 (p.bin .geq t25 (si 240) fun t51 =>
 p.kT t51 H t25 fun t53 H =>
 p.gT t51 H (p.bin .lss t53 (si 248)) fun t54 H =>
 p.pick t51 t54 bF fun t55 =>
 p.cond t55
 (p.bin .and t25 (si 7) fun t57 =>
 p.len a0 fun t60 =>
 p.bin .sub t60 (si 1) fun t61 =>
 p.bin .sub t61 (si 3) fun t63 =>
 p.bin .gtr a1 t63 fun t64 =>
 p.cond t64
 (k (Cj [i0, i0, bF]) H)
 (U8 p n  k n (tf 104 0 (ud [(0, a0), (1, a1), (4, i0), (5, i0), (6, bF), (7, t25), (8, (si 3)), (9, (si 65536)), (10, t57), (11, (si 1)), (13, a1), (14, t14), (15, t14), (16, t16), (17, t17), (18, t18), (19, t19), (20, t20), (21, a0), (22, a1), (23, t23), (24, t24), (25, t25), (26, t25), (27, t27), (31, t37), (32, t25), (33, t33), (34, t33), (35, t35), (36, t36), (37, t37), (40, t46), (41, t25), (42, t42), (43, t42), (44, t44), (45, t45), (46, t46), (49, t55), (50, t25), (51, t51), (52, t51), (53, t53), (54, t54), (55, t55), (56, t25), (57, t57), (58, a1), (59, a0), (60, t60), (61, t61), (62, (si 3)), (63, t63), (64, t64)] ut)) H))
 (k (Cj [i0, i0, bF]) H))))) := by kernel_rfl
theorem AeN : J6 fi143 @f143 := fun p n a0 a1 H k => by
 rw [Agv]
 simp only [Ac3]
 kernel_rfl
noncomputable def Qo (p : Pr β) (n : Nat)  (k : KO β) : Nat → AV → AV → KO β
 | 0, _, _, _, _ => none
 | m + 1, t3, t4, t5, H => p.len t3 fun t16 =>
   p.bin .lss t5 t16 fun t17 =>
   p.cond t17
   (p.call 110 (.fn 143 [] []) [t3, t5] H fun t21 H =>
   p.extr t21 0 fun t22 =>
   p.extr t21 1 fun t23 =>
   p.extr t21 2 fun t24 =>
   p.un .not t24 fun t26 =>
   p.kF t26 H t22 fun t28 H =>
   p.gF t26 H (p.bin .eql t28 i0) fun t29 H =>
   p.pick t26 bT t29 fun t30 =>
   p.cond t30
   (k (si (-1)) H)
   (p.bin .add t4 (si 1) fun t33 =>
   Qo p n  k m t3 t33 t23 H))
   (k t4 H)
noncomputable def f115 (n : Nat) (a0 : AV) (H : Ab) (k : KO β) : Option β :=
 p.lenS a0 fun t10 =>
 p.bin .gtr t10 (si 60) fun t11 =>
 p.cond t11
 (k (si (-1)) H)
 (p.cvSB a0 H fun t13 H =>
 Qo p n  k n t13 i0 i0 H)
noncomputable def Ad0 (p : Pr β) (n : Nat)  (k : KO β) (m : Nat) (tm : Tm) (H : Ab) : Option β :=
 C7 35 (fun tm H k => Af Ak p [] 35 n (cd Ams [1, 1, 1, 1, 0, 1, 0, 0]) tm H k) (Eb 0 (Dt (fun tm H => Af Ak p [] 35 n (cd Ams [1, 1, 1, 1, 1]) tm H (B5 Ak p fi115.results k)) (B5 Ak p fi115.results k))) m tm H
theorem Acw (p : Pr β) (n : Nat)  (k : KO β) (m0 : Nat) : ∀ (t : Nat → AV) (H : Ab), Ad0 p n  k m0 (tf 35 0 t) H = Qo p n  k m0 (t 3) (t 4) (t 5) H := by
 induction m0 with
 | zero => intros; rfl
 | succ m0 ih =>
  intro t H
  refine Eq.trans (Bb (nt := 35) (m := m0) (g := fun t H => Qo p n  k m0 (t 3) (t 4) (t 5) H) ih rfl) ?_
  kernel_rfl
theorem Ago (p : Pr β) (n : Nat) (a0 : AV) (H : Ab) (k : KO β) : Bw Ak p n fi115 [a0] H k =
 p.lenS a0 fun t10 =>
 p.bin .gtr t10 (si 60) fun t11 =>
 p.cond t11
 (k (si (-1)) H)
 (p.cvSB a0 H fun t13 H =>
 Ad0 p n  k n (tf 35 0 (ud [(0, a0), (2, i0), (3, t13), (4, i0), (5, i0), (9, a0), (10, t10), (11, t11), (12, a0), (13, t13)] ut)) H) := by kernel_rfl
theorem Ae6 : Nh fi115 @f115 := fun p n a0 H k => by
 rw [Ago]
 simp only [Acw]
 kernel_rfl
noncomputable def f80 (n : Nat) (a0 : AV) (H : Ab) (k : KO β) : Option β :=
 p.call 3 (.fn 115 [] []) [a0] H fun t4 H =>
 p.bin .geq t4 i0 fun t5 =>
 k t5 H
theorem Ah7 : Nh Ao9 @f80 := fun p n a0 H k => by kernel_rfl
noncomputable def f87 (n : Nat) (a0 a1 : AV) (H : Ab) (k : KO β) : Option β :=
 p.ca 131 126 [a0, a1] H fun t13 H =>
 p.extr t13 0 fun t14 =>
 p.extr t13 1 fun t15 =>
 p.extr t13 2 fun t16 =>
 p.un .not t16 fun t18 =>
 p.kF t18 H t14 fun t20 H =>
 p.gF t18 H (p.cvBS t20 H) fun t21 H =>
 p.hF t18 H (p.ca 4 80 [t21] H) fun t22 H =>
 p.gF t18 H (p.un .not t22) fun t23 H =>
 p.pick t18 bT t23 fun t24 =>
 p.cond t24
 (k (Cj [sE, i0, bF]) H)
 (p.cvBS t14 H fun t26 =>
 k (Cj [t26, t15, bT]) H)
theorem AhA : J6 AoC @f87 := fun p n a0 a1 H k => by kernel_rfl
noncomputable def f86 (n : Nat) (a0 : AV) (H : Ab) (k : KO β) : Option β :=
 p.new Ed H fun t2 H =>
 p.fill Ed [(0, 1, (si 1))] fun ct26 =>
 p.new Ed H fun t3 H =>
 p.store 25 t3 (.agg ct26) H fun H =>
 p.ca 108 87 [a0, i0] H fun t29 H =>
 p.extr t29 0 fun t30 =>
 p.extr t29 1 fun t31 =>
 p.extr t29 2 fun t32 =>
 p.un .not t32 fun t34 =>
 p.kF t34 H t30 fun t36 H =>
 p.gF t34 H (p.bin .neq t36 (.sc (.string ⟨#[77, 81, 84, 84]⟩))) fun t37 H =>
 p.pick t34 bT t37 fun t38 =>
 p.kF t38 H t31 fun t40 H =>
 p.kF t38 H a0 fun t41 H =>
 p.gF t38 H (p.len t41) fun t42 H =>
 p.gF t38 H (p.bin .sub t42 (si 2)) fun t43 H =>
 p.gF t38 H (p.bin .gtr t40 t43) fun t44 H =>
 p.pick t38 bT t44 fun t45 =>
 p.cond t45
 (p.fill Ed [] fun ct46 =>
 p.store 25 t2 (.agg ct46) H fun H =>
 p.load true 25 t2 H fun r0 =>
 k r0 H)
 (p.iadr 1 a0 t31 fun t49 =>
 p.load false 1 t49 H fun t50 =>
 p.cvI .i64 t50 fun t51 =>
 p.fs 8 t3 1 t51 H fun H =>
 p.bin .add t31 (si 1) fun t55 =>
 p.iadr 1 a0 t55 fun t56 =>
 p.load false 1 t56 H fun t57 =>
 p.cvI .i64 t57 fun t58 =>
 p.bin .and t58 (si 2) fun t60 =>
 p.bin .gtr t60 i0 fun t61 =>
 p.fs 9 t3 1 t61 H fun H =>
 p.bin .and t58 (si 4) fun t64 =>
 p.bin .gtr t64 i0 fun t65 =>
 p.fs 11 t3 1 t65 H fun H =>
 p.bin .shr t58 (.sc (.int .u64 3)) fun t68 =>
 p.bin .and t68 (si 3) fun t69 =>
 p.fs 14 t3 1 t69 H fun H =>
 p.bin .and t58 (si 32) fun t72 =>
 p.bin .gtr t72 i0 fun t73 =>
 p.fs 15 t3 1 t73 H fun H =>
 p.bin .and t58 (si 64) fun t76 =>
 p.bin .gtr t76 i0 fun t77 =>
 p.fs 18 t3 1 t77 H fun H =>
 p.bin .and t58 (si 128) fun t80 =>
 p.bin .gtr t80 i0 fun t81 =>
 p.fs 16 t3 1 t81 H fun H =>
 p.bin .add t31 (si 2) fun t86 =>
 p.ca 110 88 [a0, t86] H fun t87 H =>
 p.extr t87 0 fun t88 =>
 p.extr t87 1 fun t89 =>
 p.extr t87 2 fun t90 =>
 p.fs 10 t3 1 t88 H fun H =>
 p.ca 108 87 [a0, t89] H fun t96 H =>
 p.extr t96 0 fun t97 =>
 p.extr t96 1 fun t98 =>
 p.extr t96 2 fun t99 =>
 p.fs 7 t3 1 t97 H fun H =>
 p.un .not t90 fun t103 =>
 p.kF t103 H t99 fun t105 H =>
 p.gF t103 H (p.un .not t105) fun t106 H =>
 p.pick t103 bT t106 fun t107 =>
 p.cond t107
 (p.fill Ed [] fun ct108 =>
 p.store 25 t2 (.agg ct108) H fun H =>
 p.load true 25 t2 H fun r0 =>
 k r0 H)
 (p.fadr 11 t3 fun t110 =>
 p.load false 1 t110 H fun t111 =>
 D4 (fun (t0 t2 t3 t5 : AV) (H : Ab) => p.fadr 16 t3 fun t138 =>
 p.load false 1 t138 H fun t139 =>
 D4 (fun (t0 t2 t3 t5 : AV) (H : Ab) => p.fadr 18 t3 fun t153 =>
 p.load false 1 t153 H fun t154 =>
 D4 (fun (t2 t3 : AV) (H : Ab) => p.load true 25 t3 H fun t167 =>
 p.store 25 t2 t167 H fun H =>
 p.load true 25 t2 H fun r0 =>
 k r0 H) fun j3 =>
 p.cond t154
 (p.ca 131 126 [t0, t5] H fun t158 H =>
 p.extr t158 0 fun t159 =>
 p.extr t158 1 fun t160 =>
 p.extr t158 2 fun t161 =>
 p.un .not t161 fun t163 =>
 p.cond t163
 (p.fill Ed [] fun ct164 =>
 p.store 25 t2 (.agg ct164) H fun H =>
 p.load true 25 t2 H fun r0 =>
 k r0 H)
 (p.fadr 19 t3 fun t166 =>
 p.store 1 t166 t159 H fun H =>
 j3 t2 t3 H))
 (j3 t2 t3 H)) fun j2 =>
 p.cond t139
 (p.ca 108 87 [t0, t5] H fun t143 H =>
 p.extr t143 0 fun t144 =>
 p.extr t143 1 fun t145 =>
 p.extr t143 2 fun t146 =>
 p.un .not t146 fun t148 =>
 p.cond t148
 (p.fill Ed [] fun ct149 =>
 p.store 25 t2 (.agg ct149) H fun H =>
 p.load true 25 t2 H fun r0 =>
 k r0 H)
 (p.fadr 17 t3 fun t151 =>
 p.store 1 t151 t144 H fun H =>
 j2 t0 t2 t3 t145 H))
 (j2 t0 t2 t3 t5 H)) fun j1 =>
 p.cond t111
 (p.ca 108 87 [a0, t98] H fun t115 H =>
 p.extr t115 0 fun t116 =>
 p.extr t115 1 fun t117 =>
 p.extr t115 2 fun t118 =>
 p.ca 131 126 [a0, t117] H fun t122 H =>
 p.extr t122 0 fun t123 =>
 p.extr t122 1 fun t124 =>
 p.extr t122 2 fun t125 =>
 p.un .not t118 fun t127 =>
 p.kF t127 H t125 fun t129 H =>
 p.gF t127 H (p.un .not t129) fun t130 H =>
 p.pick t127 bT t130 fun t131 =>
 p.cond t131
 (p.fill Ed [] fun ct132 =>
 p.store 25 t2 (.agg ct132) H fun H =>
 p.load true 25 t2 H fun r0 =>
 k r0 H)
 (p.fadr 12 t3 fun t134 =>
 p.store 1 t134 t116 H fun H =>
 p.fs 13 t3 1 t123 H fun H =>
 j1 a0 t2 t3 t124 H))
 (j1 a0 t2 t3 t98 H)))
theorem Ah9 : Nh AoB @f86 := fun p n a0 H k => by kernel_rfl
noncomputable def Pp (p : Pr β) (n : Nat)  (k : KO β) : Nat → AV → AV → AV → KO β
 | 0, _, _, _, _, _ => none
 | m + 1, t1, t4, t5, t6, H => p.len t1 fun t134 =>
   p.bin .lss t6 t134 fun t135 =>
   p.lT t135 H 0 t5 1 fun t138 H =>
   p.gT t135 H (p.bin .eql t138 (si 8)) fun t139 H =>
   p.kT t135 H t139 fun t140 H =>
   p.lF t140 H 0 t5 1 fun t142 H =>
   p.gF t140 H (p.bin .eql t142 (si 10)) fun t143 H =>
   p.gT t135 H (p.pick t140 bT t143) fun t144 H =>
   p.pick t135 t144 bF fun t145 =>
   p.cond t145
   (p.ca 108 87 [t1, t6] H fun t149 H =>
   p.extr t149 0 fun t150 =>
   p.extr t149 1 fun t151 =>
   p.extr t149 2 fun t152 =>
   p.un .not t152 fun t154 =>
   p.cond t154
   (p.fill Ed [] fun ct155 =>
   p.store 25 t4 (.agg ct155) H fun H =>
   p.load true 25 t4 H fun r0 =>
   k r0 H)
   (p.fadr 0 t5 fun t157 =>
   p.load false 1 t157 H fun t158 =>
   p.bin .eql t158 (si 10) fun t159 =>
   p.cond t159
   (p.fadr 23 t5 fun t160 =>
   p.load false 1 t160 H fun t161 =>
   p.fill [sE] [(0, 1, t150)] fun ct163 => p.newSl 1 1 ct163 true H fun t163 H =>
   p.app 1 16 t161 t163 H fun t164 H =>
   p.fs 23 t5 1 t164 H fun H =>
   Pp p n  k m t1 t4 t5 t151 H)
   (p.len t1 fun t168 =>
   p.bin .eql t151 t168 fun t169 =>
   p.cond t169
   (p.fill Ed [] fun ct170 =>
   p.store 25 t4 (.agg ct170) H fun H =>
   p.load true 25 t4 H fun r0 =>
   k r0 H)
   (p.fadr 22 t5 fun t171 =>
   p.load false 1 t171 H fun t172 =>
   p.iadr 1 t1 t151 fun t176 =>
   p.load false 1 t176 H fun t177 =>
   p.cvI .i64 t177 fun t178 =>
   p.fill [sE, i0] [(0, 1, t150), (1, 1, t178)] fun ct179 =>
   p.fill [sE, i0] [(0, 2, (.agg ct179))] fun ct180 => p.newSl 1 2 ct180 true H fun t180 H =>
   p.app 2 24 t172 t180 H fun t181 H =>
   p.fs 22 t5 1 t181 H fun H =>
   p.bin .add t151 (si 1) fun t184 =>
   Pp p n  k m t1 t4 t5 t184 H))))
   (p.load true 25 t5 H fun t185 =>
   p.store 25 t4 t185 H fun H =>
   p.load true 25 t4 H fun r0 =>
   k r0 H)
noncomputable def Pq (p : Pr β) (n : Nat)  (k : KO β) : Nat → AV → AV → AV → AV → KO β
 | 0, _, _, _, _, _, _ => none
 | m + 1, t1, t4, t5, t6, t16, H => p.len t1 fun t118 =>
   p.bin .lss t16 t118 fun t119 =>
   p.cond t119
   (p.fadr 24 t5 fun t122 =>
   p.load false 1 t122 H fun t123 =>
   p.iadr 1 t1 t16 fun t126 =>
   p.load false 1 t126 H fun t127 =>
   p.cvI .i64 t127 fun t128 =>
   p.fill [i0] [(0, 1, t128)] fun ct129 => p.newSl 1 1 ct129 true H fun t129 H =>
   p.app 1 8 t123 t129 H fun t130 H =>
   p.fs 24 t5 1 t130 H fun H =>
   p.bin .add t16 (si 1) fun t121 =>
   Pq p n  k m t1 t4 t5 t6 t121 H)
   (Pp p n  k n t1 t4 t5 t6 H)
noncomputable def f63 (n : Nat) (a0 a1 : AV) (H : Ab) (k : KO β) : Option β :=
 p.new Ed H fun t4 H =>
 p.bin .quo a0 (si 16) fun t21 =>
 p.fill Ed [(0, 1, t21)] fun ct22 =>
 p.new Ed H fun t5 H =>
 p.store 25 t5 (.agg ct22) H fun H =>
 p.fl 0 t5 1 H fun t24 =>
 p.bin .eql t24 (si 1) fun t25 =>
 p.cond t25
 (p.ca 59 86 [a1] H fun t27 H =>
 p.store 25 t4 t27 H fun H =>
 p.load true 25 t4 H fun r0 =>
 k r0 H)
 (p.fadr 0 t5 fun t28 =>
 p.load false 1 t28 H fun t29 =>
 p.bin .eql t29 (si 2) fun t30 =>
 p.kT t30 H a1 fun t32 H =>
 p.gT t30 H (p.len t32) fun t33 H =>
 p.gT t30 H (p.bin .eql t33 (si 2)) fun t34 H =>
 p.pick t30 t34 bF fun t35 =>
 p.cond t35
 (p.iadr 1 a1 i0 fun t37 =>
 p.load false 1 t37 H fun t38 =>
 p.bin .eql t38 (su 1) fun t39 =>
 p.fs 21 t5 1 t39 H fun H =>
 p.iadr 1 a1 (si 1) fun t42 =>
 p.load false 1 t42 H fun t43 =>
 p.cvI .i64 t43 fun t44 =>
 p.fs 20 t5 1 t44 H fun H =>
 p.load true 25 t5 H fun t46 =>
 p.store 25 t4 t46 H fun H =>
 p.load true 25 t4 H fun r0 =>
 k r0 H)
 (p.fadr 0 t5 fun t47 =>
 p.load false 1 t47 H fun t48 =>
 p.bin .eql t48 (si 3) fun t49 =>
 p.cond t49
 (p.bin .and a0 (si 8) fun t51 =>
 p.bin .gtr t51 i0 fun t52 =>
 p.fs 1 t5 1 t52 H fun H =>
 p.bin .shr a0 (.sc (.int .u64 1)) fun t55 =>
 p.bin .and t55 (si 3) fun t56 =>
 p.fs 2 t5 1 t56 H fun H =>
 p.bin .and a0 (si 1) fun t59 =>
 p.bin .gtr t59 i0 fun t60 =>
 p.fs 3 t5 1 t60 H fun H =>
 p.ca 108 87 [a1, i0] H fun t64 H =>
 p.extr t64 0 fun t65 =>
 p.extr t64 1 fun t66 =>
 p.extr t64 2 fun t67 =>
 p.un .not t67 fun t69 =>
 p.cond t69
 (p.fill Ed [] fun ct70 =>
 p.store 25 t4 (.agg ct70) H fun H =>
 p.load true 25 t4 H fun r0 =>
 k r0 H)
 (p.fadr 5 t5 fun t72 =>
 p.store 1 t72 t65 H fun H =>
 p.fl 2 t5 1 H fun t75 =>
 p.bin .gtr t75 i0 fun t76 =>
 D4 (fun (t1 t4 t5 t6 : AV) (H : Ab) => p.slice 1 t1 (some t6) none fun t93 =>
 p.app 1 1 .nl t93 H fun t94 H =>
 p.fs 6 t5 1 t94 H fun H =>
 p.load true 25 t5 H fun t96 =>
 p.store 25 t4 t96 H fun H =>
 p.load true 25 t4 H fun r0 =>
 k r0 H) fun j1 =>
 p.cond t76
 (p.ca 110 88 [a1, t66] H fun t80 H =>
 p.extr t80 0 fun t81 =>
 p.extr t80 1 fun t82 =>
 p.extr t80 2 fun t83 =>
 p.un .not t83 fun t85 =>
 p.cond t85
 (p.fill Ed [] fun ct86 =>
 p.store 25 t4 (.agg ct86) H fun H =>
 p.load true 25 t4 H fun r0 =>
 k r0 H)
 (p.fadr 4 t5 fun t88 =>
 p.store 1 t88 t81 H fun H =>
 j1 a1 t4 t5 t82 H))
 (j1 a1 t4 t5 t66 H)))
 (p.fadr 0 t5 fun t97 =>
 p.load false 1 t97 H fun t98 =>
 p.bin .lss t98 (si 12) fun t99 =>
 D4 (fun (t1 t4 t5 t6 : AV) (H : Ab) => p.fadr 0 t5 fun t112 =>
 p.load false 1 t112 H fun t113 =>
 p.bin .eql t113 (si 9) fun t114 =>
 D4 (fun (t1 t4 t5 t6 : AV) (H : Ab) => Pp p n  k n t1 t4 t5 t6 H) fun j3 =>
 p.cond t114
 (Pq p n  k n t1 t4 t5 t6 t6 H)
 (j3 t1 t4 t5 t6 H)) fun j2 =>
 p.cond t99
 (p.ca 110 88 [a1, i0] H fun t102 H =>
 p.extr t102 0 fun t103 =>
 p.extr t102 1 fun t104 =>
 p.extr t102 2 fun t105 =>
 p.un .not t105 fun t107 =>
 p.cond t107
 (p.fill Ed [] fun ct108 =>
 p.store 25 t4 (.agg ct108) H fun H =>
 p.load true 25 t4 H fun r0 =>
 k r0 H)
 (p.fadr 4 t5 fun t110 =>
 p.store 1 t110 t103 H fun H =>
 j2 a1 t4 t5 t104 H))
 (j2 a1 t4 t5 i0 H))))
noncomputable def Ac4 (p : Pr β) (n : Nat)  (k : KO β) (m : Nat) (tm : Tm) (H : Ab) : Option β :=
 C7 186 (fun tm H k => Af Ak p o63 186 n (cd c63 [1, 1, 1, 1, 1, 1, 1, 1, 0, 0, 0]) tm H k) (Eb 2 (Dt (fun tm H => Af Ak p o63 186 n (cd c63 [1, 1, 1, 1, 1, 1, 1, 1, 1]) tm H (B5 Ak p fi63.results k)) (B5 Ak p fi63.results k))) m tm H
noncomputable def Ahh (p : Pr β) (n : Nat)  (k : KO β) (m : Nat) (tm : Tm) (H : Ab) : Option β :=
 C7 186 (fun tm H k => Af Ak p o63 186 n (cd c63 [1, 1, 1, 1, 1, 1, 1, 0, 1, 1, 1, 0, 0]) tm H k) (Eb 0 (Dt (fun tm H => Af Ak p o63 186 n (cd c63 [1, 1, 1, 1, 1, 1, 1, 1]) tm H (B5 Ak p fi63.results k)) (B5 Ak p fi63.results k))) m tm H
theorem Y5 (p : Pr β) (n : Nat)  (k : KO β) (m0 : Nat) : ∀ (t : Nat → AV) (H : Ab), Ac4 p n  k m0 (tf 186 0 t) H = Pp p n  k m0 (t 1) (t 4) (t 5) (t 6) H := by
 induction m0 with
 | zero => intros; rfl
 | succ m0 ih =>
  intro t H
  refine Eq.trans (Bb (nt := 186) (m := m0) (g := fun t H => Pp p n  k m0 (t 1) (t 4) (t 5) (t 6) H) ih rfl) ?_
  kernel_rfl
theorem Abc (p : Pr β) (n : Nat)  (k : KO β) (m1 : Nat) (t : Nat → AV) (H : Ab) : Af Ak p o63 186 n (cd c63 [1, 1, 1, 1, 1, 1, 1, 0, 1, 1, 1, 0, 0]) (tf 186 0 t) H (Dt (fun tm H => Pq p n  k m1 (gt tm 1) (gt tm 4) (gt tm 5) (gt tm 6) (gt tm 16) H) (Eb 0 (Dt (fun tm H => Af Ak p o63 186 n (cd c63 [1, 1, 1, 1, 1, 1, 1, 1]) tm H (B5 Ak p fi63.results k)) (B5 Ak p fi63.results k)))) =
 p.len (t 1) fun t118 =>
 p.bin .lss (t 16) t118 fun t119 =>
 p.cond t119
 (p.fadr 24 (t 5) fun t122 =>
 p.load false 1 t122 H fun t123 =>
 p.iadr 1 (t 1) (t 16) fun t126 =>
 p.load false 1 t126 H fun t127 =>
 p.cvI .i64 t127 fun t128 =>
 p.fill [i0] [(0, 1, t128)] fun ct129 => p.newSl 1 1 ct129 true H fun t129 H =>
 p.app 1 8 t123 t129 H fun t130 H =>
 p.fadr 24 (t 5) fun t131 =>
 p.store 1 t131 t130 H fun H =>
 p.bin .add (t 16) (si 1) fun t121 =>
 Pq p n  k m1 (t 1) (t 4) (t 5) (t 6) t121 H)
 (Ac4 p n  k n (tf 186 0 (ud [(116, (t 16)), (117, (t 1)), (118, t118), (119, t119)] t)) H) := by kernel_rfl
theorem Afh (p : Pr β) (n : Nat)  (k : KO β) (m1 : Nat) : ∀ (t : Nat → AV) (H : Ab), Ahh p n  k m1 (tf 186 0 t) H = Pq p n  k m1 (t 1) (t 4) (t 5) (t 6) (t 16) H := by
 induction m1 with
 | zero => intros; rfl
 | succ m1 ih =>
  intro t H
  refine Eq.trans (Bb (nt := 186) (m := m1) (g := fun t H => Pq p n  k m1 (t 1) (t 4) (t 5) (t 6) (t 16) H) ih rfl) ?_
  refine Eq.trans (Abc p n  k m1 t H) ?_
  simp only [Y5]
  kernel_rfl
theorem Aki (p : Pr β) (n : Nat) (a0 a1 : AV) (H : Ab) (k : KO β) : Bw Ak p n fi63 [a0, a1] H k =
 p.new Ed H fun t4 H =>
 p.bin .quo a0 (si 16) fun t21 =>
 p.fill Ed [(0, 1, t21)] fun ct22 =>
 p.new Ed H fun t5 H =>
 p.store 25 t5 (.agg ct22) H fun H =>
 p.fadr 0 t5 fun t23 =>
 p.load false 1 t23 H fun t24 =>
 p.bin .eql t24 (si 1) fun t25 =>
 p.cond t25
 (p.call 59 (.fn 86 [] []) [a1] H fun t27 H =>
 p.store 25 t4 t27 H fun H =>
 p.load true 25 t4 H fun r0 =>
 k r0 H)
 (p.fadr 0 t5 fun t28 =>
 p.load false 1 t28 H fun t29 =>
 p.bin .eql t29 (si 2) fun t30 =>
 p.kT t30 H a1 fun t32 H =>
 p.gT t30 H (p.len t32) fun t33 H =>
 p.gT t30 H (p.bin .eql t33 (si 2)) fun t34 H =>
 p.pick t30 t34 bF fun t35 =>
 p.cond t35
 (p.iadr 1 a1 i0 fun t37 =>
 p.load false 1 t37 H fun t38 =>
 p.bin .eql t38 (su 1) fun t39 =>
 p.fadr 21 t5 fun t40 =>
 p.store 1 t40 t39 H fun H =>
 p.iadr 1 a1 (si 1) fun t42 =>
 p.load false 1 t42 H fun t43 =>
 p.cvI .i64 t43 fun t44 =>
 p.fadr 20 t5 fun t45 =>
 p.store 1 t45 t44 H fun H =>
 p.load true 25 t5 H fun t46 =>
 p.store 25 t4 t46 H fun H =>
 p.load true 25 t4 H fun r0 =>
 k r0 H)
 (p.fadr 0 t5 fun t47 =>
 p.load false 1 t47 H fun t48 =>
 p.bin .eql t48 (si 3) fun t49 =>
 p.cond t49
 (p.bin .and a0 (si 8) fun t51 =>
 p.bin .gtr t51 i0 fun t52 =>
 p.fadr 1 t5 fun t53 =>
 p.store 1 t53 t52 H fun H =>
 p.bin .shr a0 (.sc (.int .u64 1)) fun t55 =>
 p.bin .and t55 (si 3) fun t56 =>
 p.fadr 2 t5 fun t57 =>
 p.store 1 t57 t56 H fun H =>
 p.bin .and a0 (si 1) fun t59 =>
 p.bin .gtr t59 i0 fun t60 =>
 p.fadr 3 t5 fun t61 =>
 p.store 1 t61 t60 H fun H =>
 p.call 108 (.fn 87 [] []) [a1, i0] H fun t64 H =>
 p.extr t64 0 fun t65 =>
 p.extr t64 1 fun t66 =>
 p.extr t64 2 fun t67 =>
 p.un .not t67 fun t69 =>
 p.cond t69
 (p.fill Ed [] fun ct70 =>
 p.store 25 t4 (.agg ct70) H fun H =>
 p.load true 25 t4 H fun r0 =>
 k r0 H)
 (p.fadr 5 t5 fun t72 =>
 p.store 1 t72 t65 H fun H =>
 p.fadr 2 t5 fun t74 =>
 p.load false 1 t74 H fun t75 =>
 p.bin .gtr t75 i0 fun t76 =>
 D4 (fun (t : Nat → AV) (H : Ab) => p.slice 1 (t 1) (some (t 6)) none fun t93 =>
 p.app 1 1 .nl t93 H fun t94 H =>
 p.fadr 6 (t 5) fun t95 =>
 p.store 1 t95 t94 H fun H =>
 p.load true 25 (t 5) H fun t96 =>
 p.store 25 (t 4) t96 H fun H =>
 p.load true 25 (t 4) H fun r0 =>
 k r0 H) fun j1 =>
 p.cond t76
 (p.call 110 (.fn 88 [] []) [a1, t66] H fun t80 H =>
 p.extr t80 0 fun t81 =>
 p.extr t80 1 fun t82 =>
 p.extr t80 2 fun t83 =>
 p.un .not t83 fun t85 =>
 p.cond t85
 (p.fill Ed [] fun ct86 =>
 p.store 25 t4 (.agg ct86) H fun H =>
 p.load true 25 t4 H fun r0 =>
 k r0 H)
 (p.fadr 4 t5 fun t88 =>
 p.store 1 t88 t81 H fun H =>
 j1 (ud [(0, a0), (1, a1), (4, t4), (5, t5), (6, t82), (7, t65), (8, t66), (9, t67), (10, t81), (11, t82), (12, t83), (20, a0), (21, t21), (22, (.agg ct22)), (23, t23), (24, t24), (25, t25), (28, t28), (29, t29), (30, t30), (31, t30), (32, t32), (33, t33), (34, t34), (35, t35), (47, t47), (48, t48), (49, t49), (50, a0), (51, t51), (52, t52), (53, t53), (54, a0), (55, t55), (56, t56), (57, t57), (58, a0), (59, t59), (60, t60), (61, t61), (62, t64), (63, a1), (64, t64), (65, t65), (66, t66), (67, t67), (68, t67), (69, t69), (71, t65), (72, t72), (73, t66), (74, t74), (75, t75), (76, t76), (77, t80), (78, a1), (79, t66), (80, t80), (81, t81), (82, t82), (83, t83), (84, t83), (85, t85), (87, t81), (88, t88), (89, t82)] ut) H))
 (j1 (ud [(0, a0), (1, a1), (4, t4), (5, t5), (6, t66), (7, t65), (8, t66), (9, t67), (20, a0), (21, t21), (22, (.agg ct22)), (23, t23), (24, t24), (25, t25), (28, t28), (29, t29), (30, t30), (31, t30), (32, t32), (33, t33), (34, t34), (35, t35), (47, t47), (48, t48), (49, t49), (50, a0), (51, t51), (52, t52), (53, t53), (54, a0), (55, t55), (56, t56), (57, t57), (58, a0), (59, t59), (60, t60), (61, t61), (62, t64), (63, a1), (64, t64), (65, t65), (66, t66), (67, t67), (68, t67), (69, t69), (71, t65), (72, t72), (73, t66), (74, t74), (75, t75), (76, t76)] ut) H)))
 (p.fadr 0 t5 fun t97 =>
 p.load false 1 t97 H fun t98 =>
 p.bin .lss t98 (si 12) fun t99 =>
 D4 (fun (t : Nat → AV) (H : Ab) => p.fadr 0 (t 5) fun t112 =>
 p.load false 1 t112 H fun t113 =>
 p.bin .eql t113 (si 9) fun t114 =>
 D4 (fun (t : Nat → AV) (H : Ab) => Ac4 p n  k n (tf 186 0 t) H) fun j3 =>
 p.cond t114
 (Ahh p n  k n (tf 186 0 (ud [(16, (t 6)), (112, t112), (113, t113), (114, t114), (115, (t 6))] t)) H)
 (j3 (ud [(112, t112), (113, t113), (114, t114)] t) H)) fun j2 =>
 p.cond t99
 (p.call 110 (.fn 88 [] []) [a1, i0] H fun t102 H =>
 p.extr t102 0 fun t103 =>
 p.extr t102 1 fun t104 =>
 p.extr t102 2 fun t105 =>
 p.un .not t105 fun t107 =>
 p.cond t107
 (p.fill Ed [] fun ct108 =>
 p.store 25 t4 (.agg ct108) H fun H =>
 p.load true 25 t4 H fun r0 =>
 k r0 H)
 (p.fadr 4 t5 fun t110 =>
 p.store 1 t110 t103 H fun H =>
 j2 (ud [(0, a0), (1, a1), (4, t4), (5, t5), (6, t104), (13, t103), (14, t104), (15, t105), (20, a0), (21, t21), (22, (.agg ct22)), (23, t23), (24, t24), (25, t25), (28, t28), (29, t29), (30, t30), (31, t30), (32, t32), (33, t33), (34, t34), (35, t35), (47, t47), (48, t48), (49, t49), (97, t97), (98, t98), (99, t99), (100, t102), (101, a1), (102, t102), (103, t103), (104, t104), (105, t105), (106, t105), (107, t107), (109, t103), (110, t110), (111, t104)] ut) H))
 (j2 (ud [(0, a0), (1, a1), (4, t4), (5, t5), (6, i0), (20, a0), (21, t21), (22, (.agg ct22)), (23, t23), (24, t24), (25, t25), (28, t28), (29, t29), (30, t30), (31, t30), (32, t32), (33, t33), (34, t34), (35, t35), (47, t47), (48, t48), (49, t49), (97, t97), (98, t98), (99, t99)] ut) H)))) := by kernel_rfl
theorem Ahi : J6 fi63 @f63 := fun p n a0 a1 H k => by
 rw [Aki]
 simp only [Y5, Afh]
 kernel_rfl
noncomputable def f90 (n : Nat) (a0 : AV) (H : Ab) (k : KO β) : Option β :=
 p.box a0 H fun t1 H =>
 p.new Ed H fun t2 H =>
 p.fl 0 t1 1 H fun t5 =>
 p.fill Ed [(0, 1, t5)] fun ct6 =>
 p.new Ed H fun t3 H =>
 p.store 25 t3 (.agg ct6) H fun H =>
 p.fl 0 t1 1 H fun t8 =>
 p.bin .eql t8 (si 1) fun t10 =>
 p.cond t10
 (p.fadr 8 t1 fun t11 =>
 p.load false 1 t11 H fun t12 =>
 p.fs 8 t3 1 t12 H fun H =>
 p.fl 7 t1 1 H fun t15 =>
 p.fs 7 t3 1 t15 H fun H =>
 p.fl 9 t1 1 H fun t18 =>
 p.fs 9 t3 1 t18 H fun H =>
 p.fl 10 t1 1 H fun t21 =>
 p.fs 10 t3 1 t21 H fun H =>
 p.fl 11 t1 1 H fun t24 =>
 D4 (fun (t1 t2 t3 : AV) (H : Ab) => p.fadr 16 t1 fun t38 =>
 p.load false 1 t38 H fun t39 =>
 p.cond t39
 (p.fadr 16 t3 fun t40 =>
 p.store 1 t40 bT H fun H =>
 p.fl 17 t1 1 H fun t42 =>
 p.fs 17 t3 1 t42 H fun H =>
 p.fl 18 t1 1 H fun t45 =>
 p.cond t45
 (p.fadr 18 t3 fun t46 =>
 p.store 1 t46 bT H fun H =>
 p.fl 19 t1 1 H fun t48 =>
 p.fs 19 t3 1 t48 H fun H =>
 p.load true 25 t3 H fun t119 =>
 p.store 25 t2 t119 H fun H =>
 p.load true 25 t2 H fun r0 =>
 k r0 H)
 (p.load true 25 t3 H fun t119 =>
 p.store 25 t2 t119 H fun H =>
 p.load true 25 t2 H fun r0 =>
 k r0 H))
 (p.load true 25 t3 H fun t119 =>
 p.store 25 t2 t119 H fun H =>
 p.load true 25 t2 H fun r0 =>
 k r0 H)) fun j1 =>
 p.cond t24
 (p.fadr 11 t3 fun t25 =>
 p.store 1 t25 bT H fun H =>
 p.fl 12 t1 1 H fun t27 =>
 p.fs 12 t3 1 t27 H fun H =>
 p.fl 13 t1 1 H fun t30 =>
 p.fs 13 t3 1 t30 H fun H =>
 p.fl 14 t1 1 H fun t33 =>
 p.fs 14 t3 1 t33 H fun H =>
 p.fl 15 t1 1 H fun t36 =>
 p.fs 15 t3 1 t36 H fun H =>
 j1 t1 t2 t3 H)
 (j1 t1 t2 t3 H))
 (p.bin .eql t8 (si 2) fun t51 =>
 p.cond t51
 (p.fadr 20 t1 fun t52 =>
 p.load false 1 t52 H fun t53 =>
 p.fs 20 t3 1 t53 H fun H =>
 p.fl 21 t1 1 H fun t56 =>
 p.lT t56 H 20 t1 1 fun t59 H =>
 p.gT t56 H (p.bin .eql t59 i0) fun t60 H =>
 p.pick t56 t60 bF fun t61 =>
 p.fs 21 t3 1 t61 H fun H =>
 p.load true 25 t3 H fun t119 =>
 p.store 25 t2 t119 H fun H =>
 p.load true 25 t2 H fun r0 =>
 k r0 H)
 (p.bin .eql t8 (si 3) fun t64 =>
 p.cond t64
 (p.fadr 2 t1 fun t65 =>
 p.load false 1 t65 H fun t66 =>
 p.fs 2 t3 1 t66 H fun H =>
 p.fl 3 t1 1 H fun t69 =>
 p.fs 3 t3 1 t69 H fun H =>
 p.fl 5 t1 1 H fun t72 =>
 p.fs 5 t3 1 t72 H fun H =>
 p.fl 6 t1 1 H fun t75 =>
 p.fs 6 t3 1 t75 H fun H =>
 p.fl 2 t1 1 H fun t78 =>
 p.bin .gtr t78 i0 fun t79 =>
 p.cond t79
 (p.fadr 1 t1 fun t80 =>
 p.load false 1 t80 H fun t81 =>
 p.fs 1 t3 1 t81 H fun H =>
 p.fl 4 t1 1 H fun t84 =>
 p.fs 4 t3 1 t84 H fun H =>
 p.load true 25 t3 H fun t119 =>
 p.store 25 t2 t119 H fun H =>
 p.load true 25 t2 H fun r0 =>
 k r0 H)
 (p.load true 25 t3 H fun t119 =>
 p.store 25 t2 t119 H fun H =>
 p.load true 25 t2 H fun r0 =>
 k r0 H))
 (p.bin .eql t8 (si 4) fun t87 =>
 D4 (fun (t1 t2 t3 t8 t86 : AV) (H : Ab) => p.cond t86
 (p.fadr 4 t1 fun t92 =>
 p.load false 1 t92 H fun t93 =>
 p.fs 4 t3 1 t93 H fun H =>
 p.load true 25 t3 H fun t119 =>
 p.store 25 t2 t119 H fun H =>
 p.load true 25 t2 H fun r0 =>
 k r0 H)
 (p.bin .eql t8 (si 8) fun t96 =>
 p.cond t96
 (p.fadr 4 t1 fun t97 =>
 p.load false 1 t97 H fun t98 =>
 p.fs 4 t3 1 t98 H fun H =>
 p.fl 22 t1 1 H fun t101 =>
 p.fs 22 t3 1 t101 H fun H =>
 p.load true 25 t3 H fun t119 =>
 p.store 25 t2 t119 H fun H =>
 p.load true 25 t2 H fun r0 =>
 k r0 H)
 (p.bin .eql t8 (si 9) fun t104 =>
 p.cond t104
 (p.fadr 4 t1 fun t105 =>
 p.load false 1 t105 H fun t106 =>
 p.fs 4 t3 1 t106 H fun H =>
 p.fl 24 t1 1 H fun t109 =>
 p.fs 24 t3 1 t109 H fun H =>
 p.load true 25 t3 H fun t119 =>
 p.store 25 t2 t119 H fun H =>
 p.load true 25 t2 H fun r0 =>
 k r0 H)
 (p.bin .eql t8 (si 10) fun t112 =>
 p.cond t112
 (p.fadr 4 t1 fun t113 =>
 p.load false 1 t113 H fun t114 =>
 p.fs 4 t3 1 t114 H fun H =>
 p.fl 23 t1 1 H fun t117 =>
 p.fs 23 t3 1 t117 H fun H =>
 p.load true 25 t3 H fun t119 =>
 p.store 25 t2 t119 H fun H =>
 p.load true 25 t2 H fun r0 =>
 k r0 H)
 (p.load true 25 t3 H fun t119 =>
 p.store 25 t2 t119 H fun H =>
 p.load true 25 t2 H fun r0 =>
 k r0 H))))) fun j2 =>
 p.cond t87
 (j2 t1 t2 t3 t8 t87 H)
 (p.bin .eql t8 (si 5) fun t88 =>
 p.cond t88
 (j2 t1 t2 t3 t8 t88 H)
 (p.bin .eql t8 (si 6) fun t89 =>
 p.cond t89
 (j2 t1 t2 t3 t8 t89 H)
 (p.bin .eql t8 (si 7) fun t90 =>
 p.cond t90
 (j2 t1 t2 t3 t8 t90 H)
 (p.bin .eql t8 (si 11) fun t91 =>
 j2 t1 t2 t3 t8 t91 H)))))))
theorem AhG : Nh AoE @f90 := fun p n a0 H k => by kernel_rfl
noncomputable def f65 (n : Nat) (a0 a1 : AV) (H : Ab) (k : KO β) : Option β :=
 p.cvBS a0 H fun t6 =>
 p.cvBS a1 H fun t8 =>
 p.bin .eql t6 t8 fun t9 =>
 k t9 H
theorem Ahk : J6 Ao3 @f65 := fun p n a0 a1 H k => by kernel_rfl
noncomputable def Ps (p : Pr β) (n : Nat)  (k : KO β) : Nat → AV → AV → KO β
 | 0, _, _, _, _ => none
 | m + 1, t2, t3, t7, H => p.fadr 24 t2 fun t70 =>
   p.load false 1 t70 H fun t71 =>
   p.len t71 fun t72 =>
   p.bin .lss t7 t72 fun t73 =>
   p.cond t73
   (p.fadr 24 t2 fun t76 =>
   p.load false 1 t76 H fun t77 =>
   p.iadr 1 t77 t7 fun t79 =>
   p.load false 1 t79 H fun t80 =>
   p.fadr 24 t3 fun t81 =>
   p.load false 1 t81 H fun t82 =>
   p.iadr 1 t82 t7 fun t84 =>
   p.load false 1 t84 H fun t85 =>
   p.bin .neq t80 t85 fun t86 =>
   p.cond t86
   (k bF H)
   (p.bin .add t7 (si 1) fun t75 =>
   Ps p n  k m t2 t3 t75 H))
   (p.fadr 0 t2 fun t87 =>
   p.load false 1 t87 H fun t88 =>
   p.fadr 0 t3 fun t89 =>
   p.load false 1 t89 H fun t90 =>
   p.bin .eql t88 t90 fun t91 =>
   p.gT t91 H (p.fadr 1 t2) fun t93 H =>
   p.gT t91 H (p.load false 1 t93 H) fun t94 H =>
   p.gT t91 H (p.fadr 1 t3) fun t95 H =>
   p.gT t91 H (p.load false 1 t95 H) fun t96 H =>
   p.gT t91 H (p.binB .eql t94 t96) fun t97 H =>
   p.pick t91 t97 bF fun t98 =>
   p.gT t98 H (p.fadr 2 t2) fun t100 H =>
   p.gT t98 H (p.load false 1 t100 H) fun t101 H =>
   p.gT t98 H (p.fadr 2 t3) fun t102 H =>
   p.gT t98 H (p.load false 1 t102 H) fun t103 H =>
   p.gT t98 H (p.bin .eql t101 t103) fun t104 H =>
   p.pick t98 t104 bF fun t105 =>
   p.gT t105 H (p.fadr 3 t2) fun t107 H =>
   p.gT t105 H (p.load false 1 t107 H) fun t108 H =>
   p.gT t105 H (p.fadr 3 t3) fun t109 H =>
   p.gT t105 H (p.load false 1 t109 H) fun t110 H =>
   p.gT t105 H (p.binB .eql t108 t110) fun t111 H =>
   p.pick t105 t111 bF fun t112 =>
   p.gT t112 H (p.fadr 4 t2) fun t114 H =>
   p.gT t112 H (p.load false 1 t114 H) fun t115 H =>
   p.gT t112 H (p.fadr 4 t3) fun t116 H =>
   p.gT t112 H (p.load false 1 t116 H) fun t117 H =>
   p.gT t112 H (p.bin .eql t115 t117) fun t118 H =>
   p.pick t112 t118 bF fun t119 =>
   p.gT t119 H (p.fadr 5 t2) fun t121 H =>
   p.gT t119 H (p.load false 1 t121 H) fun t122 H =>
   p.gT t119 H (p.fadr 5 t3) fun t123 H =>
   p.gT t119 H (p.load false 1 t123 H) fun t124 H =>
   p.gT t119 H (p.bin .eql t122 t124) fun t125 H =>
   p.pick t119 t125 bF fun t126 =>
   p.gT t126 H (p.fadr 6 t2) fun t128 H =>
   p.gT t126 H (p.load false 1 t128 H) fun t129 H =>
   p.gT t126 H (p.fadr 6 t3) fun t130 H =>
   p.gT t126 H (p.load false 1 t130 H) fun t131 H =>
   p.hT t126 H (p.call 4 (.fn 65 [] []) [t129, t131] H) fun t132 H =>
   p.pick t126 t132 bF fun t133 =>
   p.gT t133 H (p.fadr 7 t2) fun t135 H =>
   p.gT t133 H (p.load false 1 t135 H) fun t136 H =>
   p.gT t133 H (p.fadr 7 t3) fun t137 H =>
   p.gT t133 H (p.load false 1 t137 H) fun t138 H =>
   p.gT t133 H (p.bin .eql t136 t138) fun t139 H =>
   p.pick t133 t139 bF fun t140 =>
   p.gT t140 H (p.fadr 8 t2) fun t142 H =>
   p.gT t140 H (p.load false 1 t142 H) fun t143 H =>
   p.gT t140 H (p.fadr 8 t3) fun t144 H =>
   p.gT t140 H (p.load false 1 t144 H) fun t145 H =>
   p.gT t140 H (p.bin .eql t143 t145) fun t146 H =>
   p.pick t140 t146 bF fun t147 =>
   p.gT t147 H (p.fadr 9 t2) fun t149 H =>
   p.gT t147 H (p.load false 1 t149 H) fun t150 H =>
   p.gT t147 H (p.fadr 9 t3) fun t151 H =>
   p.gT t147 H (p.load false 1 t151 H) fun t152 H =>
   p.gT t147 H (p.binB .eql t150 t152) fun t153 H =>
   p.pick t147 t153 bF fun t154 =>
   p.gT t154 H (p.fadr 10 t2) fun t156 H =>
   p.gT t154 H (p.load false 1 t156 H) fun t157 H =>
   p.gT t154 H (p.fadr 10 t3) fun t158 H =>
   p.gT t154 H (p.load false 1 t158 H) fun t159 H =>
   p.gT t154 H (p.bin .eql t157 t159) fun t160 H =>
   p.pick t154 t160 bF fun t161 =>
   p.gT t161 H (p.fadr 11 t2) fun t163 H =>
   p.gT t161 H (p.load false 1 t163 H) fun t164 H =>
   p.gT t161 H (p.fadr 11 t3) fun t165 H =>
   p.gT t161 H (p.load false 1 t165 H) fun t166 H =>
   p.gT t161 H (p.binB .eql t164 t166) fun t167 H =>
   p.pick t161 t167 bF fun t168 =>
   p.gT t168 H (p.fadr 12 t2) fun t170 H =>
   p.gT t168 H (p.load false 1 t170 H) fun t171 H =>
   p.gT t168 H (p.fadr 12 t3) fun t172 H =>
   p.gT t168 H (p.load false 1 t172 H) fun t173 H =>
   p.gT t168 H (p.bin .eql t171 t173) fun t174 H =>
   p.pick t168 t174 bF fun t175 =>
   p.gT t175 H (p.fadr 13 t2) fun t177 H =>
   p.gT t175 H (p.load false 1 t177 H) fun t178 H =>
   p.gT t175 H (p.fadr 13 t3) fun t179 H =>
   p.gT t175 H (p.load false 1 t179 H) fun t180 H =>
   p.hT t175 H (p.call 4 (.fn 65 [] []) [t178, t180] H) fun t181 H =>
   p.pick t175 t181 bF fun t182 =>
   p.gT t182 H (p.fadr 14 t2) fun t184 H =>
   p.gT t182 H (p.load false 1 t184 H) fun t185 H =>
   p.gT t182 H (p.fadr 14 t3) fun t186 H =>
   p.gT t182 H (p.load false 1 t186 H) fun t187 H =>
   p.gT t182 H (p.bin .eql t185 t187) fun t188 H =>
   p.pick t182 t188 bF fun t189 =>
   p.gT t189 H (p.fadr 15 t2) fun t191 H =>
   p.gT t189 H (p.load false 1 t191 H) fun t192 H =>
   p.gT t189 H (p.fadr 15 t3) fun t193 H =>
   p.gT t189 H (p.load false 1 t193 H) fun t194 H =>
   p.gT t189 H (p.binB .eql t192 t194) fun t195 H =>
   p.pick t189 t195 bF fun t196 =>
   p.gT t196 H (p.fadr 16 t2) fun t198 H =>
   p.gT t196 H (p.load false 1 t198 H) fun t199 H =>
   p.gT t196 H (p.fadr 16 t3) fun t200 H =>
   p.gT t196 H (p.load false 1 t200 H) fun t201 H =>
   p.gT t196 H (p.binB .eql t199 t201) fun t202 H =>
   p.pick t196 t202 bF fun t203 =>
   p.gT t203 H (p.fadr 17 t2) fun t205 H =>
   p.gT t203 H (p.load false 1 t205 H) fun t206 H =>
   p.gT t203 H (p.fadr 17 t3) fun t207 H =>
   p.gT t203 H (p.load false 1 t207 H) fun t208 H =>
   p.gT t203 H (p.bin .eql t206 t208) fun t209 H =>
   p.pick t203 t209 bF fun t210 =>
   p.gT t210 H (p.fadr 18 t2) fun t212 H =>
   p.gT t210 H (p.load false 1 t212 H) fun t213 H =>
   p.gT t210 H (p.fadr 18 t3) fun t214 H =>
   p.gT t210 H (p.load false 1 t214 H) fun t215 H =>
   p.gT t210 H (p.binB .eql t213 t215) fun t216 H =>
   p.pick t210 t216 bF fun t217 =>
   p.gT t217 H (p.fadr 19 t2) fun t219 H =>
   p.gT t217 H (p.load false 1 t219 H) fun t220 H =>
   p.gT t217 H (p.fadr 19 t3) fun t221 H =>
   p.gT t217 H (p.load false 1 t221 H) fun t222 H =>
   p.hT t217 H (p.call 4 (.fn 65 [] []) [t220, t222] H) fun t223 H =>
   p.pick t217 t223 bF fun t224 =>
   p.gT t224 H (p.fadr 20 t2) fun t226 H =>
   p.gT t224 H (p.load false 1 t226 H) fun t227 H =>
   p.gT t224 H (p.fadr 20 t3) fun t228 H =>
   p.gT t224 H (p.load false 1 t228 H) fun t229 H =>
   p.gT t224 H (p.bin .eql t227 t229) fun t230 H =>
   p.pick t224 t230 bF fun t231 =>
   p.gT t231 H (p.fadr 21 t2) fun t233 H =>
   p.gT t231 H (p.load false 1 t233 H) fun t234 H =>
   p.gT t231 H (p.fadr 21 t3) fun t235 H =>
   p.gT t231 H (p.load false 1 t235 H) fun t236 H =>
   p.gT t231 H (p.binB .eql t234 t236) fun t237 H =>
   p.pick t231 t237 bF fun t238 =>
   k t238 H)
noncomputable def M7 (p : Pr β) (n : Nat)  (k : KO β) : Nat → AV → AV → KO β
 | 0, _, _, _, _ => none
 | m + 1, t2, t3, t6, H => p.fadr 23 t2 fun t52 =>
   p.load false 1 t52 H fun t53 =>
   p.len t53 fun t54 =>
   p.bin .lss t6 t54 fun t55 =>
   p.cond t55
   (p.fadr 23 t2 fun t58 =>
   p.load false 1 t58 H fun t59 =>
   p.iadr 1 t59 t6 fun t61 =>
   p.load false 1 t61 H fun t62 =>
   p.fadr 23 t3 fun t63 =>
   p.load false 1 t63 H fun t64 =>
   p.iadr 1 t64 t6 fun t66 =>
   p.load false 1 t66 H fun t67 =>
   p.bin .neq t62 t67 fun t68 =>
   p.cond t68
   (k bF H)
   (p.bin .add t6 (si 1) fun t57 =>
   M7 p n  k m t2 t3 t57 H))
   (Ps p n  k n t2 t3 i0 H)
noncomputable def M6 (p : Pr β) (n : Nat)  (k : KO β) : Nat → AV → AV → KO β
 | 0, _, _, _, _ => none
 | m + 1, t2, t3, t5, H => p.fadr 22 t2 fun t34 =>
   p.load false 1 t34 H fun t35 =>
   p.len t35 fun t36 =>
   p.bin .lss t5 t36 fun t37 =>
   p.cond t37
   (p.fadr 22 t2 fun t40 =>
   p.load false 1 t40 H fun t41 =>
   p.iadr 2 t41 t5 fun t43 =>
   p.load true 2 t43 H fun t44 =>
   p.fadr 22 t3 fun t45 =>
   p.load false 1 t45 H fun t46 =>
   p.iadr 2 t46 t5 fun t48 =>
   p.load true 2 t48 H fun t49 =>
   p.binA .neq [1, 0] t44 t49 fun t50 =>
   p.cond t50
   (k bF H)
   (p.bin .add t5 (si 1) fun t39 =>
   M6 p n  k m t2 t3 t39 H))
   (M7 p n  k n t2 t3 i0 H)
noncomputable def f89 (n : Nat) (a0 a1 : AV) (H : Ab) (k : KO β) : Option β :=
 p.box a0 H fun t2 H =>
 p.box a1 H fun t3 H =>
 p.fadr 22 t2 fun t8 =>
 p.load false 1 t8 H fun t9 =>
 p.len t9 fun t10 =>
 p.fadr 22 t3 fun t11 =>
 p.load false 1 t11 H fun t12 =>
 p.len t12 fun t13 =>
 p.bin .neq t10 t13 fun t14 =>
 p.gF t14 H (p.fadr 23 t2) fun t16 H =>
 p.gF t14 H (p.load false 1 t16 H) fun t17 H =>
 p.gF t14 H (p.len t17) fun t18 H =>
 p.gF t14 H (p.fadr 23 t3) fun t19 H =>
 p.gF t14 H (p.load false 1 t19 H) fun t20 H =>
 p.gF t14 H (p.len t20) fun t21 H =>
 p.gF t14 H (p.bin .neq t18 t21) fun t22 H =>
 p.pick t14 bT t22 fun t23 =>
 p.gF t23 H (p.fadr 24 t2) fun t25 H =>
 p.gF t23 H (p.load false 1 t25 H) fun t26 H =>
 p.gF t23 H (p.len t26) fun t27 H =>
 p.gF t23 H (p.fadr 24 t3) fun t28 H =>
 p.gF t23 H (p.load false 1 t28 H) fun t29 H =>
 p.gF t23 H (p.len t29) fun t30 H =>
 p.gF t23 H (p.bin .neq t27 t30) fun t31 H =>
 p.pick t23 bT t31 fun t32 =>
 p.cond t32
 (k bF H)
 (M6 p n  k n t2 t3 i0 H)
noncomputable def AhE (p : Pr β) (n : Nat)  (k : KO β) (m : Nat) (tm : Tm) (H : Ab) : Option β :=
 C7 239 (fun tm H k => Af Ak p o89 239 n (cd c89 [1, 1, 1, 1, 0, 1, 0, 0]) tm H k) (Eb 4 (Dt (fun tm H => Af Ak p o89 239 n (cd c89 [1, 1, 1, 1, 1]) tm H (B5 Ak p fi89.results k)) (B5 Ak p fi89.results k))) m tm H
noncomputable def AhD (p : Pr β) (n : Nat)  (k : KO β) (m : Nat) (tm : Tm) (H : Ab) : Option β :=
 C7 239 (fun tm H k => Af Ak p o89 239 n (cd c89 [1, 1, 1, 0, 1, 0, 0]) tm H k) (Eb 2 (Dt (fun tm H => Af Ak p o89 239 n (cd c89 [1, 1, 1, 1]) tm H (B5 Ak p fi89.results k)) (B5 Ak p fi89.results k))) m tm H
noncomputable def AhC (p : Pr β) (n : Nat)  (k : KO β) (m : Nat) (tm : Tm) (H : Ab) : Option β :=
 C7 239 (fun tm H k => Af Ak p o89 239 n (cd c89 [1, 1, 0, 1, 0, 0]) tm H k) (Eb 0 (Dt (fun tm H => Af Ak p o89 239 n (cd c89 [1, 1, 1]) tm H (B5 Ak p fi89.results k)) (B5 Ak p fi89.results k))) m tm H
theorem Y9 (p : Pr β) (n : Nat)  (k : KO β) (m2 : Nat) : ∀ (t : Nat → AV) (H : Ab), AhE p n  k m2 (tf 239 0 t) H = Ps p n  k m2 (t 2) (t 3) (t 7) H := by
 induction m2 with
 | zero => intros; rfl
 | succ m2 ih =>
  intro t H
  refine Eq.trans (Bb (nt := 239) (m := m2) (g := fun t H => Ps p n  k m2 (t 2) (t 3) (t 7) H) ih rfl) ?_
  kernel_rfl
theorem Abg (p : Pr β) (n : Nat)  (k : KO β) (m1 : Nat) (t : Nat → AV) (H : Ab) : Af Ak p o89 239 n (cd c89 [1, 1, 1, 0, 1, 0, 0]) (tf 239 0 t) H (Dt (fun tm H => M7 p n  k m1 (gt tm 2) (gt tm 3) (gt tm 6) H) (Eb 2 (Dt (fun tm H => Af Ak p o89 239 n (cd c89 [1, 1, 1, 1]) tm H (B5 Ak p fi89.results k)) (B5 Ak p fi89.results k)))) =
 p.fadr 23 (t 2) fun t52 =>
 p.load false 1 t52 H fun t53 =>
 p.len t53 fun t54 =>
 p.bin .lss (t 6) t54 fun t55 =>
 p.cond t55
 (p.fadr 23 (t 2) fun t58 =>
 p.load false 1 t58 H fun t59 =>
 p.iadr 1 t59 (t 6) fun t61 =>
 p.load false 1 t61 H fun t62 =>
 p.fadr 23 (t 3) fun t63 =>
 p.load false 1 t63 H fun t64 =>
 p.iadr 1 t64 (t 6) fun t66 =>
 p.load false 1 t66 H fun t67 =>
 p.bin .neq t62 t67 fun t68 =>
 p.cond t68
 (k bF H)
 (p.bin .add (t 6) (si 1) fun t57 =>
 M7 p n  k m1 (t 2) (t 3) t57 H))
 (AhE p n  k n (tf 239 0 (ud [(7, i0), (51, (t 6)), (52, t52), (53, t53), (54, t54), (55, t55)] t)) H) := by kernel_rfl
theorem Y8 (p : Pr β) (n : Nat)  (k : KO β) (m1 : Nat) : ∀ (t : Nat → AV) (H : Ab), AhD p n  k m1 (tf 239 0 t) H = M7 p n  k m1 (t 2) (t 3) (t 6) H := by
 induction m1 with
 | zero => intros; rfl
 | succ m1 ih =>
  intro t H
  refine Eq.trans (Bb (nt := 239) (m := m1) (g := fun t H => M7 p n  k m1 (t 2) (t 3) (t 6) H) ih rfl) ?_
  refine Eq.trans (Abg p n  k m1 t H) ?_
  simp only [Y9]
  kernel_rfl
theorem Abf (p : Pr β) (n : Nat)  (k : KO β) (m0 : Nat) (t : Nat → AV) (H : Ab) : Af Ak p o89 239 n (cd c89 [1, 1, 0, 1, 0, 0]) (tf 239 0 t) H (Dt (fun tm H => M6 p n  k m0 (gt tm 2) (gt tm 3) (gt tm 5) H) (Eb 0 (Dt (fun tm H => Af Ak p o89 239 n (cd c89 [1, 1, 1]) tm H (B5 Ak p fi89.results k)) (B5 Ak p fi89.results k)))) =
 p.fadr 22 (t 2) fun t34 =>
 p.load false 1 t34 H fun t35 =>
 p.len t35 fun t36 =>
 p.bin .lss (t 5) t36 fun t37 =>
 p.cond t37
 (p.fadr 22 (t 2) fun t40 =>
 p.load false 1 t40 H fun t41 =>
 p.iadr 2 t41 (t 5) fun t43 =>
 p.load true 2 t43 H fun t44 =>
 p.fadr 22 (t 3) fun t45 =>
 p.load false 1 t45 H fun t46 =>
 p.iadr 2 t46 (t 5) fun t48 =>
 p.load true 2 t48 H fun t49 =>
 p.binA .neq [1, 0] t44 t49 fun t50 =>
 p.cond t50
 (k bF H)
 (p.bin .add (t 5) (si 1) fun t39 =>
 M6 p n  k m0 (t 2) (t 3) t39 H))
 (AhD p n  k n (tf 239 0 (ud [(6, i0), (33, (t 5)), (34, t34), (35, t35), (36, t36), (37, t37)] t)) H) := by kernel_rfl
theorem Afs (p : Pr β) (n : Nat)  (k : KO β) (m0 : Nat) : ∀ (t : Nat → AV) (H : Ab), AhC p n  k m0 (tf 239 0 t) H = M6 p n  k m0 (t 2) (t 3) (t 5) H := by
 induction m0 with
 | zero => intros; rfl
 | succ m0 ih =>
  intro t H
  refine Eq.trans (Bb (nt := 239) (m := m0) (g := fun t H => M6 p n  k m0 (t 2) (t 3) (t 5) H) ih rfl) ?_
  refine Eq.trans (Abf p n  k m0 t H) ?_
  simp only [Y8]
  kernel_rfl
theorem Akr (p : Pr β) (n : Nat) (a0 a1 : AV) (H : Ab) (k : KO β) : Bw Ak p n fi89 [a0, a1] H k =
 p.box a0 H fun t2 H =>
 p.box a1 H fun t3 H =>
 p.fadr 22 t2 fun t8 =>
 p.load false 1 t8 H fun t9 =>
 p.len t9 fun t10 =>
 p.fadr 22 t3 fun t11 =>
 p.load false 1 t11 H fun t12 =>
 p.len t12 fun t13 =>
 p.bin .neq t10 t13 fun t14 =>
 p.gF t14 H (p.fadr 23 t2) fun t16 H =>
 p.gF t14 H (p.load false 1 t16 H) fun t17 H =>
 p.gF t14 H (p.len t17) fun t18 H =>
 p.gF t14 H (p.fadr 23 t3) fun t19 H =>
 p.gF t14 H (p.load false 1 t19 H) fun t20 H =>
 p.gF t14 H (p.len t20) fun t21 H =>
 p.gF t14 H (p.bin .neq t18 t21) fun t22 H =>
 p.pick t14 bT t22 fun t23 =>
 p.gF t23 H (p.fadr 24 t2) fun t25 H =>
 p.gF t23 H (p.load false 1 t25 H) fun t26 H =>
 p.gF t23 H (p.len t26) fun t27 H =>
 p.gF t23 H (p.fadr 24 t3) fun t28 H =>
 p.gF t23 H (p.load false 1 t28 H) fun t29 H =>
 p.gF t23 H (p.len t29) fun t30 H =>
 p.gF t23 H (p.bin .neq t27 t30) fun t31 H =>
 p.pick t23 bT t31 fun t32 =>
 p.cond t32
 (k bF H)
 (AhC p n  k n (tf 239 0 (ud [(0, a0), (1, a1), (2, t2), (3, t3), (4, bF), (5, i0), (8, t8), (9, t9), (10, t10), (11, t11), (12, t12), (13, t13), (14, t14), (15, t14), (16, t16), (17, t17), (18, t18), (19, t19), (20, t20), (21, t21), (22, t22), (23, t23), (24, t23), (25, t25), (26, t26), (27, t27), (28, t28), (29, t29), (30, t30), (31, t31), (32, t32)] ut)) H) := by kernel_rfl
theorem AhF : J6 fi89 @f89 := fun p n a0 a1 H k => by
 rw [Akr]
 simp only [Y9, Y8, Afs]
 kernel_rfl
noncomputable def Og (p : Pr β) (n : Nat)  (k : KO β) : Nat → AV → AV → KO β
 | 0, _, _, _, _ => none
 | m + 1, t0, t1, t5, H => p.lenS t0 fun t8 =>
   p.bin .lss t5 t8 fun t9 =>
   p.cond t9
   (p.idx t0 t5 fun t14 =>
   p.bin .eql t14 t1 fun t16 =>
   p.cond t16
   (k bT H)
   (p.bin .add t5 (si 1) fun t11 =>
   Og p n  k m t0 t1 t11 H))
   (k bF H)
noncomputable def f127 (n : Nat) (a0 a1 : AV) (H : Ab) (k : KO β) : Option β :=
 Og p n  k n a0 a1 i0 H
noncomputable def Ad1 (p : Pr β) (n : Nat)  (k : KO β) (m : Nat) (tm : Tm) (H : Ab) : Option β :=
 C7 17 (fun tm H k => Af Ak p [] 17 n (cd Amt [1, 0, 1, 0, 0]) tm H k) (Eb 0 (Dt (fun tm H => Af Ak p [] 17 n (cd Amt [1, 1]) tm H (B5 Ak p fi127.results k)) (B5 Ak p fi127.results k))) m tm H
theorem Acx (p : Pr β) (n : Nat)  (k : KO β) (m0 : Nat) : ∀ (t : Nat → AV) (H : Ab), Ad1 p n  k m0 (tf 17 0 t) H = Og p n  k m0 (t 0) (t 1) (t 5) H := by
 induction m0 with
 | zero => intros; rfl
 | succ m0 ih =>
  intro t H
  refine Eq.trans (Bb (nt := 17) (m := m0) (g := fun t H => Og p n  k m0 (t 0) (t 1) (t 5) H) ih rfl) ?_
  kernel_rfl
theorem Agp (p : Pr β) (n : Nat) (a0 a1 : AV) (H : Ab) (k : KO β) : Bw Ak p n fi127 [a0, a1] H k =
 Ad1 p n  k n (tf 17 0 (ud [(0, a0), (1, a1), (4, bF), (5, i0)] ut)) H := by kernel_rfl
theorem Ae9 : J6 fi127 @f127 := fun p n a0 a1 H k => by
 rw [Agp]
 simp only [Acx]
 kernel_rfl
noncomputable def Le (p : Pr β) (n : Nat)  (k : KO β) : Nat → AV → AV → AV → KO β
 | 0, _, _, _, _, _ => none
 | m + 1, t0, t3, t4, t5, H => p.lenS t0 fun t9 =>
   p.bin .leq t5 t9 fun t10 =>
   p.cond t10
   (p.lenS t0 fun t15 =>
   p.bin .eql t5 t15 fun t16 =>
   p.kF t16 H t0 fun t18 H =>
   p.kF t16 H t5 fun t19 H =>
   p.gF t16 H (p.idx t18 t19) fun t20 H =>
   p.gF t16 H (p.bin .eql t20 (su 47)) fun t21 H =>
   p.pick t16 bT t21 fun t22 =>
   p.cond t22
   (p.sliceS t0 (some t4) (some t5) fun t27 =>
   p.fill [sE] [(0, 1, t27)] fun ct28 => p.newSl 1 1 ct28 true H fun t28 H =>
   p.app 1 16 t3 t28 H fun t29 H =>
   p.bin .add t5 (si 1) fun t31 =>
   p.bin .add t5 (si 1) fun t12 =>
   Le p n  k m t0 t29 t31 t12 H)
   (p.bin .add t5 (si 1) fun t12 =>
   Le p n  k m t0 t3 t4 t12 H))
   (k t3 H)
noncomputable def f128 (n : Nat) (a0 : AV) (H : Ab) (k : KO β) : Option β :=
 Le p n  k n a0 .nl i0 i0 H
noncomputable def Ad2 (p : Pr β) (n : Nat)  (k : KO β) (m : Nat) (tm : Tm) (H : Ab) : Option β :=
 C7 33 (fun tm H k => Af Ak p [] 33 n (cd Amu [1, 1, 1, 0, 1, 0, 0]) tm H k) (Eb 0 (Dt (fun tm H => Af Ak p [] 33 n (cd Amu [1, 1, 1, 1]) tm H (B5 Ak p fi128.results k)) (B5 Ak p fi128.results k))) m tm H
theorem Acy (p : Pr β) (n : Nat)  (k : KO β) (m0 : Nat) : ∀ (t : Nat → AV) (H : Ab), Ad2 p n  k m0 (tf 33 0 t) H = Le p n  k m0 (t 0) (t 3) (t 4) (t 5) H := by
 induction m0 with
 | zero => intros; rfl
 | succ m0 ih =>
  intro t H
  refine Eq.trans (Bb (nt := 33) (m := m0) (g := fun t H => Le p n  k m0 (t 0) (t 3) (t 4) (t 5) H) ih rfl) ?_
  kernel_rfl
theorem Agq (p : Pr β) (n : Nat) (a0 : AV) (H : Ab) (k : KO β) : Bw Ak p n fi128 [a0] H k =
 Ad2 p n  k n (tf 33 0 (ud [(0, a0), (2, .nl), (3, .nl), (4, i0), (5, i0), (6, .nl)] ut)) H := by kernel_rfl
theorem AeA : Nh fi128 @f128 := fun p n a0 H k => by
 rw [Agq]
 simp only [Acy]
 kernel_rfl
noncomputable def f91 (n : Nat) (a0 : AV) (H : Ab) (k : KO β) : Option β :=
 p.call 4 (.fn 80 [] []) [a0] H fun t4 H =>
 p.kT t4 H a0 fun t6 H =>
 p.gT t4 H (p.bin .neq t6 sE) fun t7 H =>
 p.pick t4 t7 bF fun t8 =>
 p.kT t8 H a0 fun t10 H =>
 p.hT t8 H (p.call 4 (.fn 127 [] []) [t10, (su 43)] H) fun t11 H =>
 p.gT t8 H (p.un .not t11) fun t12 H =>
 p.pick t8 t12 bF fun t13 =>
 p.kT t13 H a0 fun t15 H =>
 p.hT t13 H (p.call 4 (.fn 127 [] []) [t15, (su 35)] H) fun t16 H =>
 p.gT t13 H (p.un .not t16) fun t17 H =>
 p.pick t13 t17 bF fun t18 =>
 p.kT t18 H a0 fun t20 H =>
 p.hT t18 H (p.call 56 (.fn 128 [] []) [t20] H) fun t21 H =>
 p.gT t18 H (p.len t21) fun t22 H =>
 p.gT t18 H (p.bin .leq t22 (si 6)) fun t23 H =>
 p.pick t18 t23 bF fun t24 =>
 k t24 H
theorem AhH : Nh AoF @f91 := fun p n a0 H k => by kernel_rfl
noncomputable def Rk (p : Pr β) (n : Nat)  (k : KO β) : Nat → AV → AV → KO β
 | 0, _, _, _, _ => none
 | m + 1, t0, t3, t4, H => p.len t3 fun t9 =>
   p.bin .lss t4 t9 fun t10 =>
   p.cond t10
   (p.iadr 1 t3 t4 fun t15 =>
   p.load false 1 t15 H fun t16 =>
   p.ca 4 127 [t16, (su 43)] H fun t17 H =>
   p.kT t17 H t3 fun t19 H =>
   p.kT t17 H t4 fun t20 H =>
   p.gT t17 H (p.iadr 1 t19 t20) fun t21 H =>
   p.gT t17 H (p.load false 1 t21 H) fun t22 H =>
   p.gT t17 H (p.bin .neq t22 (.sc (.string ⟨#[43]⟩))) fun t23 H =>
   p.pick t17 t23 bF fun t24 =>
   p.kF t24 H t3 fun t26 H =>
   p.kF t24 H t4 fun t27 H =>
   p.gF t24 H (p.iadr 1 t26 t27) fun t28 H =>
   p.gF t24 H (p.load false 1 t28 H) fun t29 H =>
   p.hF t24 H (p.ca 4 127 [t29, (su 35)] H) fun t30 H =>
   p.kF t24 H t30 fun t31 H =>
   p.kT t31 H t3 fun t32 H =>
   p.kT t31 H t4 fun t33 H =>
   p.gT t31 H (p.iadr 1 t32 t33) fun t34 H =>
   p.gT t31 H (p.load false 1 t34 H) fun t35 H =>
   p.gT t31 H (p.bin .neq t35 (.sc (.string ⟨#[35]⟩))) fun t36 H =>
   p.kT t31 H t36 fun t37 H =>
   p.kF t37 H t4 fun t38 H =>
   p.kF t37 H t3 fun t39 H =>
   p.gF t37 H (p.len t39) fun t40 H =>
   p.gF t37 H (p.bin .sub t40 (si 1)) fun t41 H =>
   p.gF t37 H (p.bin .lss t38 t41) fun t42 H =>
   p.gT t31 H (p.pick t37 bT t42) fun t43 H =>
   p.gF t24 H (p.pick t31 t43 bF) fun t44 H =>
   p.pick t24 bT t44 fun t45 =>
   p.cond t45
   (k bF H)
   (p.bin .add t4 (si 1) fun t12 =>
   Rk p n  k m t0 t3 t12 H))
   (p.ca 4 80 [t0] H fun t47 H =>
   p.kT t47 H t0 fun t49 H =>
   p.gT t47 H (p.bin .neq t49 sE) fun t50 H =>
   p.pick t47 t50 bF fun t51 =>
   p.kT t51 H t3 fun t53 H =>
   p.gT t51 H (p.len t53) fun t54 H =>
   p.gT t51 H (p.bin .leq t54 (si 6)) fun t55 H =>
   p.pick t51 t55 bF fun t56 =>
   k t56 H)
noncomputable def f92 (n : Nat) (a0 : AV) (H : Ab) (k : KO β) : Option β :=
 p.call 56 (.fn 128 [] []) [a0] H fun t6 H =>
 Rk p n  k n a0 t6 i0 H
noncomputable def AhI (p : Pr β) (n : Nat)  (k : KO β) (m : Nat) (tm : Tm) (H : Ab) : Option β :=
 C7 57 (fun tm H k => Af Ak p [] 57 n (cd c92 [1, 1, 0, 1, 0, 0]) tm H k) (Eb 0 (Dt (fun tm H => Af Ak p [] 57 n (cd c92 [1, 1, 1]) tm H (B5 Ak p fi92.results k)) (B5 Ak p fi92.results k))) m tm H
theorem Aft (p : Pr β) (n : Nat)  (k : KO β) (m0 : Nat) : ∀ (t : Nat → AV) (H : Ab), AhI p n  k m0 (tf 57 0 t) H = Rk p n  k m0 (t 0) (t 3) (t 4) H := by
 induction m0 with
 | zero => intros; rfl
 | succ m0 ih =>
  intro t H
  refine Eq.trans (Bb (nt := 57) (m := m0) (g := fun t H => Rk p n  k m0 (t 0) (t 3) (t 4) H) ih rfl) ?_
  kernel_rfl
theorem Akt (p : Pr β) (n : Nat) (a0 : AV) (H : Ab) (k : KO β) : Bw Ak p n fi92 [a0] H k =
 p.call 56 (.fn 128 [] []) [a0] H fun t6 H =>
 AhI p n  k n (tf 57 0 (ud [(0, a0), (2, bF), (3, t6), (4, i0), (5, a0), (6, t6)] ut)) H := by kernel_rfl
theorem AhJ : Nh fi92 @f92 := fun p n a0 H k => by
 rw [Akt]
 simp only [Aft]
 kernel_rfl
noncomputable def Oi (p : Pr β) (n : Nat)  (k : KO β) : Nat → AV → AV → KO β
 | 0, _, _, _, _ => none
 | m + 1, t1, t3, t4, H => p.fadr 22 t1 fun t105 =>
   p.load false 1 t105 H fun t106 =>
   p.len t106 fun t107 =>
   p.bin .lss t4 t107 fun t108 =>
   p.cond t108
   (p.fadr 22 t1 fun t111 =>
   p.load false 1 t111 H fun t112 =>
   p.iadr 2 t112 t4 fun t114 =>
   p.fl 0 t114 1 H fun t116 =>
   p.ca 4 92 [t116] H fun t117 H =>
   p.un .not t117 fun t118 =>
   p.lF t118 H 22 t1 1 fun t121 H =>
   p.kF t118 H t4 fun t122 H =>
   p.gF t118 H (p.iadr 2 t121 t122) fun t123 H =>
   p.lF t118 H 1 t123 1 fun t125 H =>
   p.hF t118 H (p.ca 4 81 [t125, i0, (si 2)] H) fun t126 H =>
   p.gF t118 H (p.un .not t126) fun t127 H =>
   p.pick t118 bT t127 fun t128 =>
   p.cond t128
   (k bF H)
   (p.bin .add t4 (si 1) fun t110 =>
   Oi p n  k m t1 t3 t110 H))
   (p.gT t3 H (p.fadr 22 t1) fun t131 H =>
   p.gT t3 H (p.load false 1 t131 H) fun t132 H =>
   p.gT t3 H (p.len t132) fun t133 H =>
   p.hT t3 H (p.ca 4 81 [t133, (si 1), (si 4)] H) fun t134 H =>
   p.pick t3 t134 bF fun t135 =>
   k t135 H)
noncomputable def Oj (p : Pr β) (n : Nat)  (k : KO β) : Nat → AV → AV → KO β
 | 0, _, _, _, _ => none
 | m + 1, t1, t3, t5, H => p.fadr 24 t1 fun t139 =>
   p.load false 1 t139 H fun t140 =>
   p.len t140 fun t141 =>
   p.bin .lss t5 t141 fun t142 =>
   p.cond t142
   (p.fadr 24 t1 fun t145 =>
   p.load false 1 t145 H fun t146 =>
   p.iadr 1 t146 t5 fun t148 =>
   p.load false 1 t148 H fun t149 =>
   p.ca 4 81 [t149, i0, (si 2)] H fun t150 H =>
   p.un .not t150 fun t151 =>
   p.lT t151 H 24 t1 1 fun t154 H =>
   p.kT t151 H t5 fun t155 H =>
   p.gT t151 H (p.iadr 1 t154 t155) fun t156 H =>
   p.gT t151 H (p.load false 1 t156 H) fun t157 H =>
   p.gT t151 H (p.bin .neq t157 (si 128)) fun t158 H =>
   p.pick t151 t158 bF fun t159 =>
   p.cond t159
   (k bF H)
   (p.bin .add t5 (si 1) fun t144 =>
   Oj p n  k m t1 t3 t144 H))
   (p.gT t3 H (p.fadr 24 t1) fun t162 H =>
   p.gT t3 H (p.load false 1 t162 H) fun t163 H =>
   p.gT t3 H (p.len t163) fun t164 H =>
   p.hT t3 H (p.ca 4 81 [t164, (si 1), (si 4)] H) fun t165 H =>
   p.pick t3 t165 bF fun t166 =>
   k t166 H)
noncomputable def Ok (p : Pr β) (n : Nat)  (k : KO β) : Nat → AV → AV → KO β
 | 0, _, _, _, _ => none
 | m + 1, t1, t3, t6, H => p.fadr 23 t1 fun t170 =>
   p.load false 1 t170 H fun t171 =>
   p.len t171 fun t172 =>
   p.bin .lss t6 t172 fun t173 =>
   p.cond t173
   (p.fadr 23 t1 fun t176 =>
   p.load false 1 t176 H fun t177 =>
   p.iadr 1 t177 t6 fun t179 =>
   p.load false 1 t179 H fun t180 =>
   p.ca 4 92 [t180] H fun t181 H =>
   p.un .not t181 fun t182 =>
   p.cond t182
   (k bF H)
   (p.bin .add t6 (si 1) fun t175 =>
   Ok p n  k m t1 t3 t175 H))
   (p.gT t3 H (p.fadr 23 t1) fun t185 H =>
   p.gT t3 H (p.load false 1 t185 H) fun t186 H =>
   p.gT t3 H (p.len t186) fun t187 H =>
   p.hT t3 H (p.ca 4 81 [t187, (si 1), (si 4)] H) fun t188 H =>
   p.pick t3 t188 bF fun t189 =>
   k t189 H)
noncomputable def f64 (n : Nat) (a0 : AV) (H : Ab) (k : KO β) : Option β :=
 p.box a0 H fun t1 H =>
 p.fl 0 t1 1 H fun t8 =>
 p.ca 4 81 [t8, (si 1), (si 14)] H fun t9 H =>
 p.un .not t9 fun t10 =>
 p.gF t10 H (p.load true 25 t1 H) fun t13 H =>
 p.both
 (p.gF t10 H (p.load true 25 t1 H) fun t12 H =>
 p.hF t10 H (p.ca 59 90 [t13] H) fun t14 H =>
 p.hF t10 H (p.ca 4 89 [t12, t14] H) fun t15 H =>
 p.gF t10 H (p.un .not t15) fun t16 H =>
 p.pick t10 bT t16 fun t17 =>
 p.cond t17
 (k bF H)
 (p.fadr 4 t1 fun t18 =>
 p.load false 1 t18 H fun t19 =>
 p.ca 4 81 [t19, (si 1), (si 65535)] H fun t20 H =>
 p.fl 0 t1 1 H fun t22 =>
 p.bin .eql t22 (si 1) fun t24 =>
 p.cond t24
 (p.fadr 11 t1 fun t25 =>
 p.load false 1 t25 H fun t26 =>
 p.lT t26 H 12 t1 1 fun t29 H =>
 p.hT t26 H (p.ca 4 91 [t29] H) fun t30 H =>
 p.gT t26 H (p.un .not t30) fun t31 H =>
 p.kT t26 H t31 fun t32 H =>
 p.lF t32 H 13 t1 1 fun t34 H =>
 p.gF t32 H (p.len t34) fun t35 H =>
 p.gF t32 H (p.bin .gtr t35 (si 40)) fun t36 H =>
 p.gT t26 H (p.pick t32 bT t36) fun t37 H =>
 p.kT t26 H t37 fun t38 H =>
 p.lF t38 H 14 t1 1 fun t40 H =>
 p.hF t38 H (p.ca 4 81 [t40, i0, (si 2)] H) fun t41 H =>
 p.gF t38 H (p.un .not t41) fun t42 H =>
 p.gT t26 H (p.pick t38 bT t42) fun t43 H =>
 p.pick t26 t43 bF fun t44 =>
 p.cond t44
 (k bF H)
 (p.fadr 8 t1 fun t45 =>
 p.load false 1 t45 H fun t46 =>
 p.ca 4 81 [t46, i0, (si 255)] H fun t47 H =>
 p.lT t47 H 7 t1 1 fun t50 H =>
 p.hT t47 H (p.ca 4 80 [t50] H) fun t51 H =>
 p.pick t47 t51 bF fun t52 =>
 p.lT t52 H 10 t1 1 fun t55 H =>
 p.hT t52 H (p.ca 4 81 [t55, i0, (si 65535)] H) fun t56 H =>
 p.pick t52 t56 bF fun t57 =>
 p.lT t57 H 17 t1 1 fun t60 H =>
 p.hT t57 H (p.ca 4 80 [t60] H) fun t61 H =>
 p.pick t57 t61 bF fun t62 =>
 p.lT t62 H 19 t1 1 fun t65 H =>
 p.gT t62 H (p.len t65) fun t66 H =>
 p.gT t62 H (p.bin .leq t66 (si 60)) fun t67 H =>
 p.pick t62 t67 bF fun t68 =>
 k t68 H))
 (p.bin .eql t22 (si 2) fun t70 =>
 p.cond t70
 (p.fadr 20 t1 fun t71 =>
 p.load false 1 t71 H fun t72 =>
 p.ca 4 81 [t72, i0, (si 5)] H fun t73 H =>
 k t73 H)
 (p.bin .eql t22 (si 3) fun t75 =>
 p.cond t75
 (p.fadr 2 t1 fun t76 =>
 p.load false 1 t76 H fun t77 =>
 p.ca 4 81 [t77, i0, (si 2)] H fun t78 H =>
 p.lT t78 H 2 t1 1 fun t81 H =>
 p.gT t78 H (p.bin .eql t81 i0) fun t82 H =>
 p.kT t78 H t82 fun t83 H =>
 p.kF t83 H t20 fun t84 H =>
 p.gT t78 H (p.pick t83 bT t84) fun t85 H =>
 p.pick t78 t85 bF fun t86 =>
 p.lT t86 H 5 t1 1 fun t89 H =>
 p.hT t86 H (p.ca 4 91 [t89] H) fun t90 H =>
 p.pick t86 t90 bF fun t91 =>
 p.lT t91 H 6 t1 1 fun t94 H =>
 p.gT t91 H (p.len t94) fun t95 H =>
 p.gT t91 H (p.bin .leq t95 (si 40)) fun t96 H =>
 p.pick t91 t96 bF fun t97 =>
 k t97 H)
 (p.bin .eql t22 (si 12) fun t99 =>
 D4 (fun (t1 t3 t22 t98 : AV) (H : Ab) => p.cond t98
 (k bT H)
 (p.bin .eql t22 (si 8) fun t103 =>
 p.cond t103
 (Oi p n  k n t1 t3 i0 H)
 (p.bin .eql t22 (si 9) fun t137 =>
 p.cond t137
 (Oj p n  k n t1 t3 i0 H)
 (p.bin .eql t22 (si 10) fun t168 =>
 p.cond t168
 (Ok p n  k n t1 t3 i0 H)
 (k t3 H))))) fun j1 =>
 p.cond t99
 (j1 t1 t20 t22 t99 H)
 (p.bin .eql t22 (si 13) fun t100 =>
 p.cond t100
 (j1 t1 t20 t22 t100 H)
 (p.bin .eql t22 (si 14) fun t101 =>
 j1 t1 t20 t22 t101 H)))))))
 (p.hF t10 H (p.ca 59 90 [t13] H) fun t14 H =>
 p.gF t10 H (p.load true 25 t1 H) fun t12 H =>
 p.hF t10 H (p.ca 4 89 [t12, t14] H) fun t15 H =>
 p.gF t10 H (p.un .not t15) fun t16 H =>
 p.pick t10 bT t16 fun t17 =>
 p.cond t17
 (k bF H)
 (p.fadr 4 t1 fun t18 =>
 p.load false 1 t18 H fun t19 =>
 p.ca 4 81 [t19, (si 1), (si 65535)] H fun t20 H =>
 p.fl 0 t1 1 H fun t22 =>
 p.bin .eql t22 (si 1) fun t24 =>
 p.cond t24
 (p.fadr 11 t1 fun t25 =>
 p.load false 1 t25 H fun t26 =>
 p.lT t26 H 12 t1 1 fun t29 H =>
 p.hT t26 H (p.ca 4 91 [t29] H) fun t30 H =>
 p.gT t26 H (p.un .not t30) fun t31 H =>
 p.kT t26 H t31 fun t32 H =>
 p.lF t32 H 13 t1 1 fun t34 H =>
 p.gF t32 H (p.len t34) fun t35 H =>
 p.gF t32 H (p.bin .gtr t35 (si 40)) fun t36 H =>
 p.gT t26 H (p.pick t32 bT t36) fun t37 H =>
 p.kT t26 H t37 fun t38 H =>
 p.lF t38 H 14 t1 1 fun t40 H =>
 p.hF t38 H (p.ca 4 81 [t40, i0, (si 2)] H) fun t41 H =>
 p.gF t38 H (p.un .not t41) fun t42 H =>
 p.gT t26 H (p.pick t38 bT t42) fun t43 H =>
 p.pick t26 t43 bF fun t44 =>
 p.cond t44
 (k bF H)
 (p.fadr 8 t1 fun t45 =>
 p.load false 1 t45 H fun t46 =>
 p.ca 4 81 [t46, i0, (si 255)] H fun t47 H =>
 p.lT t47 H 7 t1 1 fun t50 H =>
 p.hT t47 H (p.ca 4 80 [t50] H) fun t51 H =>
 p.pick t47 t51 bF fun t52 =>
 p.lT t52 H 10 t1 1 fun t55 H =>
 p.hT t52 H (p.ca 4 81 [t55, i0, (si 65535)] H) fun t56 H =>
 p.pick t52 t56 bF fun t57 =>
 p.lT t57 H 17 t1 1 fun t60 H =>
 p.hT t57 H (p.ca 4 80 [t60] H) fun t61 H =>
 p.pick t57 t61 bF fun t62 =>
 p.lT t62 H 19 t1 1 fun t65 H =>
 p.gT t62 H (p.len t65) fun t66 H =>
 p.gT t62 H (p.bin .leq t66 (si 60)) fun t67 H =>
 p.pick t62 t67 bF fun t68 =>
 k t68 H))
 (p.bin .eql t22 (si 2) fun t70 =>
 p.cond t70
 (p.fadr 20 t1 fun t71 =>
 p.load false 1 t71 H fun t72 =>
 p.ca 4 81 [t72, i0, (si 5)] H fun t73 H =>
 k t73 H)
 (p.bin .eql t22 (si 3) fun t75 =>
 p.cond t75
 (p.fadr 2 t1 fun t76 =>
 p.load false 1 t76 H fun t77 =>
 p.ca 4 81 [t77, i0, (si 2)] H fun t78 H =>
 p.lT t78 H 2 t1 1 fun t81 H =>
 p.gT t78 H (p.bin .eql t81 i0) fun t82 H =>
 p.kT t78 H t82 fun t83 H =>
 p.kF t83 H t20 fun t84 H =>
 p.gT t78 H (p.pick t83 bT t84) fun t85 H =>
 p.pick t78 t85 bF fun t86 =>
 p.lT t86 H 5 t1 1 fun t89 H =>
 p.hT t86 H (p.ca 4 91 [t89] H) fun t90 H =>
 p.pick t86 t90 bF fun t91 =>
 p.lT t91 H 6 t1 1 fun t94 H =>
 p.gT t91 H (p.len t94) fun t95 H =>
 p.gT t91 H (p.bin .leq t95 (si 40)) fun t96 H =>
 p.pick t91 t96 bF fun t97 =>
 k t97 H)
 (p.bin .eql t22 (si 12) fun t99 =>
 D4 (fun (t1 t3 t22 t98 : AV) (H : Ab) => p.cond t98
 (k bT H)
 (p.bin .eql t22 (si 8) fun t103 =>
 p.cond t103
 (Oi p n  k n t1 t3 i0 H)
 (p.bin .eql t22 (si 9) fun t137 =>
 p.cond t137
 (Oj p n  k n t1 t3 i0 H)
 (p.bin .eql t22 (si 10) fun t168 =>
 p.cond t168
 (Ok p n  k n t1 t3 i0 H)
 (k t3 H))))) fun j2 =>
 p.cond t99
 (j2 t1 t20 t22 t99 H)
 (p.bin .eql t22 (si 13) fun t100 =>
 p.cond t100
 (j2 t1 t20 t22 t100 H)
 (p.bin .eql t22 (si 14) fun t101 =>
 j2 t1 t20 t22 t101 H)))))))
noncomputable def Ac5 (p : Pr β) (n : Nat)  (k : KO β) (m : Nat) (tm : Tm) (H : Ab) : Option β :=
 C7 191 (fun tm H k => Af Ak p o64 191 n (cd c64 [1, 1, 1, 0, 1, 0, 1, 2, 1, 2, 1, 2, 1, 2, 1, 1, 0, 1, 0, 0]) tm H k) (Eb 1 (Dt (fun tm H => Af Ak p o64 191 n (cd c64 [1, 1, 1, 0, 1, 0, 1, 2, 1, 2, 1, 2, 1, 2, 1, 1, 1]) tm H (Eb 0 (Dt (fun tm H => Af Ak p o64 191 n (cd c64 [1, 1, 1, 1]) tm H (B5 Ak p fi64.results k)) (B5 Ak p fi64.results k)))) (Eb 0 (Dt (fun tm H => Af Ak p o64 191 n (cd c64 [1, 1, 1, 1]) tm H (B5 Ak p fi64.results k)) (B5 Ak p fi64.results k))))) m tm H
noncomputable def Ac6 (p : Pr β) (n : Nat)  (k : KO β) (m : Nat) (tm : Tm) (H : Ab) : Option β :=
 C7 191 (fun tm H k => Af Ak p o64 191 n (cd c64 [1, 1, 1, 0, 1, 0, 1, 2, 1, 2, 1, 2, 1, 2, 1, 2, 1, 1, 0, 1, 0, 0]) tm H k) (Eb 3 (Dt (fun tm H => Af Ak p o64 191 n (cd c64 [1, 1, 1, 0, 1, 0, 1, 2, 1, 2, 1, 2, 1, 2, 1, 2, 1, 1, 1]) tm H (Eb 0 (Dt (fun tm H => Af Ak p o64 191 n (cd c64 [1, 1, 1, 1]) tm H (B5 Ak p fi64.results k)) (B5 Ak p fi64.results k)))) (Eb 0 (Dt (fun tm H => Af Ak p o64 191 n (cd c64 [1, 1, 1, 1]) tm H (B5 Ak p fi64.results k)) (B5 Ak p fi64.results k))))) m tm H
noncomputable def Ac7 (p : Pr β) (n : Nat)  (k : KO β) (m : Nat) (tm : Tm) (H : Ab) : Option β :=
 C7 191 (fun tm H k => Af Ak p o64 191 n (cd c64 [1, 1, 1, 0, 1, 0, 1, 2, 1, 2, 1, 2, 1, 2, 1, 2, 1, 2, 1, 1, 0, 1, 0, 0]) tm H k) (Eb 5 (Dt (fun tm H => Af Ak p o64 191 n (cd c64 [1, 1, 1, 0, 1, 0, 1, 2, 1, 2, 1, 2, 1, 2, 1, 2, 1, 2, 1, 1, 1]) tm H (Eb 0 (Dt (fun tm H => Af Ak p o64 191 n (cd c64 [1, 1, 1, 1]) tm H (B5 Ak p fi64.results k)) (B5 Ak p fi64.results k)))) (Eb 0 (Dt (fun tm H => Af Ak p o64 191 n (cd c64 [1, 1, 1, 1]) tm H (B5 Ak p fi64.results k)) (B5 Ak p fi64.results k))))) m tm H
theorem Afi (p : Pr β) (n : Nat)  (k : KO β) (m0 : Nat) : ∀ (t : Nat → AV) (H : Ab), Ac5 p n  k m0 (tf 191 0 t) H = Oi p n  k m0 (t 1) (t 3) (t 4) H := by
 induction m0 with
 | zero => intros; rfl
 | succ m0 ih =>
  intro t H
  refine Eq.trans (Bb (nt := 191) (m := m0) (g := fun t H => Oi p n  k m0 (t 1) (t 3) (t 4) H) ih rfl) ?_
  kernel_rfl
theorem Afj (p : Pr β) (n : Nat)  (k : KO β) (m1 : Nat) : ∀ (t : Nat → AV) (H : Ab), Ac6 p n  k m1 (tf 191 0 t) H = Oj p n  k m1 (t 1) (t 3) (t 5) H := by
 induction m1 with
 | zero => intros; rfl
 | succ m1 ih =>
  intro t H
  refine Eq.trans (Bb (nt := 191) (m := m1) (g := fun t H => Oj p n  k m1 (t 1) (t 3) (t 5) H) ih rfl) ?_
  kernel_rfl
theorem Afk (p : Pr β) (n : Nat)  (k : KO β) (m2 : Nat) : ∀ (t : Nat → AV) (H : Ab), Ac7 p n  k m2 (tf 191 0 t) H = Ok p n  k m2 (t 1) (t 3) (t 6) H := by
 induction m2 with
 | zero => intros; rfl
 | succ m2 ih =>
  intro t H
  refine Eq.trans (Bb (nt := 191) (m := m2) (g := fun t H => Ok p n  k m2 (t 1) (t 3) (t 6) H) ih rfl) ?_
  kernel_rfl
theorem Akj (p : Pr β) (n : Nat) (a0 : AV) (H : Ab) (k : KO β) : Bw Ak p n fi64 [a0] H k =
 p.box a0 H fun t1 H =>
 p.fadr 0 t1 fun t7 =>
 p.load false 1 t7 H fun t8 =>
 p.call 4 (.fn 81 [] []) [t8, (si 1), (si 14)] H fun t9 H =>
 p.un .not t9 fun t10 =>
 p.gF t10 H (p.load true 25 t1 H) fun t13 H =>
 p.both
 (p.gF t10 H (p.load true 25 t1 H) fun t12 H =>
 p.hF t10 H (p.call 59 (.fn 90 [] []) [t13] H) fun t14 H =>
 p.hF t10 H (p.call 4 (.fn 89 [] []) [t12, t14] H) fun t15 H =>
 p.gF t10 H (p.un .not t15) fun t16 H =>
 p.pick t10 bT t16 fun t17 =>
 p.cond t17
 (k bF H)
 (p.fadr 4 t1 fun t18 =>
 p.load false 1 t18 H fun t19 =>
 p.call 4 (.fn 81 [] []) [t19, (si 1), (si 65535)] H fun t20 H =>
 p.fadr 0 t1 fun t21 =>
 p.load false 1 t21 H fun t22 =>
 p.bin .eql t22 (si 1) fun t24 =>
 p.cond t24
 (p.fadr 11 t1 fun t25 =>
 p.load false 1 t25 H fun t26 =>
 p.gT t26 H (p.fadr 12 t1) fun t28 H =>
 p.gT t26 H (p.load false 1 t28 H) fun t29 H =>
 p.hT t26 H (p.call 4 (.fn 91 [] []) [t29] H) fun t30 H =>
 p.gT t26 H (p.un .not t30) fun t31 H =>
 p.kT t26 H t31 fun t32 H =>
 p.gF t32 H (p.fadr 13 t1) fun t33 H =>
 p.gF t32 H (p.load false 1 t33 H) fun t34 H =>
 p.gF t32 H (p.len t34) fun t35 H =>
 p.gF t32 H (p.bin .gtr t35 (si 40)) fun t36 H =>
 p.gT t26 H (p.pick t32 bT t36) fun t37 H =>
 p.kT t26 H t37 fun t38 H =>
 p.gF t38 H (p.fadr 14 t1) fun t39 H =>
 p.gF t38 H (p.load false 1 t39 H) fun t40 H =>
 p.hF t38 H (p.call 4 (.fn 81 [] []) [t40, i0, (si 2)] H) fun t41 H =>
 p.gF t38 H (p.un .not t41) fun t42 H =>
 p.gT t26 H (p.pick t38 bT t42) fun t43 H =>
 p.pick t26 t43 bF fun t44 =>
 p.cond t44
 (k bF H)
 (p.fadr 8 t1 fun t45 =>
 p.load false 1 t45 H fun t46 =>
 p.call 4 (.fn 81 [] []) [t46, i0, (si 255)] H fun t47 H =>
 p.gT t47 H (p.fadr 7 t1) fun t49 H =>
 p.gT t47 H (p.load false 1 t49 H) fun t50 H =>
 p.hT t47 H (p.call 4 (.fn 80 [] []) [t50] H) fun t51 H =>
 p.pick t47 t51 bF fun t52 =>
 p.gT t52 H (p.fadr 10 t1) fun t54 H =>
 p.gT t52 H (p.load false 1 t54 H) fun t55 H =>
 p.hT t52 H (p.call 4 (.fn 81 [] []) [t55, i0, (si 65535)] H) fun t56 H =>
 p.pick t52 t56 bF fun t57 =>
 p.gT t57 H (p.fadr 17 t1) fun t59 H =>
 p.gT t57 H (p.load false 1 t59 H) fun t60 H =>
 p.hT t57 H (p.call 4 (.fn 80 [] []) [t60] H) fun t61 H =>
 p.pick t57 t61 bF fun t62 =>
 p.gT t62 H (p.fadr 19 t1) fun t64 H =>
 p.gT t62 H (p.load false 1 t64 H) fun t65 H =>
 p.gT t62 H (p.len t65) fun t66 H =>
 p.gT t62 H (p.bin .leq t66 (si 60)) fun t67 H =>
 p.pick t62 t67 bF fun t68 =>
 k t68 H))
 (p.bin .eql t22 (si 2) fun t70 =>
 p.cond t70
 (p.fadr 20 t1 fun t71 =>
 p.load false 1 t71 H fun t72 =>
 p.call 4 (.fn 81 [] []) [t72, i0, (si 5)] H fun t73 H =>
 k t73 H)
 (p.bin .eql t22 (si 3) fun t75 =>
 p.cond t75
 (p.fadr 2 t1 fun t76 =>
 p.load false 1 t76 H fun t77 =>
 p.call 4 (.fn 81 [] []) [t77, i0, (si 2)] H fun t78 H =>
 p.gT t78 H (p.fadr 2 t1) fun t80 H =>
 p.gT t78 H (p.load false 1 t80 H) fun t81 H =>
 p.gT t78 H (p.bin .eql t81 i0) fun t82 H =>
 p.kT t78 H t82 fun t83 H =>
 p.kF t83 H t20 fun t84 H =>
 p.gT t78 H (p.pick t83 bT t84) fun t85 H =>
 p.pick t78 t85 bF fun t86 =>
 p.gT t86 H (p.fadr 5 t1) fun t88 H =>
 p.gT t86 H (p.load false 1 t88 H) fun t89 H =>
 p.hT t86 H (p.call 4 (.fn 91 [] []) [t89] H) fun t90 H =>
 p.pick t86 t90 bF fun t91 =>
 p.gT t91 H (p.fadr 6 t1) fun t93 H =>
 p.gT t91 H (p.load false 1 t93 H) fun t94 H =>
 p.gT t91 H (p.len t94) fun t95 H =>
 p.gT t91 H (p.bin .leq t95 (si 40)) fun t96 H =>
 p.pick t91 t96 bF fun t97 =>
 k t97 H)
 (p.bin .eql t22 (si 12) fun t99 =>
 D4 (fun (t : Nat → AV) (H : Ab) => p.cond (t 98)
 (k bT H)
 (p.bin .eql (t 22) (si 8) fun t103 =>
 p.cond t103
 (Ac5 p n  k n (tf 191 0 (ud [(4, i0), (102, t103), (103, t103)] t)) H)
 (p.bin .eql (t 22) (si 9) fun t137 =>
 p.cond t137
 (Ac6 p n  k n (tf 191 0 (ud [(5, i0), (102, t103), (103, t103), (136, t137), (137, t137)] t)) H)
 (p.bin .eql (t 22) (si 10) fun t168 =>
 p.cond t168
 (Ac7 p n  k n (tf 191 0 (ud [(6, i0), (102, t103), (103, t103), (136, t137), (137, t137), (167, t168), (168, t168)] t)) H)
 (k (t 3) H))))) fun j1 =>
 p.cond t99
 (j1 (ud [(0, a0), (1, t1), (2, bF), (3, t20), (7, t7), (8, t8), (9, t9), (10, t10), (11, t10), (12, t12), (13, t13), (14, t14), (15, t15), (16, t16), (17, t17), (18, t18), (19, t19), (20, t20), (21, t21), (22, t22), (23, t24), (24, t24), (69, t70), (70, t70), (74, t75), (75, t75), (98, t99), (99, t99)] ut) H)
 (p.bin .eql t22 (si 13) fun t100 =>
 p.cond t100
 (j1 (ud [(0, a0), (1, t1), (2, bF), (3, t20), (7, t7), (8, t8), (9, t9), (10, t10), (11, t10), (12, t12), (13, t13), (14, t14), (15, t15), (16, t16), (17, t17), (18, t18), (19, t19), (20, t20), (21, t21), (22, t22), (23, t24), (24, t24), (69, t70), (70, t70), (74, t75), (75, t75), (98, t100), (99, t99), (100, t100)] ut) H)
 (p.bin .eql t22 (si 14) fun t101 =>
 j1 (ud [(0, a0), (1, t1), (2, bF), (3, t20), (7, t7), (8, t8), (9, t9), (10, t10), (11, t10), (12, t12), (13, t13), (14, t14), (15, t15), (16, t16), (17, t17), (18, t18), (19, t19), (20, t20), (21, t21), (22, t22), (23, t24), (24, t24), (69, t70), (70, t70), (74, t75), (75, t75), (98, t101), (99, t99), (100, t100), (101, t101)] ut) H)))))))
 (p.hF t10 H (p.call 59 (.fn 90 [] []) [t13] H) fun t14 H =>
 p.gF t10 H (p.load true 25 t1 H) fun t12 H =>
 p.hF t10 H (p.call 4 (.fn 89 [] []) [t12, t14] H) fun t15 H =>
 p.gF t10 H (p.un .not t15) fun t16 H =>
 p.pick t10 bT t16 fun t17 =>
 p.cond t17
 (k bF H)
 (p.fadr 4 t1 fun t18 =>
 p.load false 1 t18 H fun t19 =>
 p.call 4 (.fn 81 [] []) [t19, (si 1), (si 65535)] H fun t20 H =>
 p.fadr 0 t1 fun t21 =>
 p.load false 1 t21 H fun t22 =>
 p.bin .eql t22 (si 1) fun t24 =>
 p.cond t24
 (p.fadr 11 t1 fun t25 =>
 p.load false 1 t25 H fun t26 =>
 p.gT t26 H (p.fadr 12 t1) fun t28 H =>
 p.gT t26 H (p.load false 1 t28 H) fun t29 H =>
 p.hT t26 H (p.call 4 (.fn 91 [] []) [t29] H) fun t30 H =>
 p.gT t26 H (p.un .not t30) fun t31 H =>
 p.kT t26 H t31 fun t32 H =>
 p.gF t32 H (p.fadr 13 t1) fun t33 H =>
 p.gF t32 H (p.load false 1 t33 H) fun t34 H =>
 p.gF t32 H (p.len t34) fun t35 H =>
 p.gF t32 H (p.bin .gtr t35 (si 40)) fun t36 H =>
 p.gT t26 H (p.pick t32 bT t36) fun t37 H =>
 p.kT t26 H t37 fun t38 H =>
 p.gF t38 H (p.fadr 14 t1) fun t39 H =>
 p.gF t38 H (p.load false 1 t39 H) fun t40 H =>
 p.hF t38 H (p.call 4 (.fn 81 [] []) [t40, i0, (si 2)] H) fun t41 H =>
 p.gF t38 H (p.un .not t41) fun t42 H =>
 p.gT t26 H (p.pick t38 bT t42) fun t43 H =>
 p.pick t26 t43 bF fun t44 =>
 p.cond t44
 (k bF H)
 (p.fadr 8 t1 fun t45 =>
 p.load false 1 t45 H fun t46 =>
 p.call 4 (.fn 81 [] []) [t46, i0, (si 255)] H fun t47 H =>
 p.gT t47 H (p.fadr 7 t1) fun t49 H =>
 p.gT t47 H (p.load false 1 t49 H) fun t50 H =>
 p.hT t47 H (p.call 4 (.fn 80 [] []) [t50] H) fun t51 H =>
 p.pick t47 t51 bF fun t52 =>
 p.gT t52 H (p.fadr 10 t1) fun t54 H =>
 p.gT t52 H (p.load false 1 t54 H) fun t55 H =>
 p.hT t52 H (p.call 4 (.fn 81 [] []) [t55, i0, (si 65535)] H) fun t56 H =>
 p.pick t52 t56 bF fun t57 =>
 p.gT t57 H (p.fadr 17 t1) fun t59 H =>
 p.gT t57 H (p.load false 1 t59 H) fun t60 H =>
 p.hT t57 H (p.call 4 (.fn 80 [] []) [t60] H) fun t61 H =>
 p.pick t57 t61 bF fun t62 =>
 p.gT t62 H (p.fadr 19 t1) fun t64 H =>
 p.gT t62 H (p.load false 1 t64 H) fun t65 H =>
 p.gT t62 H (p.len t65) fun t66 H =>
 p.gT t62 H (p.bin .leq t66 (si 60)) fun t67 H =>
 p.pick t62 t67 bF fun t68 =>
 k t68 H))
 (p.bin .eql t22 (si 2) fun t70 =>
 p.cond t70
 (p.fadr 20 t1 fun t71 =>
 p.load false 1 t71 H fun t72 =>
 p.call 4 (.fn 81 [] []) [t72, i0, (si 5)] H fun t73 H =>
 k t73 H)
 (p.bin .eql t22 (si 3) fun t75 =>
 p.cond t75
 (p.fadr 2 t1 fun t76 =>
 p.load false 1 t76 H fun t77 =>
 p.call 4 (.fn 81 [] []) [t77, i0, (si 2)] H fun t78 H =>
 p.gT t78 H (p.fadr 2 t1) fun t80 H =>
 p.gT t78 H (p.load false 1 t80 H) fun t81 H =>
 p.gT t78 H (p.bin .eql t81 i0) fun t82 H =>
 p.kT t78 H t82 fun t83 H =>
 p.kF t83 H t20 fun t84 H =>
 p.gT t78 H (p.pick t83 bT t84) fun t85 H =>
 p.pick t78 t85 bF fun t86 =>
 p.gT t86 H (p.fadr 5 t1) fun t88 H =>
 p.gT t86 H (p.load false 1 t88 H) fun t89 H =>
 p.hT t86 H (p.call 4 (.fn 91 [] []) [t89] H) fun t90 H =>
 p.pick t86 t90 bF fun t91 =>
 p.gT t91 H (p.fadr 6 t1) fun t93 H =>
 p.gT t91 H (p.load false 1 t93 H) fun t94 H =>
 p.gT t91 H (p.len t94) fun t95 H =>
 p.gT t91 H (p.bin .leq t95 (si 40)) fun t96 H =>
 p.pick t91 t96 bF fun t97 =>
 k t97 H)
 (p.bin .eql t22 (si 12) fun t99 =>
 D4 (fun (t : Nat → AV) (H : Ab) => p.cond (t 98)
 (k bT H)
 (p.bin .eql (t 22) (si 8) fun t103 =>
 p.cond t103
 (Ac5 p n  k n (tf 191 0 (ud [(4, i0), (102, t103), (103, t103)] t)) H)
 (p.bin .eql (t 22) (si 9) fun t137 =>
 p.cond t137
 (Ac6 p n  k n (tf 191 0 (ud [(5, i0), (102, t103), (103, t103), (136, t137), (137, t137)] t)) H)
 (p.bin .eql (t 22) (si 10) fun t168 =>
 p.cond t168
 (Ac7 p n  k n (tf 191 0 (ud [(6, i0), (102, t103), (103, t103), (136, t137), (137, t137), (167, t168), (168, t168)] t)) H)
 (k (t 3) H))))) fun j2 =>
 p.cond t99
 (j2 (ud [(0, a0), (1, t1), (2, bF), (3, t20), (7, t7), (8, t8), (9, t9), (10, t10), (11, t10), (12, t12), (13, t13), (14, t14), (15, t15), (16, t16), (17, t17), (18, t18), (19, t19), (20, t20), (21, t21), (22, t22), (23, t24), (24, t24), (69, t70), (70, t70), (74, t75), (75, t75), (98, t99), (99, t99)] ut) H)
 (p.bin .eql t22 (si 13) fun t100 =>
 p.cond t100
 (j2 (ud [(0, a0), (1, t1), (2, bF), (3, t20), (7, t7), (8, t8), (9, t9), (10, t10), (11, t10), (12, t12), (13, t13), (14, t14), (15, t15), (16, t16), (17, t17), (18, t18), (19, t19), (20, t20), (21, t21), (22, t22), (23, t24), (24, t24), (69, t70), (70, t70), (74, t75), (75, t75), (98, t100), (99, t99), (100, t100)] ut) H)
 (p.bin .eql t22 (si 14) fun t101 =>
 j2 (ud [(0, a0), (1, t1), (2, bF), (3, t20), (7, t7), (8, t8), (9, t9), (10, t10), (11, t10), (12, t12), (13, t13), (14, t14), (15, t15), (16, t16), (17, t17), (18, t18), (19, t19), (20, t20), (21, t21), (22, t22), (23, t24), (24, t24), (69, t70), (70, t70), (74, t75), (75, t75), (98, t101), (99, t99), (100, t100), (101, t101)] ut) H))))))) := by kernel_rfl
theorem Ahj : Nh fi64 @f64 := fun p n a0 H k => by
 rw [Akj]
 simp only [Afi, Afj, Afk]
 kernel_rfl
noncomputable def f95 (n : Nat) (a0 a1 : AV) (H : Ab) (k : KO β) : Option β :=
 p.app 1 1 .nl a0 H fun t7 H =>
 p.bin .shr a1 (.sc (.int .u64 8)) fun t9 =>
 p.bin .and t9 (si 255) fun t10 =>
 p.cvI .u8 t10 fun t11 =>
 p.bin .and a1 (si 255) fun t13 =>
 p.cvI .u8 t13 fun t14 =>
 p.fill [(su 0), (su 0)] [(0, 1, t11), (1, 1, t14)] fun ct15 => p.newSl 2 1 ct15 true H fun t15 H =>
 p.app 1 1 t7 t15 H fun t16 H =>
 k t16 H
theorem AhM : J6 AoI @f95 := fun p n a0 a1 H k => by kernel_rfl
noncomputable def f93 (n : Nat) (a0 a1 : AV) (H : Ab) (k : KO β) : Option β :=
 p.ca 4 80 [a1] H fun t6 H =>
 p.un .not t6 fun t7 =>
 p.cond t7
 (p.app 1 1 .nl a0 H fun t10 H =>
 k t10 H)
 (p.lenS a1 fun t13 =>
 p.ca 22 95 [a0, t13] H fun t14 H =>
 p.appS 1 t14 a1 H fun t16 H =>
 k t16 H)
theorem AhK : J6 AoG @f93 := fun p n a0 a1 H k => by kernel_rfl
noncomputable def f94 (n : Nat) (a0 a1 : AV) (H : Ab) (k : KO β) : Option β :=
 p.cond a0
 (k a1 H)
 (k i0 H)
theorem AhL : J6 AoH @f94 := fun p n a0 a1 H k => by kernel_rfl
noncomputable def f96 (n : Nat) (a0 a1 : AV) (H : Ab) (k : KO β) : Option β :=
 p.len a1 fun t6 =>
 p.bin .gtr t6 (si 60) fun t7 =>
 p.cond t7
 (p.app 1 1 .nl a0 H fun t10 H =>
 k t10 H)
 (p.len a1 fun t13 =>
 p.ca 22 95 [a0, t13] H fun t14 H =>
 p.app 1 1 t14 a1 H fun t16 H =>
 k t16 H)
theorem AhN : J6 AoJ @f96 := fun p n a0 a1 H k => by kernel_rfl
noncomputable def Pt (p : Pr β) (n : Nat)  (k : KO β) : Nat → AV → KO β
 | 0, _, _, _ => none
 | m + 1, t1, t5, H => p.bin .gtr t1 (si 127) fun t14 =>
   p.cond t14
   (p.bin .rem t1 (si 128) fun t17 =>
   p.bin .add (si 128) t17 fun t18 =>
   p.cvI .u8 t18 fun t19 =>
   p.fill [(su 0)] [(0, 1, t19)] fun ct20 => p.newSl 1 1 ct20 true H fun t20 H =>
   p.app 1 1 t5 t20 H fun t21 H =>
   p.bin .quo t1 (si 128) fun t23 =>
   Pt p n  k m t23 t21 H)
   (p.cvI .u8 t1 fun t26 =>
   p.fill [(su 0)] [(0, 1, t26)] fun ct27 => p.newSl 1 1 ct27 true H fun t27 H =>
   p.app 1 1 t5 t27 H fun t28 H =>
   k t28 H)
noncomputable def f97 (n : Nat) (a0 a1 : AV) (H : Ab) (k : KO β) : Option β :=
 p.app 1 1 .nl a0 H fun t8 H =>
 p.ca 4 81 [a1, i0, (si 268435455)] H fun t10 H =>
 p.un .not t10 fun t11 =>
 p.cond t11
 (k t8 H)
 (Pt p n  k n a1 t8 H)
noncomputable def AhO (p : Pr β) (n : Nat)  (k : KO β) (m : Nat) (tm : Tm) (H : Ab) : Option β :=
 C7 29 (fun tm H k => Af Ak p [] 29 n (cd c97 [1, 1, 1, 0, 0, 0]) tm H k) (Eb 0 (Dt (fun tm H => Af Ak p [] 29 n (cd c97 [1, 1, 1, 1]) tm H (B5 Ak p fi97.results k)) (B5 Ak p fi97.results k))) m tm H
theorem Afu (p : Pr β) (n : Nat)  (k : KO β) (m0 : Nat) : ∀ (t : Nat → AV) (H : Ab), AhO p n  k m0 (tf 29 0 t) H = Pt p n  k m0 (t 1) (t 5) H := by
 induction m0 with
 | zero => intros; rfl
 | succ m0 ih =>
  intro t H
  refine Eq.trans (Bb (nt := 29) (m := m0) (g := fun t H => Pt p n  k m0 (t 1) (t 5) H) ih rfl) ?_
  kernel_rfl
theorem Aku (p : Pr β) (n : Nat) (a0 a1 : AV) (H : Ab) (k : KO β) : Bw Ak p n fi97 [a0, a1] H k =
 p.app 1 1 .nl a0 H fun t8 H =>
 p.call 4 (.fn 81 [] []) [a1, i0, (si 268435455)] H fun t10 H =>
 p.un .not t10 fun t11 =>
 p.cond t11
 (k t8 H)
 (AhO p n  k n (tf 29 0 (ud [(0, a0), (1, a1), (4, .nl), (5, t8), (6, .nl), (7, a0), (8, t8), (9, a1), (10, t10), (11, t11)] ut)) H) := by kernel_rfl
theorem AhP : J6 fi97 @f97 := fun p n a0 a1 H k => by
 rw [Aku]
 simp only [Afu]
 kernel_rfl
noncomputable def Ri (p : Pr β) (n : Nat)  (k : KO β) : Nat → AV → AV → AV → KO β
 | 0, _, _, _, _, _ => none
 | m + 1, t1, t3, t4, t7, H => p.fadr 23 t1 fun t183 =>
   p.load false 1 t183 H fun t184 =>
   p.len t184 fun t185 =>
   p.bin .lss t7 t185 fun t186 =>
   p.cond t186
   (p.fadr 23 t1 fun t190 =>
   p.load false 1 t190 H fun t191 =>
   p.iadr 1 t191 t7 fun t193 =>
   p.load false 1 t193 H fun t194 =>
   p.ca 22 93 [t4, t194] H fun t195 H =>
   p.bin .add t7 (si 1) fun t188 =>
   Ri p n  k m t1 t3 t195 t188 H)
   (p.cvI .u8 t3 fun t197 =>
   p.fill [(su 0)] [(0, 1, t197)] fun ct198 => p.newSl 1 1 ct198 true H fun t198 H =>
   p.len t4 fun t200 =>
   p.ca 22 97 [t198, t200] H fun t201 H =>
   p.app 1 1 t201 t4 H fun t203 H =>
   k t203 H)
noncomputable def Om (p : Pr β) (n : Nat)  (k : KO β) : Nat → AV → AV → AV → KO β
 | 0, _, _, _, _, _ => none
 | m + 1, t1, t3, t4, t6, H => p.fadr 24 t1 fun t167 =>
   p.load false 1 t167 H fun t168 =>
   p.len t168 fun t169 =>
   p.bin .lss t6 t169 fun t170 =>
   p.cond t170
   (p.fadr 24 t1 fun t174 =>
   p.load false 1 t174 H fun t175 =>
   p.iadr 1 t175 t6 fun t177 =>
   p.load false 1 t177 H fun t178 =>
   p.cvI .u8 t178 fun t179 =>
   p.fill [(su 0)] [(0, 1, t179)] fun ct180 => p.newSl 1 1 ct180 true H fun t180 H =>
   p.app 1 1 t4 t180 H fun t181 H =>
   p.bin .add t6 (si 1) fun t172 =>
   Om p n  k m t1 t3 t181 t172 H)
   (Ri p n  k n t1 t3 t4 i0 H)
noncomputable def Ol (p : Pr β) (n : Nat)  (k : KO β) : Nat → AV → AV → AV → KO β
 | 0, _, _, _, _, _ => none
 | m + 1, t1, t3, t4, t5, H => p.fadr 22 t1 fun t143 =>
   p.load false 1 t143 H fun t144 =>
   p.len t144 fun t145 =>
   p.bin .lss t5 t145 fun t146 =>
   p.cond t146
   (p.fadr 22 t1 fun t150 =>
   p.load false 1 t150 H fun t151 =>
   p.iadr 2 t151 t5 fun t153 =>
   p.fl 0 t153 1 H fun t155 =>
   p.fl 22 t1 1 H fun t158 =>
   p.iadr 2 t158 t5 fun t160 =>
   p.fl 1 t160 1 H fun t162 =>
   p.cvI .u8 t162 fun t163 =>
   D4 (fun (t1 t3 t4 t5 : AV) (H : Ab) => p.bin .add t5 (si 1) fun t148 =>
   Ol p n  k m t1 t3 t4 t148 H) fun j1 =>
   p.both
   (p.ca 22 93 [t4, t155] H fun t156 H =>
   p.fill [(su 0)] [(0, 1, t163)] fun ct164 => p.newSl 1 1 ct164 true H fun t164 H =>
   p.app 1 1 t156 t164 H fun t165 H =>
   j1 t1 t3 t165 t5 H)
   (p.fill [(su 0)] [(0, 1, t163)] fun ct164 => p.newSl 1 1 ct164 true H fun t164 H =>
   p.ca 22 93 [t4, t155] H fun t156 H =>
   p.app 1 1 t156 t164 H fun t165 H =>
   j1 t1 t3 t165 t5 H))
   (Om p n  k n t1 t3 t4 i0 H)
noncomputable def f66 (n : Nat) (a0 : AV) (H : Ab) (k : KO β) : Option β :=
 p.box a0 H fun t1 H =>
 p.load true 25 t1 H fun t8 =>
 p.ca 4 64 [t8] H fun t9 H =>
 p.un .not t9 fun t10 =>
 p.cond t10
 (k .nl H)
 (p.fadr 0 t1 fun t12 =>
 p.load false 1 t12 H fun t13 =>
 p.bin .mul (si 16) t13 fun t14 =>
 p.fl 0 t1 1 H fun t17 =>
 p.bin .eql t17 (si 1) fun t19 =>
 D4 (fun (t1 t3 t4 : AV) (H : Ab) => p.fadr 0 t1 fun t130 =>
 p.load false 1 t130 H fun t131 =>
 p.bin .neq t131 (si 3) fun t132 =>
 p.lT t132 H 4 t1 1 fun t135 H =>
 p.gT t132 H (p.bin .gtr t135 i0) fun t136 H =>
 p.pick t132 t136 bF fun t137 =>
 D4 (fun (t1 t3 t4 : AV) (H : Ab) => Ol p n  k n t1 t3 t4 i0 H) fun j2 =>
 p.cond t137
 (p.fadr 4 t1 fun t139 =>
 p.load false 1 t139 H fun t140 =>
 p.ca 22 95 [t4, t140] H fun t141 H =>
 j2 t1 t3 t141 H)
 (j2 t1 t3 t4 H)) fun j1 =>
 p.cond t19
 (p.fadr 8 t1 fun t22 =>
 p.load false 1 t22 H fun t23 =>
 p.cvI .u8 t23 fun t24 =>
 D4 (fun (t1 t3 t4 : AV) (H : Ab) => p.fadr 9 t1 fun t28 =>
 p.load false 1 t28 H fun t29 =>
 p.fl 11 t1 1 H fun t32 =>
 p.fl 14 t1 1 H fun t36 =>
 p.bin .mul (si 8) t36 fun t37 =>
 p.fl 15 t1 1 H fun t40 =>
 p.fl 18 t1 1 H fun t44 =>
 p.fl 16 t1 1 H fun t48 =>
 p.ca 3 94 [t29, (si 2)] H fun t30 H =>
 p.ca 3 94 [t32, (si 4)] H fun t33 H =>
 p.bin .add t30 t33 fun t34 =>
 p.bin .add t34 t37 fun t38 =>
 p.ca 3 94 [t40, (si 32)] H fun t41 H =>
 p.bin .add t38 t41 fun t42 =>
 p.ca 3 94 [t44, (si 64)] H fun t45 H =>
 p.bin .add t42 t45 fun t46 =>
 p.ca 3 94 [t48, (si 128)] H fun t49 H =>
 p.bin .add t46 t49 fun t50 =>
 p.cvI .u8 t50 fun t51 =>
 p.fill [(su 0)] [(0, 1, t51)] fun ct52 => p.newSl 1 1 ct52 true H fun t52 H =>
 p.app 1 1 t4 t52 H fun t53 H =>
 p.fl 10 t1 1 H fun t56 =>
 p.fl 7 t1 1 H fun t59 =>
 p.ca 22 95 [t53, t56] H fun t57 H =>
 p.ca 22 93 [t57, t59] H fun t60 H =>
 p.fl 11 t1 1 H fun t62 =>
 D4 (fun (t1 t3 t4 : AV) (H : Ab) => p.fadr 16 t1 fun t70 =>
 p.load false 1 t70 H fun t71 =>
 D4 (fun (t1 t3 t4 : AV) (H : Ab) => p.fadr 18 t1 fun t76 =>
 p.load false 1 t76 H fun t77 =>
 p.cond t77
 (p.fadr 19 t1 fun t79 =>
 p.load false 1 t79 H fun t80 =>
 p.ca 22 96 [t4, t80] H fun t81 H =>
 j1 t1 t3 t81 H)
 (j1 t1 t3 t4 H)) fun j5 =>
 p.cond t71
 (p.fadr 17 t1 fun t73 =>
 p.load false 1 t73 H fun t74 =>
 p.ca 22 93 [t4, t74] H fun t75 H =>
 j5 t1 t3 t75 H)
 (j5 t1 t3 t4 H)) fun j4 =>
 p.cond t62
 (p.fadr 12 t1 fun t64 =>
 p.load false 1 t64 H fun t65 =>
 p.fl 13 t1 1 H fun t68 =>
 p.ca 22 93 [t60, t65] H fun t66 H =>
 p.ca 22 96 [t66, t68] H fun t69 H =>
 j4 t1 t3 t69 H)
 (j4 t1 t3 t60 H)) fun j3 =>
 p.both
 (p.ca 22 93 [.nl, (.sc (.string ⟨#[77, 81, 84, 84]⟩))] H fun t21 H =>
 p.fill [(su 0)] [(0, 1, t24)] fun ct25 => p.newSl 1 1 ct25 true H fun t25 H =>
 p.app 1 1 t21 t25 H fun t26 H =>
 j3 t1 t14 t26 H)
 (p.fill [(su 0)] [(0, 1, t24)] fun ct25 => p.newSl 1 1 ct25 true H fun t25 H =>
 p.ca 22 93 [.nl, (.sc (.string ⟨#[77, 81, 84, 84]⟩))] H fun t21 H =>
 p.app 1 1 t21 t25 H fun t26 H =>
 j3 t1 t14 t26 H))
 (p.bin .eql t17 (si 2) fun t83 =>
 p.cond t83
 (p.fadr 21 t1 fun t85 =>
 p.load false 1 t85 H fun t86 =>
 p.fl 20 t1 1 H fun t90 =>
 p.cvI .u8 t90 fun t91 =>
 p.ca 3 94 [t86, (si 1)] H fun t87 H =>
 p.cvI .u8 t87 fun t88 =>
 p.fill [(su 0), (su 0)] [(0, 1, t88), (1, 1, t91)] fun ct92 => p.newSl 2 1 ct92 true H fun t92 H =>
 p.app 1 1 .nl t92 H fun t93 H =>
 j1 t1 t14 t93 H)
 (p.bin .eql t17 (si 3) fun t95 =>
 p.cond t95
 (p.fadr 1 t1 fun t97 =>
 p.load false 1 t97 H fun t98 =>
 p.fl 2 t1 1 H fun t102 =>
 p.bin .mul (si 2) t102 fun t103 =>
 p.fl 3 t1 1 H fun t106 =>
 p.ca 3 94 [t98, (si 8)] H fun t99 H =>
 p.bin .add t14 t99 fun t100 =>
 p.bin .add t100 t103 fun t104 =>
 p.ca 3 94 [t106, (si 1)] H fun t107 H =>
 p.bin .add t104 t107 fun t108 =>
 p.fl 5 t1 1 H fun t111 =>
 p.ca 22 93 [.nl, t111] H fun t112 H =>
 p.fl 2 t1 1 H fun t114 =>
 p.bin .gtr t114 i0 fun t115 =>
 D4 (fun (t1 t3 t4 : AV) (H : Ab) => p.fadr 6 t1 fun t121 =>
 p.load false 1 t121 H fun t122 =>
 p.app 1 1 t4 t122 H fun t123 H =>
 j1 t1 t3 t123 H) fun j6 =>
 p.cond t115
 (p.fadr 4 t1 fun t117 =>
 p.load false 1 t117 H fun t118 =>
 p.ca 22 95 [t112, t118] H fun t119 H =>
 j6 t1 t108 t119 H)
 (j6 t1 t108 t112 H))
 (p.bin .eql t17 (si 6) fun t125 =>
 D4 (fun (t1 t3 t4 t124 : AV) (H : Ab) => p.cond t124
 (p.bin .add t3 (si 2) fun t129 =>
 j1 t1 t129 t4 H)
 (j1 t1 t3 t4 H)) fun j7 =>
 p.cond t125
 (j7 t1 t14 .nl t125 H)
 (p.bin .eql t17 (si 8) fun t126 =>
 p.cond t126
 (j7 t1 t14 .nl t126 H)
 (p.bin .eql t17 (si 10) fun t127 =>
 j7 t1 t14 .nl t127 H))))))
noncomputable def Ahn (p : Pr β) (n : Nat)  (k : KO β) (m : Nat) (tm : Tm) (H : Ab) : Option β :=
 C7 204 (fun tm H k => Af Ak p o66 204 n (cd c66 [1, 1, 1, 1, 1, 1, 1, 1, 0, 1, 0, 0]) tm H k) (Eb 5 (Dt (fun tm H => Af Ak p o66 204 n (cd c66 [1, 1, 1, 1, 1, 1, 1, 1, 1]) tm H (B5 Ak p fi66.results k)) (B5 Ak p fi66.results k))) m tm H
noncomputable def Ahm (p : Pr β) (n : Nat)  (k : KO β) (m : Nat) (tm : Tm) (H : Ab) : Option β :=
 C7 204 (fun tm H k => Af Ak p o66 204 n (cd c66 [1, 1, 1, 1, 1, 1, 1, 0, 1, 0, 0]) tm H k) (Eb 3 (Dt (fun tm H => Af Ak p o66 204 n (cd c66 [1, 1, 1, 1, 1, 1, 1, 1]) tm H (B5 Ak p fi66.results k)) (B5 Ak p fi66.results k))) m tm H
noncomputable def Ahl (p : Pr β) (n : Nat)  (k : KO β) (m : Nat) (tm : Tm) (H : Ab) : Option β :=
 C7 204 (fun tm H k => Af Ak p o66 204 n (cd c66 [1, 1, 1, 1, 1, 1, 0, 1, 0, 0]) tm H k) (Eb 1 (Dt (fun tm H => Af Ak p o66 204 n (cd c66 [1, 1, 1, 1, 1, 1, 1]) tm H (B5 Ak p fi66.results k)) (B5 Ak p fi66.results k))) m tm H
theorem Y7 (p : Pr β) (n : Nat)  (k : KO β) (m2 : Nat) : ∀ (t : Nat → AV) (H : Ab), Ahn p n  k m2 (tf 204 0 t) H = Ri p n  k m2 (t 1) (t 3) (t 4) (t 7) H := by
 induction m2 with
 | zero => intros; rfl
 | succ m2 ih =>
  intro t H
  refine Eq.trans (Bb (nt := 204) (m := m2) (g := fun t H => Ri p n  k m2 (t 1) (t 3) (t 4) (t 7) H) ih rfl) ?_
  kernel_rfl
theorem Abe (p : Pr β) (n : Nat)  (k : KO β) (m1 : Nat) (t : Nat → AV) (H : Ab) : Af Ak p o66 204 n (cd c66 [1, 1, 1, 1, 1, 1, 1, 0, 1, 0, 0]) (tf 204 0 t) H (Dt (fun tm H => Om p n  k m1 (gt tm 1) (gt tm 3) (gt tm 4) (gt tm 6) H) (Eb 3 (Dt (fun tm H => Af Ak p o66 204 n (cd c66 [1, 1, 1, 1, 1, 1, 1, 1]) tm H (B5 Ak p fi66.results k)) (B5 Ak p fi66.results k)))) =
 p.fadr 24 (t 1) fun t167 =>
 p.load false 1 t167 H fun t168 =>
 p.len t168 fun t169 =>
 p.bin .lss (t 6) t169 fun t170 =>
 p.cond t170
 (p.fadr 24 (t 1) fun t174 =>
 p.load false 1 t174 H fun t175 =>
 p.iadr 1 t175 (t 6) fun t177 =>
 p.load false 1 t177 H fun t178 =>
 p.cvI .u8 t178 fun t179 =>
 p.fill [(su 0)] [(0, 1, t179)] fun ct180 => p.newSl 1 1 ct180 true H fun t180 H =>
 p.app 1 1 (t 4) t180 H fun t181 H =>
 p.bin .add (t 6) (si 1) fun t172 =>
 Om p n  k m1 (t 1) (t 3) t181 t172 H)
 (Ahn p n  k n (tf 204 0 (ud [(7, i0), (166, (t 6)), (167, t167), (168, t168), (169, t169), (170, t170)] t)) H) := by kernel_rfl
theorem Y6 (p : Pr β) (n : Nat)  (k : KO β) (m1 : Nat) : ∀ (t : Nat → AV) (H : Ab), Ahm p n  k m1 (tf 204 0 t) H = Om p n  k m1 (t 1) (t 3) (t 4) (t 6) H := by
 induction m1 with
 | zero => intros; rfl
 | succ m1 ih =>
  intro t H
  refine Eq.trans (Bb (nt := 204) (m := m1) (g := fun t H => Om p n  k m1 (t 1) (t 3) (t 4) (t 6) H) ih rfl) ?_
  refine Eq.trans (Abe p n  k m1 t H) ?_
  simp only [Y7]
  kernel_rfl
theorem Abd (p : Pr β) (n : Nat)  (k : KO β) (m0 : Nat) (t : Nat → AV) (H : Ab) : Af Ak p o66 204 n (cd c66 [1, 1, 1, 1, 1, 1, 0, 1, 0, 0]) (tf 204 0 t) H (Dt (fun tm H => Ol p n  k m0 (gt tm 1) (gt tm 3) (gt tm 4) (gt tm 5) H) (Eb 1 (Dt (fun tm H => Af Ak p o66 204 n (cd c66 [1, 1, 1, 1, 1, 1, 1]) tm H (B5 Ak p fi66.results k)) (B5 Ak p fi66.results k)))) =
 p.fadr 22 (t 1) fun t143 =>
 p.load false 1 t143 H fun t144 =>
 p.len t144 fun t145 =>
 p.bin .lss (t 5) t145 fun t146 =>
 p.cond t146
 (p.fadr 22 (t 1) fun t150 =>
 p.load false 1 t150 H fun t151 =>
 p.iadr 2 t151 (t 5) fun t153 =>
 p.fadr 0 t153 fun t154 =>
 p.load false 1 t154 H fun t155 =>
 p.fadr 22 (t 1) fun t157 =>
 p.load false 1 t157 H fun t158 =>
 p.iadr 2 t158 (t 5) fun t160 =>
 p.fadr 1 t160 fun t161 =>
 p.load false 1 t161 H fun t162 =>
 p.cvI .u8 t162 fun t163 =>
 D4 (fun (t : Nat → AV) (H : Ab) => p.bin .add (t 5) (si 1) fun t148 =>
 Ol p n  k m0 (t 1) (t 3) (t 4) t148 H) fun j1 =>
 p.both
 (p.call 22 (.fn 93 [] []) [(t 4), t155] H fun t156 H =>
 p.fill [(su 0)] [(0, 1, t163)] fun ct164 => p.newSl 1 1 ct164 true H fun t164 H =>
 p.app 1 1 t156 t164 H fun t165 H =>
 j1 (ud [(4, t165), (142, (t 5)), (143, t143), (144, t144), (145, t145), (146, t146), (149, (t 4)), (150, t150), (151, t151), (152, (t 5)), (153, t153), (154, t154), (155, t155), (156, t156), (157, t157), (158, t158), (159, (t 5)), (160, t160), (161, t161), (162, t162), (163, t163), (164, t164), (165, t165)] t) H)
 (p.fill [(su 0)] [(0, 1, t163)] fun ct164 => p.newSl 1 1 ct164 true H fun t164 H =>
 p.call 22 (.fn 93 [] []) [(t 4), t155] H fun t156 H =>
 p.app 1 1 t156 t164 H fun t165 H =>
 j1 (ud [(4, t165), (142, (t 5)), (143, t143), (144, t144), (145, t145), (146, t146), (149, (t 4)), (150, t150), (151, t151), (152, (t 5)), (153, t153), (154, t154), (155, t155), (156, t156), (157, t157), (158, t158), (159, (t 5)), (160, t160), (161, t161), (162, t162), (163, t163), (164, t164), (165, t165)] t) H))
 (Ahm p n  k n (tf 204 0 (ud [(6, i0), (142, (t 5)), (143, t143), (144, t144), (145, t145), (146, t146)] t)) H) := by kernel_rfl
theorem Afl (p : Pr β) (n : Nat)  (k : KO β) (m0 : Nat) : ∀ (t : Nat → AV) (H : Ab), Ahl p n  k m0 (tf 204 0 t) H = Ol p n  k m0 (t 1) (t 3) (t 4) (t 5) H := by
 induction m0 with
 | zero => intros; rfl
 | succ m0 ih =>
  intro t H
  refine Eq.trans (Bb (nt := 204) (m := m0) (g := fun t H => Ol p n  k m0 (t 1) (t 3) (t 4) (t 5) H) ih rfl) ?_
  refine Eq.trans (Abd p n  k m0 t H) ?_
  simp only [Y6]
  kernel_rfl
theorem Akk (p : Pr β) (n : Nat) (a0 : AV) (H : Ab) (k : KO β) : Bw Ak p n fi66 [a0] H k =
 p.box a0 H fun t1 H =>
 p.load true 25 t1 H fun t8 =>
 p.call 4 (.fn 64 [] []) [t8] H fun t9 H =>
 p.un .not t9 fun t10 =>
 p.cond t10
 (k .nl H)
 (p.fadr 0 t1 fun t12 =>
 p.load false 1 t12 H fun t13 =>
 p.bin .mul (si 16) t13 fun t14 =>
 p.fadr 0 t1 fun t16 =>
 p.load false 1 t16 H fun t17 =>
 p.bin .eql t17 (si 1) fun t19 =>
 D4 (fun (t : Nat → AV) (H : Ab) => p.fadr 0 (t 1) fun t130 =>
 p.load false 1 t130 H fun t131 =>
 p.bin .neq t131 (si 3) fun t132 =>
 p.gT t132 H (p.fadr 4 (t 1)) fun t134 H =>
 p.gT t132 H (p.load false 1 t134 H) fun t135 H =>
 p.gT t132 H (p.bin .gtr t135 i0) fun t136 H =>
 p.pick t132 t136 bF fun t137 =>
 D4 (fun (t : Nat → AV) (H : Ab) => Ahl p n  k n (tf 204 0 (ud [(5, i0)] t)) H) fun j2 =>
 p.cond t137
 (p.fadr 4 (t 1) fun t139 =>
 p.load false 1 t139 H fun t140 =>
 p.call 22 (.fn 95 [] []) [(t 4), t140] H fun t141 H =>
 j2 (ud [(4, t141), (130, t130), (131, t131), (132, t132), (133, t132), (134, t134), (135, t135), (136, t136), (137, t137), (138, (t 4)), (139, t139), (140, t140), (141, t141)] t) H)
 (j2 (ud [(130, t130), (131, t131), (132, t132), (133, t132), (134, t134), (135, t135), (136, t136), (137, t137)] t) H)) fun j1 =>
 p.cond t19
 (p.fadr 8 t1 fun t22 =>
 p.load false 1 t22 H fun t23 =>
 p.cvI .u8 t23 fun t24 =>
 D4 (fun (t : Nat → AV) (H : Ab) => p.fadr 9 (t 1) fun t28 =>
 p.load false 1 t28 H fun t29 =>
 p.fadr 11 (t 1) fun t31 =>
 p.load false 1 t31 H fun t32 =>
 p.fadr 14 (t 1) fun t35 =>
 p.load false 1 t35 H fun t36 =>
 p.bin .mul (si 8) t36 fun t37 =>
 p.fadr 15 (t 1) fun t39 =>
 p.load false 1 t39 H fun t40 =>
 p.fadr 18 (t 1) fun t43 =>
 p.load false 1 t43 H fun t44 =>
 p.fadr 16 (t 1) fun t47 =>
 p.load false 1 t47 H fun t48 =>
 p.call 3 (.fn 94 [] []) [t29, (si 2)] H fun t30 H =>
 p.call 3 (.fn 94 [] []) [t32, (si 4)] H fun t33 H =>
 p.bin .add t30 t33 fun t34 =>
 p.bin .add t34 t37 fun t38 =>
 p.call 3 (.fn 94 [] []) [t40, (si 32)] H fun t41 H =>
 p.bin .add t38 t41 fun t42 =>
 p.call 3 (.fn 94 [] []) [t44, (si 64)] H fun t45 H =>
 p.bin .add t42 t45 fun t46 =>
 p.call 3 (.fn 94 [] []) [t48, (si 128)] H fun t49 H =>
 p.bin .add t46 t49 fun t50 =>
 p.cvI .u8 t50 fun t51 =>
 p.fill [(su 0)] [(0, 1, t51)] fun ct52 => p.newSl 1 1 ct52 true H fun t52 H =>
 p.app 1 1 (t 4) t52 H fun t53 H =>
 p.fadr 10 (t 1) fun t55 =>
 p.load false 1 t55 H fun t56 =>
 p.fadr 7 (t 1) fun t58 =>
 p.load false 1 t58 H fun t59 =>
 p.call 22 (.fn 95 [] []) [t53, t56] H fun t57 H =>
 p.call 22 (.fn 93 [] []) [t57, t59] H fun t60 H =>
 p.fadr 11 (t 1) fun t61 =>
 p.load false 1 t61 H fun t62 =>
 D4 (fun (t : Nat → AV) (H : Ab) => p.fadr 16 (t 1) fun t70 =>
 p.load false 1 t70 H fun t71 =>
 D4 (fun (t : Nat → AV) (H : Ab) => p.fadr 18 (t 1) fun t76 =>
 p.load false 1 t76 H fun t77 =>
 p.cond t77
 (p.fadr 19 (t 1) fun t79 =>
 p.load false 1 t79 H fun t80 =>
 p.call 22 (.fn 96 [] []) [(t 4), t80] H fun t81 H =>
 j1 (ud [(4, t81), (76, t76), (77, t77), (78, (t 4)), (79, t79), (80, t80), (81, t81)] t) H)
 (j1 (ud [(76, t76), (77, t77)] t) H)) fun j5 =>
 p.cond t71
 (p.fadr 17 (t 1) fun t73 =>
 p.load false 1 t73 H fun t74 =>
 p.call 22 (.fn 93 [] []) [(t 4), t74] H fun t75 H =>
 j5 (ud [(4, t75), (70, t70), (71, t71), (72, (t 4)), (73, t73), (74, t74), (75, t75)] t) H)
 (j5 (ud [(70, t70), (71, t71)] t) H)) fun j4 =>
 p.cond t62
 (p.fadr 12 (t 1) fun t64 =>
 p.load false 1 t64 H fun t65 =>
 p.fadr 13 (t 1) fun t67 =>
 p.load false 1 t67 H fun t68 =>
 p.call 22 (.fn 93 [] []) [t60, t65] H fun t66 H =>
 p.call 22 (.fn 96 [] []) [t66, t68] H fun t69 H =>
 j4 (ud [(4, t69), (27, (t 4)), (28, t28), (29, t29), (30, t30), (31, t31), (32, t32), (33, t33), (34, t34), (35, t35), (36, t36), (37, t37), (38, t38), (39, t39), (40, t40), (41, t41), (42, t42), (43, t43), (44, t44), (45, t45), (46, t46), (47, t47), (48, t48), (49, t49), (50, t50), (51, t51), (52, t52), (53, t53), (54, t53), (55, t55), (56, t56), (57, t57), (58, t58), (59, t59), (60, t60), (61, t61), (62, t62), (63, t60), (64, t64), (65, t65), (66, t66), (67, t67), (68, t68), (69, t69)] t) H)
 (j4 (ud [(4, t60), (27, (t 4)), (28, t28), (29, t29), (30, t30), (31, t31), (32, t32), (33, t33), (34, t34), (35, t35), (36, t36), (37, t37), (38, t38), (39, t39), (40, t40), (41, t41), (42, t42), (43, t43), (44, t44), (45, t45), (46, t46), (47, t47), (48, t48), (49, t49), (50, t50), (51, t51), (52, t52), (53, t53), (54, t53), (55, t55), (56, t56), (57, t57), (58, t58), (59, t59), (60, t60), (61, t61), (62, t62)] t) H)) fun j3 =>
 p.both
 (p.call 22 (.fn 93 [] []) [.nl, (.sc (.string ⟨#[77, 81, 84, 84]⟩))] H fun t21 H =>
 p.fill [(su 0)] [(0, 1, t24)] fun ct25 => p.newSl 1 1 ct25 true H fun t25 H =>
 p.app 1 1 t21 t25 H fun t26 H =>
 j3 (ud [(0, a0), (1, t1), (2, .nl), (3, t14), (4, t26), (8, t8), (9, t9), (10, t10), (12, t12), (13, t13), (14, t14), (15, .nl), (16, t16), (17, t17), (18, t19), (19, t19), (20, .nl), (21, t21), (22, t22), (23, t23), (24, t24), (25, t25), (26, t26)] ut) H)
 (p.fill [(su 0)] [(0, 1, t24)] fun ct25 => p.newSl 1 1 ct25 true H fun t25 H =>
 p.call 22 (.fn 93 [] []) [.nl, (.sc (.string ⟨#[77, 81, 84, 84]⟩))] H fun t21 H =>
 p.app 1 1 t21 t25 H fun t26 H =>
 j3 (ud [(0, a0), (1, t1), (2, .nl), (3, t14), (4, t26), (8, t8), (9, t9), (10, t10), (12, t12), (13, t13), (14, t14), (15, .nl), (16, t16), (17, t17), (18, t19), (19, t19), (20, .nl), (21, t21), (22, t22), (23, t23), (24, t24), (25, t25), (26, t26)] ut) H))
 (p.bin .eql t17 (si 2) fun t83 =>
 p.cond t83
 (p.fadr 21 t1 fun t85 =>
 p.load false 1 t85 H fun t86 =>
 p.fadr 20 t1 fun t89 =>
 p.load false 1 t89 H fun t90 =>
 p.cvI .u8 t90 fun t91 =>
 p.call 3 (.fn 94 [] []) [t86, (si 1)] H fun t87 H =>
 p.cvI .u8 t87 fun t88 =>
 p.fill [(su 0), (su 0)] [(0, 1, t88), (1, 1, t91)] fun ct92 => p.newSl 2 1 ct92 true H fun t92 H =>
 p.app 1 1 .nl t92 H fun t93 H =>
 j1 (ud [(0, a0), (1, t1), (2, .nl), (3, t14), (4, t93), (8, t8), (9, t9), (10, t10), (12, t12), (13, t13), (14, t14), (15, .nl), (16, t16), (17, t17), (18, t19), (19, t19), (82, t83), (83, t83), (84, .nl), (85, t85), (86, t86), (87, t87), (88, t88), (89, t89), (90, t90), (91, t91), (92, t92), (93, t93)] ut) H)
 (p.bin .eql t17 (si 3) fun t95 =>
 p.cond t95
 (p.fadr 1 t1 fun t97 =>
 p.load false 1 t97 H fun t98 =>
 p.fadr 2 t1 fun t101 =>
 p.load false 1 t101 H fun t102 =>
 p.bin .mul (si 2) t102 fun t103 =>
 p.fadr 3 t1 fun t105 =>
 p.load false 1 t105 H fun t106 =>
 p.call 3 (.fn 94 [] []) [t98, (si 8)] H fun t99 H =>
 p.bin .add t14 t99 fun t100 =>
 p.bin .add t100 t103 fun t104 =>
 p.call 3 (.fn 94 [] []) [t106, (si 1)] H fun t107 H =>
 p.bin .add t104 t107 fun t108 =>
 p.fadr 5 t1 fun t110 =>
 p.load false 1 t110 H fun t111 =>
 p.call 22 (.fn 93 [] []) [.nl, t111] H fun t112 H =>
 p.fadr 2 t1 fun t113 =>
 p.load false 1 t113 H fun t114 =>
 p.bin .gtr t114 i0 fun t115 =>
 D4 (fun (t : Nat → AV) (H : Ab) => p.fadr 6 (t 1) fun t121 =>
 p.load false 1 t121 H fun t122 =>
 p.app 1 1 (t 4) t122 H fun t123 H =>
 j1 (ud [(4, t123), (120, (t 4)), (121, t121), (122, t122), (123, t123)] t) H) fun j6 =>
 p.cond t115
 (p.fadr 4 t1 fun t117 =>
 p.load false 1 t117 H fun t118 =>
 p.call 22 (.fn 95 [] []) [t112, t118] H fun t119 H =>
 j6 (ud [(0, a0), (1, t1), (2, .nl), (3, t108), (4, t119), (8, t8), (9, t9), (10, t10), (12, t12), (13, t13), (14, t14), (15, .nl), (16, t16), (17, t17), (18, t19), (19, t19), (82, t83), (83, t83), (94, t95), (95, t95), (96, t14), (97, t97), (98, t98), (99, t99), (100, t100), (101, t101), (102, t102), (103, t103), (104, t104), (105, t105), (106, t106), (107, t107), (108, t108), (109, .nl), (110, t110), (111, t111), (112, t112), (113, t113), (114, t114), (115, t115), (116, t112), (117, t117), (118, t118), (119, t119)] ut) H)
 (j6 (ud [(0, a0), (1, t1), (2, .nl), (3, t108), (4, t112), (8, t8), (9, t9), (10, t10), (12, t12), (13, t13), (14, t14), (15, .nl), (16, t16), (17, t17), (18, t19), (19, t19), (82, t83), (83, t83), (94, t95), (95, t95), (96, t14), (97, t97), (98, t98), (99, t99), (100, t100), (101, t101), (102, t102), (103, t103), (104, t104), (105, t105), (106, t106), (107, t107), (108, t108), (109, .nl), (110, t110), (111, t111), (112, t112), (113, t113), (114, t114), (115, t115)] ut) H))
 (p.bin .eql t17 (si 6) fun t125 =>
 D4 (fun (t : Nat → AV) (H : Ab) => p.cond (t 124)
 (p.bin .add (t 3) (si 2) fun t129 =>
 j1 (ud [(3, t129), (128, (t 3)), (129, t129)] t) H)
 (j1 t H)) fun j7 =>
 p.cond t125
 (j7 (ud [(0, a0), (1, t1), (2, .nl), (3, t14), (4, .nl), (8, t8), (9, t9), (10, t10), (12, t12), (13, t13), (14, t14), (15, .nl), (16, t16), (17, t17), (18, t19), (19, t19), (82, t83), (83, t83), (94, t95), (95, t95), (124, t125), (125, t125)] ut) H)
 (p.bin .eql t17 (si 8) fun t126 =>
 p.cond t126
 (j7 (ud [(0, a0), (1, t1), (2, .nl), (3, t14), (4, .nl), (8, t8), (9, t9), (10, t10), (12, t12), (13, t13), (14, t14), (15, .nl), (16, t16), (17, t17), (18, t19), (19, t19), (82, t83), (83, t83), (94, t95), (95, t95), (124, t126), (125, t125), (126, t126)] ut) H)
 (p.bin .eql t17 (si 10) fun t127 =>
 j7 (ud [(0, a0), (1, t1), (2, .nl), (3, t14), (4, .nl), (8, t8), (9, t9), (10, t10), (12, t12), (13, t13), (14, t14), (15, .nl), (16, t16), (17, t17), (18, t19), (19, t19), (82, t83), (83, t83), (94, t95), (95, t95), (124, t127), (125, t125), (126, t126), (127, t127)] ut) H)))))) := by kernel_rfl
theorem Aho : Nh fi66 @f66 := fun p n a0 H k => by
 rw [Akk]
 simp only [Y7, Y6, Afl]
 kernel_rfl
noncomputable def f31 (n : Nat) (a0 : AV) (H : Ab) (k : KO β) : Option β :=
 p.new Ed H fun t2 H =>
 p.len a0 fun t10 =>
 p.bin .eql t10 i0 fun t11 =>
 p.cond t11
 (p.fill Ed [] fun ct12 =>
 p.store 25 t2 (.agg ct12) H fun H =>
 p.load true 25 t2 H fun r0 =>
 k (Cj [r0, i0, (si 1)]) H)
 (p.iadr 1 a0 i0 fun t14 =>
 p.load false 1 t14 H fun t15 =>
 p.cvI .i64 t15 fun t16 =>
 p.ca 4 61 [t16] H fun t17 H =>
 p.un .not t17 fun t18 =>
 p.cond t18
 (p.fill Ed [] fun ct19 =>
 p.store 25 t2 (.agg ct19) H fun H =>
 p.load true 25 t2 H fun r0 =>
 k (Cj [r0, i0, (si 2)]) H)
 (p.ca 85 62 [a0, (si 1)] H fun t22 H =>
 p.extr t22 0 fun t23 =>
 p.extr t22 1 fun t24 =>
 p.extr t22 2 fun t25 =>
 p.bin .neq t25 i0 fun t27 =>
 p.cond t27
 (p.fill Ed [] fun ct28 =>
 p.store 25 t2 (.agg ct28) H fun H =>
 p.load true 25 t2 H fun r0 =>
 k (Cj [r0, i0, t25]) H)
 (p.bin .gtr t23 (si 340) fun t31 =>
 p.cond t31
 (p.fill Ed [] fun ct32 =>
 p.store 25 t2 (.agg ct32) H fun H =>
 p.load true 25 t2 H fun r0 =>
 k (Cj [r0, i0, (si 2)]) H)
 (p.len a0 fun t35 =>
 p.bin .sub t35 t24 fun t37 =>
 p.bin .gtr t23 t37 fun t38 =>
 p.cond t38
 (p.fill Ed [] fun ct39 =>
 p.store 25 t2 (.agg ct39) H fun H =>
 p.load true 25 t2 H fun r0 =>
 k (Cj [r0, i0, (si 1)]) H)
 (p.iadr 1 a0 i0 fun t41 =>
 p.load false 1 t41 H fun t42 =>
 p.cvI .i64 t42 fun t43 =>
 p.bin .add t24 t23 fun t48 =>
 p.slice 1 a0 (some t24) (some t48) fun t49 =>
 D4 (fun (t0 t2 t5 t6 t8 : AV) (H : Ab) => p.load true 25 t8 H fun t51 =>
 p.ca 4 64 [t51] H fun t52 H =>
 p.un .not t52 fun t53 =>
 p.gF t53 H (p.load true 25 t8 H) fun t55 H =>
 p.kF t53 H t0 fun t57 H =>
 p.kF t53 H t6 fun t58 H =>
 p.kF t53 H t5 fun t59 H =>
 p.gF t53 H (p.bin .add t58 t59) fun t60 H =>
 p.gF t53 H (p.slice 1 t57 none (some t60)) fun t61 H =>
 p.hF t53 H (p.ca 22 66 [t55] H) fun t56 H =>
 p.hF t53 H (p.ca 4 65 [t56, t61] H) fun t62 H =>
 p.gF t53 H (p.un .not t62) fun t63 H =>
 p.pick t53 bT t63 fun t64 =>
 p.cond t64
 (p.fill Ed [] fun ct65 =>
 p.store 25 t2 (.agg ct65) H fun H =>
 p.load true 25 t2 H fun r0 =>
 k (Cj [r0, i0, (si 2)]) H)
 (p.load true 25 t8 H fun t66 =>
 p.bin .add t6 t5 fun t69 =>
 p.store 25 t2 t66 H fun H =>
 p.load true 25 t2 H fun r0 =>
 k (Cj [r0, t69, i0]) H)) fun j1 =>
 p.both
 (p.ca 59 63 [t43, t49] H fun t50 H =>
 p.new Ed H fun t8 H =>
 p.store 25 t8 t50 H fun H =>
 j1 a0 t2 t23 t24 t8 H)
 (p.new Ed H fun t8 H =>
 p.ca 59 63 [t43, t49] H fun t50 H =>
 p.store 25 t8 t50 H fun H =>
 j1 a0 t2 t23 t24 t8 H))))))
theorem Ag9 : Nh Aov @f31 := fun p n a0 H k => by kernel_rfl
noncomputable def f29 (n : Nat) (a0 : AV) (H : Ab) (k : KO β) : Option β :=
 p.box a0 H fun t1 H =>
 p.fl 0 t1 1 H fun t7 =>
 p.len t7 fun t8 =>
 p.bin .eql t8 i0 fun t9 =>
 p.cond t9
 (k bT H)
 (p.fadr 0 t1 fun t11 =>
 p.load false 1 t11 H fun t12 =>
 p.ca 60 31 [t12] H fun t13 H =>
 p.extr t13 0 fun t14 =>
 p.extr t13 1 fun t15 =>
 p.extr t13 2 fun t16 =>
 p.new Ed H fun t3 H =>
 p.store 25 t3 t14 H fun H =>
 p.bin .eql t16 (si 1) fun t18 =>
 p.lT t18 H 1 t1 1 fun t21 H =>
 p.gT t18 H (p.un .not t21) fun t22 H =>
 p.pick t18 t22 bF fun t23 =>
 k t23 H)
theorem Ag7 : Nh Aot @f29 := fun p n a0 H k => by kernel_rfl
noncomputable def f51 (n : Nat) (a0 : AV) (H : Ab) (k : KO β) : Option β :=
 p.box a0 H fun t1 H =>
 p.new [.nl, bF] H fun t2 H =>
 p.fl 0 t1 1 H fun t5 =>
 p.fl 1 t1 1 H fun t8 =>
 p.app 1 1 .nl t5 H fun t6 H =>
 p.fill [.nl, bF] [(0, 1, t6), (1, 1, t8)] fun ct9 =>
 p.store 2 t2 (.agg ct9) H fun H =>
 p.load true 2 t2 H fun r0 =>
 k r0 H
theorem AgM : Nh Ao0 @f51 := fun p n a0 H k => by kernel_rfl
noncomputable def Tf (p : Pr β) (n : Nat)  (k : KO β) : Nat → AV → AV → AV → KO β
 | 0, _, _, _, _, _ => none
 | m + 1, t4, t6, t7, t8, H => p.len t6 fun t31 =>
   p.bin .lss t8 t31 fun t32 =>
   p.cond t32
   (p.slice 1 t6 (some t8) none fun t36 =>
   p.ca 60 31 [t36] H fun t37 H =>
   p.extr t37 0 fun t38 =>
   p.extr t37 1 fun t39 =>
   p.extr t37 2 fun t40 =>
   p.new Ed H fun t9 H =>
   p.store 25 t9 t38 H fun H =>
   p.bin .eql t40 (si 2) fun t42 =>
   p.cond t42
   (p.fill [.nl, bF] [(1, 1, bT)] fun ct43 =>
   p.store 2 t4 (.agg ct43) H fun H =>
   p.load true 2 t4 H fun r0 =>
   k (Cj [r0, t7]) H)
   (p.bin .eql t40 (si 1) fun t46 =>
   p.cond t46
   (p.slice 1 t6 (some t8) none fun t57 =>
   p.app 1 1 .nl t57 H fun t58 H =>
   p.fill [.nl, bF] [(0, 1, t58)] fun ct59 =>
   p.store 2 t4 (.agg ct59) H fun H =>
   p.load true 2 t4 H fun r0 =>
   k (Cj [r0, t7]) H)
   (p.load true 25 t9 H fun t48 =>
   p.fill Ed [(0, 25, t48)] fun ct49 => p.newSl 1 25 ct49 true H fun t49 H =>
   p.app 25 320 t7 t49 H fun t50 H =>
   p.bin .add t8 t39 fun t53 =>
   Tf p n  k m t4 t6 t50 t53 H)))
   (p.slice 1 t6 (some t8) none fun t57 =>
   p.app 1 1 .nl t57 H fun t58 H =>
   p.fill [.nl, bF] [(0, 1, t58)] fun ct59 =>
   p.store 2 t4 (.agg ct59) H fun H =>
   p.load true 2 t4 H fun r0 =>
   k (Cj [r0, t7]) H)
noncomputable def f41 (n : Nat) (a0 a1 : AV) (H : Ab) (k : KO β) : Option β :=
 p.box a0 H fun t2 H =>
 p.new [.nl, bF] H fun t4 H =>
 p.load true 2 t2 H fun t12 =>
 p.ca 4 29 [t12] H fun t13 H =>
 p.un .not t13 fun t14 =>
 p.lF t14 H 1 t2 1 fun t17 H =>
 p.pick t14 bT t17 fun t18 =>
 p.cond t18
 (p.load true 2 t2 H fun t19 =>
 p.ca 32 51 [t19] H fun t20 H =>
 p.store 2 t4 t20 H fun H =>
 p.load true 2 t4 H fun r0 =>
 k (Cj [r0, .nl]) H)
 (p.fadr 0 t2 fun t23 =>
 p.load false 1 t23 H fun t24 =>
 p.app 1 1 .nl t24 H fun t25 H =>
 p.app 1 1 t25 a1 H fun t27 H =>
 D4 (fun (t4 t6 t7 t8 : AV) (H : Ab) => p.slice 1 t6 (some t8) none fun t57 =>
 p.app 1 1 .nl t57 H fun t58 H =>
 p.fill [.nl, bF] [(0, 1, t58)] fun ct59 =>
 p.store 2 t4 (.agg ct59) H fun H =>
 p.load true 2 t4 H fun r0 =>
 k (Cj [r0, t7]) H) fun j1 =>
 Tf p n  k n t4 t27 .nl i0 H)
noncomputable def AgI (p : Pr β) (n : Nat)  (k : KO β) (m : Nat) (tm : Tm) (H : Ab) : Option β :=
 C7 61 (fun tm H k => Af Ak p [] 61 n (cd c41 [1, 1, 1, 1, 1, 0, 0, 0]) tm H k) (Eb 0 (Dt (fun tm H => Af Ak p [] 61 n (cd c41 [1, 1, 1, 1, 1, 1]) tm H (B5 Ak p fi41.results k)) (B5 Ak p fi41.results k))) m tm H
theorem AeX (p : Pr β) (n : Nat)  (k : KO β) (m0 : Nat) : ∀ (t : Nat → AV) (H : Ab), AgI p n  k m0 (tf 61 0 t) H = Tf p n  k m0 (t 4) (t 6) (t 7) (t 8) H := by
 induction m0 with
 | zero => intros; rfl
 | succ m0 ih =>
  intro t H
  refine Eq.trans (Bb (nt := 61) (m := m0) (g := fun t H => Tf p n  k m0 (t 4) (t 6) (t 7) (t 8) H) ih rfl) ?_
  kernel_rfl
theorem AjY (p : Pr β) (n : Nat) (a0 a1 : AV) (H : Ab) (k : KO β) : Bw Ak p n fi41 [a0, a1] H k =
 p.box a0 H fun t2 H =>
 p.new [.nl, bF] H fun t4 H =>
 p.load true 2 t2 H fun t12 =>
 p.call 4 (.fn 29 [] []) [t12] H fun t13 H =>
 p.un .not t13 fun t14 =>
 p.gF t14 H (p.fadr 1 t2) fun t16 H =>
 p.gF t14 H (p.load false 1 t16 H) fun t17 H =>
 p.pick t14 bT t17 fun t18 =>
 p.cond t18
 (p.load true 2 t2 H fun t19 =>
 p.call 32 (.fn 51 [] []) [t19] H fun t20 H =>
 p.store 2 t4 t20 H fun H =>
 p.load true 2 t4 H fun r0 =>
 k (Cj [r0, .nl]) H)
 (p.fadr 0 t2 fun t23 =>
 p.load false 1 t23 H fun t24 =>
 p.app 1 1 .nl t24 H fun t25 H =>
 p.app 1 1 t25 a1 H fun t27 H =>
 D4 (fun (t : Nat → AV) (H : Ab) => p.slice 1 (t 6) (some (t 8)) none fun t57 =>
 p.app 1 1 .nl t57 H fun t58 H =>
 p.fill [.nl, bF] [(0, 1, t58)] fun ct59 =>
 p.store 2 (t 4) (.agg ct59) H fun H =>
 p.load true 2 (t 4) H fun r0 =>
 k (Cj [r0, (t 7)]) H) fun j1 =>
 AgI p n  k n (tf 61 0 (ud [(0, a0), (1, a1), (2, t2), (4, t4), (5, .nl), (6, t27), (7, .nl), (8, i0), (12, t12), (13, t13), (14, t14), (15, t14), (16, t16), (17, t17), (18, t18), (22, .nl), (23, t23), (24, t24), (25, t25), (26, a1), (27, t27), (28, .nl)] ut)) H) := by kernel_rfl
theorem AgJ : J6 fi41 @f41 := fun p n a0 a1 H k => by
 rw [AjY]
 simp only [AeX]
 kernel_rfl
noncomputable def f98 (n : Nat) (a0 a1 a2 : AV) (H : Ab) (k : KO β) : Option β :=
 p.bin .geq a0 a1 fun t9 =>
 p.kT t9 H a0 fun t11 H =>
 p.kT t9 H a2 fun t12 H =>
 p.gT t9 H (p.bin .leq t11 t12) fun t13 H =>
 p.pick t9 t13 bF fun t14 =>
 k t14 H
theorem AhQ : Bd3 AoK @f98 := fun p n a0 a1 a2 H k => by kernel_rfl
noncomputable def f67 (n : Nat) (a0 : AV) (H : Ab) (k : KO β) : Option β :=
 p.bin .quo a0 (si 16) fun t7 =>
 p.bin .rem a0 (si 16) fun t9 =>
 p.bin .eql t7 (si 3) fun t12 =>
 p.cond t12
 (p.bin .shr t9 (.sc (.int .u64 1)) fun t14 =>
 p.bin .and t14 (si 3) fun t15 =>
 p.bin .neq t15 (si 3) fun t17 =>
 p.kT t17 H t15 fun t19 H =>
 p.gT t17 H (p.bin .gtr t19 i0) fun t20 H =>
 p.kT t17 H t20 fun t21 H =>
 p.kF t21 H t9 fun t22 H =>
 p.gF t21 H (p.bin .and t22 (si 8)) fun t23 H =>
 p.gF t21 H (p.bin .eql t23 i0) fun t24 H =>
 p.gT t17 H (p.pick t21 bT t24) fun t25 H =>
 p.pick t17 t25 bF fun t26 =>
 k t26 H)
 (p.bin .eql t7 (si 6) fun t28 =>
 D4 (fun (t3 t4 t27 : AV) (H : Ab) => p.cond t27
 (p.bin .eql t4 (si 2) fun t32 =>
 k t32 H)
 (p.ca 4 98 [t3, (si 1), (si 14)] H fun t34 H =>
 p.kT t34 H t4 fun t36 H =>
 p.gT t34 H (p.bin .eql t36 i0) fun t37 H =>
 p.pick t34 t37 bF fun t38 =>
 k t38 H)) fun j1 =>
 p.cond t28
 (j1 t7 t9 t28 H)
 (p.bin .eql t7 (si 8) fun t29 =>
 p.cond t29
 (j1 t7 t9 t29 H)
 (p.bin .eql t7 (si 10) fun t30 =>
 j1 t7 t9 t30 H)))
theorem Ahp : Nh Ao4 @f67 := fun p n a0 H k => by kernel_rfl
noncomputable def Rj (p : Pr β) (n : Nat)  (k : KO β) : Nat → AV → AV → AV → KO β
 | 0, _, _, _, _, _ => none
 | m + 1, t0, t1, t7, t15, H => p.bin .lss t15 (si 4) fun t16 =>
   p.cond t16
   (p.bin .add t1 t15 fun t20 =>
   p.len t0 fun t22 =>
   p.bin .eql t20 t22 fun t23 =>
   p.cond t23
   (k (Cj [i0, i0, (si 1)]) H)
   (p.bin .add t1 t15 fun t27 =>
   p.iadr 1 t0 t27 fun t28 =>
   p.load false 1 t28 H fun t29 =>
   p.cvI .i64 t29 fun t30 =>
   p.bin .and t30 (si 127) fun t33 =>
   p.bin .mul (si 7) t15 fun t35 =>
   p.bin .shl t33 t35 fun t36 =>
   p.bin .or t7 t36 fun t37 =>
   p.bin .gtr t30 (si 127) fun t39 =>
   p.cond t39
   (p.bin .add t15 (si 1) fun t51 =>
   Rj p n  k m t0 t1 t37 t51 H)
   (p.bin .gtr t15 i0 fun t41 =>
   p.kT t41 H t30 fun t43 H =>
   p.gT t41 H (p.bin .eql t43 i0) fun t44 H =>
   p.pick t41 t44 bF fun t45 =>
   p.cond t45
   (k (Cj [i0, i0, (si 2)]) H)
   (p.bin .add t1 t15 fun t49 =>
   p.bin .add t49 (si 1) fun t50 =>
   k (Cj [t37, t50, i0]) H))))
   (k (Cj [i0, i0, (si 2)]) H)
noncomputable def f68 (n : Nat) (a0 a1 : AV) (H : Ab) (k : KO β) : Option β :=
 p.len a0 fun t12 =>
 p.ca 4 98 [a1, i0, t12] H fun t13 H =>
 p.un .not t13 fun t14 =>
 p.cond t14
 (k (Cj [i0, i0, (si 2)]) H)
 (Rj p n  k n a0 a1 i0 i0 H)
noncomputable def Ahq (p : Pr β) (n : Nat)  (k : KO β) (m : Nat) (tm : Tm) (H : Ab) : Option β :=
 C7 52 (fun tm H k => Af Ak p [] 52 n (cd c68 [1, 1, 1, 0, 1, 0, 0]) tm H k) (Eb 0 (Dt (fun tm H => Af Ak p [] 52 n (cd c68 [1, 1, 1, 1]) tm H (B5 Ak p fi68.results k)) (B5 Ak p fi68.results k))) m tm H
theorem Afm (p : Pr β) (n : Nat)  (k : KO β) (m0 : Nat) : ∀ (t : Nat → AV) (H : Ab), Ahq p n  k m0 (tf 52 0 t) H = Rj p n  k m0 (t 0) (t 1) (t 7) (t 15) H := by
 induction m0 with
 | zero => intros; rfl
 | succ m0 ih =>
  intro t H
  refine Eq.trans (Bb (nt := 52) (m := m0) (g := fun t H => Rj p n  k m0 (t 0) (t 1) (t 7) (t 15) H) ih rfl) ?_
  kernel_rfl
theorem Akl (p : Pr β) (n : Nat) (a0 a1 : AV) (H : Ab) (k : KO β) : Bw Ak p n fi68 [a0, a1] H k =
 p.len a0 fun t12 =>
 p.call 4 (.fn 98 [] []) [a1, i0, t12] H fun t13 H =>
 p.un .not t13 fun t14 =>
 p.cond t14
 (k (Cj [i0, i0, (si 2)]) H)
 (Ahq p n  k n (tf 52 0 (ud [(0, a0), (1, a1), (4, i0), (5, i0), (6, i0), (7, i0), (10, a1), (11, a0), (12, t12), (13, t13), (14, t14), (15, i0)] ut)) H) := by kernel_rfl
theorem Ahr : J6 fi68 @f68 := fun p n a0 a1 H k => by
 rw [Akl]
 simp only [Afm]
 kernel_rfl
noncomputable def f130 (n : Nat) (a0 a1 : AV) (H : Ab) (k : KO β) : Option β :=
 p.bin .lss a1 i0 fun t8 =>
 p.kF t8 H a1 fun t10 H =>
 p.kF t8 H a0 fun t11 H =>
 p.gF t8 H (p.len t11) fun t12 H =>
 p.gF t8 H (p.bin .sub t12 (si 2)) fun t13 H =>
 p.gF t8 H (p.bin .gtr t10 t13) fun t14 H =>
 p.pick t8 bT t14 fun t15 =>
 p.cond t15
 (k (Cj [i0, i0, bF]) H)
 (p.iadr 1 a0 a1 fun t18 =>
 p.load false 1 t18 H fun t19 =>
 p.cvI .i64 t19 fun t20 =>
 p.bin .shl t20 (.sc (.int .u64 8)) fun t21 =>
 p.bin .add a1 (si 1) fun t24 =>
 p.iadr 1 a0 t24 fun t25 =>
 p.load false 1 t25 H fun t26 =>
 p.cvI .i64 t26 fun t27 =>
 p.bin .or t21 t27 fun t28 =>
 p.bin .add a1 (si 2) fun t30 =>
 k (Cj [t28, t30, bT]) H)
theorem AeC : J6 AlK @f130 := fun p n a0 a1 H k => by kernel_rfl
noncomputable def On (p : Pr β) (n : Nat)  (k : KO β) : Nat → AV → AV → AV → KO β
 | 0, _, _, _, _, _ => none
 | m + 1, t3, t7, t8, t9, H => p.bin .lss t9 t8 fun t10 =>
   p.cond t10
   (p.iadr 1 t7 t9 fun t11 =>
   p.load false 1 t11 H fun t12 =>
   p.app 1 1 t3 t12 H fun t15 H =>
   p.bin .add t9 (si 1) fun t16 =>
   On p n  k m t15 t7 t8 t16 H)
   (k t3 H)
noncomputable def f77 (n : Nat) (a0 : AV) (H : Ab) (k : KO β) : Option β :=
 p.len a0 fun t8 =>
 On p n  k n .nl a0 t8 i0 H
noncomputable def Ah4 (p : Pr β) (n : Nat)  (k : KO β) (m : Nat) (tm : Tm) (H : Ab) : Option β :=
 C7 18 (fun tm H k => Af Ak p [] 18 n (cd c77 [1, 1, 0, 1, 0, 0]) tm H k) (Eb 0 (Dt (fun tm H => Af Ak p [] 18 n (cd c77 [1, 1, 1]) tm H (B5 Ak p fi77.results k)) (B5 Ak p fi77.results k))) m tm H
theorem Afr (p : Pr β) (n : Nat)  (k : KO β) (m0 : Nat) : ∀ (t : Nat → AV) (H : Ab), Ah4 p n  k m0 (tf 18 0 t) H = On p n  k m0 (t 3) (t 7) (t 8) (t 9) H := by
 induction m0 with
 | zero => intros; rfl
 | succ m0 ih =>
  intro t H
  refine Eq.trans (Bb (nt := 18) (m := m0) (g := fun t H => On p n  k m0 (t 3) (t 7) (t 8) (t 9) H) ih rfl) ?_
  kernel_rfl
theorem Akq (p : Pr β) (n : Nat) (a0 : AV) (H : Ab) (k : KO β) : Bw Ak p n fi77 [a0] H k =
 p.len a0 fun t8 =>
 Ah4 p n  k n (tf 18 0 (ud [(0, a0), (2, .nl), (3, .nl), (6, .nl), (7, a0), (8, t8), (9, i0)] ut)) H := by kernel_rfl
theorem Ah5 : Nh fi77 @f77 := fun p n a0 H k => by
 rw [Akq]
 simp only [Afr]
 kernel_rfl
noncomputable def f146 (n : Nat) (a0 a1 : AV) (H : Ab) (k : KO β) : Option β :=
 p.call 110 (.fn 130 [] []) [a0, a1] H fun t13 H =>
 p.extr t13 0 fun t14 =>
 p.extr t13 1 fun t15 =>
 p.extr t13 2 fun t16 =>
 p.un .not t16 fun t18 =>
 p.kF t18 H t14 fun t20 H =>
 p.gF t18 H (p.bin .gtr t20 (si 60)) fun t21 H =>
 p.pick t18 bT t21 fun t22 =>
 p.kF t22 H t14 fun t24 H =>
 p.kF t22 H a0 fun t25 H =>
 p.gF t22 H (p.len t25) fun t26 H =>
 p.kF t22 H t15 fun t27 H =>
 p.gF t22 H (p.bin .sub t26 t27) fun t28 H =>
 p.gF t22 H (p.bin .gtr t24 t28) fun t29 H =>
 p.pick t22 bT t29 fun t30 =>
 p.cond t30
 (k (Cj [.nl, i0, bF]) H)
 (p.bin .add t15 t14 fun t35 =>
 p.slice 1 a0 (some t15) (some t35) fun t36 =>
 p.fill [.nl] [(0, 1, t36)] fun ct37 => p.newSl 1 1 ct37 true H fun t37 H =>
 p.call 22 (.fn 77 [] []) [t37] H fun t38 H =>
 p.bin .add t15 t14 fun t41 =>
 k (Cj [t38, t41, bT]) H)
theorem AeO : J6 AlR @f146 := fun p n a0 a1 H k => by kernel_rfl
noncomputable def f129 (n : Nat) (a0 : AV) (H : Ab) (k : KO β) : Option β :=
 p.nil a0 fun t8 =>
 p.fl 0 t8 1 H fun t10 =>
 p.nil a0 fun t12 =>
 p.fl 1 t12 1 H fun t14 =>
 p.ca 131 146 [t10, t14] H fun t15 H =>
 p.extr t15 0 fun t16 =>
 p.extr t15 1 fun t17 =>
 p.extr t15 2 fun t18 =>
 p.nil a0 fun t20 =>
 p.fl 2 t20 1 H fun t22 =>
 p.kF t22 H t18 fun t24 H =>
 p.gF t22 H (p.un .not t24) fun t25 H =>
 p.pick t22 bT t25 fun t26 =>
 p.cond t26
 (p.nil a0 fun t28 =>
 p.fs 2 t28 1 bT H fun H =>
 k .nl H)
 (p.nil a0 fun t32 =>
 p.fs 1 t32 1 t17 H fun H =>
 k t16 H)
theorem AeB : Nh AlJ @f129 := fun p n a0 H k => by kernel_rfl
noncomputable def f101 (n : Nat) (a0 : AV) (H : Ab) (k : KO β) : Option β :=
 p.call 22 (.fn 129 [] []) [a0] H fun t4 H =>
 p.cvBS t4 H fun t5 =>
 k t5 H
theorem Aes : Nh Al7 @f101 := fun p n a0 H k => by kernel_rfl
noncomputable def f100 (n : Nat) (a0 : AV) (H : Ab) (k : KO β) : Option β :=
 p.nil a0 fun t4 =>
 p.fl 2 t4 1 H fun t6 =>
 p.kF t6 H a0 fun t8 H =>
 p.gF t6 H (p.nil t8) fun t9 H =>
 p.lF t6 H 1 t9 1 fun t11 H =>
 p.kF t6 H a0 fun t12 H =>
 p.gF t6 H (p.nil t12) fun t13 H =>
 p.lF t6 H 0 t13 1 fun t15 H =>
 p.gF t6 H (p.len t15) fun t16 H =>
 p.gF t6 H (p.bin .geq t11 t16) fun t17 H =>
 p.pick t6 bT t17 fun t18 =>
 p.cond t18
 (p.nil a0 fun t20 =>
 p.fs 2 t20 1 bT H fun H =>
 k i0 H)
 (p.nil a0 fun t23 =>
 p.fl 1 t23 1 H fun t25 =>
 p.bin .add t25 (si 1) fun t26 =>
 p.nil a0 fun t27 =>
 p.fs 1 t27 1 t26 H fun H =>
 p.nil a0 fun t30 =>
 p.fl 0 t30 1 H fun t32 =>
 p.nil a0 fun t34 =>
 p.fl 1 t34 1 H fun t36 =>
 p.bin .sub t36 (si 1) fun t37 =>
 p.iadr 1 t32 t37 fun t38 =>
 p.load false 1 t38 H fun t39 =>
 p.cvI .i64 t39 fun t40 =>
 k t40 H)
theorem Aer : Nh Al6 @f100 := fun p n a0 H k => by kernel_rfl
noncomputable def f102 (n : Nat) (a0 : AV) (H : Ab) (k : KO β) : Option β :=
 p.nil a0 fun t8 =>
 p.fl 0 t8 1 H fun t10 =>
 p.nil a0 fun t12 =>
 p.fl 1 t12 1 H fun t14 =>
 p.ca 110 130 [t10, t14] H fun t15 H =>
 p.extr t15 0 fun t16 =>
 p.extr t15 1 fun t17 =>
 p.extr t15 2 fun t18 =>
 p.nil a0 fun t20 =>
 p.fl 2 t20 1 H fun t22 =>
 p.kF t22 H t18 fun t24 H =>
 p.gF t22 H (p.un .not t24) fun t25 H =>
 p.pick t22 bT t25 fun t26 =>
 p.cond t26
 (p.nil a0 fun t28 =>
 p.fs 2 t28 1 bT H fun H =>
 k i0 H)
 (p.nil a0 fun t32 =>
 p.fs 1 t32 1 t17 H fun H =>
 k t16 H)
theorem Aet : Nh Al8 @f102 := fun p n a0 H k => by kernel_rfl
end
section
open Go
variable {β : Type} (p : Pr β)
noncomputable def f99 (n : Nat) (a0 a1 : AV) (H : Ab) (k : KO β) : Option β :=
 p.ca 9 101 [a0] H fun t6 H =>
 p.ca 3 100 [a0] H fun t9 H =>
 p.nil a1 fun t10 =>
 p.fs 8 t10 1 t9 H fun H =>
 p.ca 3 100 [a0] H fun t13 H =>
 p.ca 3 102 [a0] H fun t16 H =>
 p.nil a1 fun t17 =>
 p.fs 10 t17 1 t16 H fun H =>
 p.ca 9 101 [a0] H fun t21 H =>
 p.nil a1 fun t22 =>
 p.fs 7 t22 1 t21 H fun H =>
 p.bin .and t13 (si 2) fun t29 =>
 p.bin .neq t29 i0 fun t30 =>
 p.bin .and t13 (si 4) fun t32 =>
 p.bin .neq t32 i0 fun t33 =>
 p.bin .and t13 (si 64) fun t35 =>
 p.bin .neq t35 i0 fun t36 =>
 p.bin .and t13 (si 128) fun t38 =>
 p.bin .neq t38 i0 fun t39 =>
 p.nil a1 fun t40 =>
 p.fs 9 t40 1 t30 H fun H =>
 p.nil a1 fun t42 =>
 p.fs 11 t42 1 t33 H fun H =>
 p.nil a1 fun t44 =>
 p.fs 18 t44 1 t36 H fun H =>
 p.nil a1 fun t46 =>
 p.fs 16 t46 1 t39 H fun H =>
 p.nil a1 fun t49 =>
 p.fl 11 t49 1 H fun t51 =>
 D4 (fun (t0 t1 : AV) (H : Ab) => p.nil t1 fun t75 =>
 p.fl 16 t75 1 H fun t77 =>
 D4 (fun (t0 t1 : AV) (H : Ab) => p.nil t1 fun t84 =>
 p.fl 18 t84 1 H fun t86 =>
 p.cond t86
 (p.ca 22 129 [t0] H fun t89 H =>
 p.nil t1 fun t90 =>
 p.fs 19 t90 1 t89 H fun H =>
 k (Cj []) H)
 (k (Cj []) H)) fun j2 =>
 p.cond t77
 (p.ca 9 101 [t0] H fun t80 H =>
 p.nil t1 fun t81 =>
 p.fs 17 t81 1 t80 H fun H =>
 j2 t0 t1 H)
 (j2 t0 t1 H)) fun j1 =>
 p.cond t51
 (p.bin .shr t13 (.sc (.int .u64 3)) fun t55 =>
 p.bin .and t55 (si 3) fun t56 =>
 p.bin .and t13 (si 32) fun t58 =>
 p.bin .neq t58 i0 fun t59 =>
 p.nil a1 fun t60 =>
 p.fs 14 t60 1 t56 H fun H =>
 p.nil a1 fun t62 =>
 p.fs 15 t62 1 t59 H fun H =>
 p.ca 9 101 [a0] H fun t66 H =>
 p.nil a1 fun t67 =>
 p.fs 12 t67 1 t66 H fun H =>
 p.ca 22 129 [a0] H fun t71 H =>
 p.nil a1 fun t72 =>
 p.fs 13 t72 1 t71 H fun H =>
 j1 a0 a1 H)
 (j1 a0 a1 H)
theorem AhR : J6 AoL @f99 := fun p n a0 a1 H k => by kernel_rfl
noncomputable def f131 (n : Nat) (a0 : AV) (H : Ab) (k : KO β) : Option β :=
 p.nil a0 fun t4 =>
 p.fl 2 t4 1 H fun t6 =>
 p.un .not t6 fun t7 =>
 p.kT t7 H a0 fun t9 H =>
 p.gT t7 H (p.nil t9) fun t10 H =>
 p.lT t7 H 1 t10 1 fun t12 H =>
 p.kT t7 H a0 fun t13 H =>
 p.gT t7 H (p.nil t13) fun t14 H =>
 p.lT t7 H 0 t14 1 fun t16 H =>
 p.gT t7 H (p.len t16) fun t17 H =>
 p.gT t7 H (p.bin .lss t12 t17) fun t18 H =>
 p.pick t7 t18 bF fun t19 =>
 k t19 H
theorem AeD : Nh AlL @f131 := fun p n a0 H k => by kernel_rfl
noncomputable def K9 (p : Pr β) (n : Nat)  (k : KO β) : Nat → AV → KO β
 | 0, _, _, _ => none
 | m + 1, t0, t1, H => p.ca 4 131 [t0] H fun t8 H =>
   p.kT t8 H t1 fun t10 H =>
   p.gT t8 H (p.nil t10) fun t11 H =>
   p.lT t8 H 22 t11 1 fun t13 H =>
   p.gT t8 H (p.len t13) fun t14 H =>
   p.kT t8 H t1 fun t15 H =>
   p.gT t8 H (p.nil t15) fun t16 H =>
   p.lT t8 H 24 t16 1 fun t18 H =>
   p.gT t8 H (p.len t18) fun t19 H =>
   p.gT t8 H (p.bin .add t14 t19) fun t20 H =>
   p.kT t8 H t1 fun t21 H =>
   p.gT t8 H (p.nil t21) fun t22 H =>
   p.lT t8 H 23 t22 1 fun t24 H =>
   p.gT t8 H (p.len t24) fun t25 H =>
   p.gT t8 H (p.bin .add t20 t25) fun t26 H =>
   p.gT t8 H (p.bin .leq t26 (si 4)) fun t27 H =>
   p.pick t8 t27 bF fun t28 =>
   p.cond t28
   (p.nil t1 fun t30 =>
   p.fl 0 t30 1 H fun t32 =>
   p.bin .eql t32 (si 8) fun t37 =>
   p.cond t37
   (p.fill [sE, i0] [] fun ct38 =>
   p.new [sE, i0] H fun t4 H =>
   p.store 2 t4 (.agg ct38) H fun H =>
   p.ca 9 101 [t0] H fun t40 H =>
   p.fs 0 t4 1 t40 H fun H =>
   p.ca 3 100 [t0] H fun t43 H =>
   p.fs 1 t4 1 t43 H fun H =>
   p.nil t1 fun t47 =>
   p.fl 22 t47 1 H fun t49 =>
   p.load true 2 t4 H fun t50 =>
   p.fill [sE, i0] [(0, 2, t50)] fun ct51 => p.newSl 1 2 ct51 true H fun t51 H =>
   p.app 2 24 t49 t51 H fun t52 H =>
   p.nil t1 fun t53 =>
   p.fs 22 t53 1 t52 H fun H =>
   K9 p n  k m t0 t1 H)
   (p.bin .eql t32 (si 9) fun t56 =>
   p.cond t56
   (p.ca 3 100 [t0] H fun t58 H =>
   p.nil t1 fun t61 =>
   p.fl 24 t61 1 H fun t63 =>
   p.fill [i0] [(0, 1, t58)] fun ct65 => p.newSl 1 1 ct65 true H fun t65 H =>
   p.app 1 8 t63 t65 H fun t66 H =>
   p.nil t1 fun t67 =>
   p.fs 24 t67 1 t66 H fun H =>
   K9 p n  k m t0 t1 H)
   (p.bin .eql t32 (si 10) fun t70 =>
   p.cond t70
   (p.ca 9 101 [t0] H fun t72 H =>
   p.nil t1 fun t75 =>
   p.fl 23 t75 1 H fun t77 =>
   p.fill [sE] [(0, 1, t72)] fun ct79 => p.newSl 1 1 ct79 true H fun t79 H =>
   p.app 1 16 t77 t79 H fun t80 H =>
   p.nil t1 fun t81 =>
   p.fs 23 t81 1 t80 H fun H =>
   K9 p n  k m t0 t1 H)
   (p.nil t0 fun t34 =>
   p.fs 2 t34 1 bT H fun H =>
   K9 p n  k m t0 t1 H))))
   (k (Cj []) H)
noncomputable def f103 (n : Nat) (a0 a1 : AV) (H : Ab) (k : KO β) : Option β :=
 K9 p n  k n a0 a1 H
noncomputable def Ads (p : Pr β) (n : Nat)  (k : KO β) (m : Nat) (tm : Tm) (H : Ab) : Option β :=
 C7 83 (fun tm H k => Af Ak p AnF 83 n (cd Aol [0, 0]) tm H k) (Eb 0 (B5 Ak p fi103.results k)) m tm H
theorem Acr (p : Pr β) (n : Nat)  (k : KO β) (m0 : Nat) : ∀ (t : Nat → AV) (H : Ab), Ads p n  k m0 (tf 83 0 t) H = K9 p n  k m0 (t 0) (t 1) H := by
 induction m0 with
 | zero => intros; rfl
 | succ m0 ih =>
  intro t H
  refine Eq.trans (Bb (nt := 83) (m := m0) (g := fun t H => K9 p n  k m0 (t 0) (t 1) H) ih rfl) ?_
  kernel_rfl
theorem Agk (p : Pr β) (n : Nat) (a0 a1 : AV) (H : Ab) (k : KO β) : Bw Ak p n fi103 [a0, a1] H k =
 Ads p n  k n (tf 83 0 (ud [(0, a0), (1, a1)] ut)) H := by kernel_rfl
theorem Aeu : J6 fi103 @f103 := fun p n a0 a1 H k => by
 rw [Agk]
 simp only [Acr]
 kernel_rfl
noncomputable def f69 (n : Nat) (a0 a1 : AV) (H : Ab) (k : KO β) : Option β :=
 p.new Ed H fun t4 H =>
 p.fill [.nl, i0, bF] [(0, 1, a1)] fun ct9 =>
 p.box (.agg ct9) H fun t10 H =>
 p.bin .quo a0 (si 16) fun t12 =>
 p.fill Ed [(0, 1, t12)] fun ct13 =>
 p.new Ed H fun t6 H =>
 p.store 25 t6 (.agg ct13) H fun H =>
 p.fl 0 t6 1 H fun t15 =>
 p.bin .eql t15 (si 1) fun t22 =>
 D4 (fun (t4 t6 : AV) (H : Ab) => p.load true 25 t6 H fun t76 =>
 p.store 25 t4 t76 H fun H =>
 p.load true 25 t4 H fun r0 =>
 k r0 H) fun j1 =>
 p.cond t22
 (p.ca 0 99 [t10, t6] H fun t24 H =>
 j1 t4 t6 H)
 (p.bin .eql t15 (si 2) fun t26 =>
 p.cond t26
 (p.ca 3 100 [t10] H fun t28 H =>
 p.bin .eql t28 (si 1) fun t30 =>
 p.fs 21 t6 1 t30 H fun H =>
 p.ca 3 100 [t10] H fun t33 H =>
 p.fs 20 t6 1 t33 H fun H =>
 j1 t4 t6 H)
 (p.bin .eql t15 (si 3) fun t36 =>
 p.cond t36
 (p.bin .and a0 (si 8) fun t38 =>
 p.bin .neq t38 i0 fun t39 =>
 p.bin .shr a0 (.sc (.int .u64 1)) fun t41 =>
 p.bin .and t41 (si 3) fun t42 =>
 p.bin .and a0 (si 1) fun t44 =>
 p.bin .neq t44 i0 fun t45 =>
 p.fs 1 t6 1 t39 H fun H =>
 p.fs 2 t6 1 t42 H fun H =>
 p.fs 3 t6 1 t45 H fun H =>
 p.ca 9 101 [t10] H fun t50 H =>
 p.fs 5 t6 1 t50 H fun H =>
 p.fl 2 t6 1 H fun t53 =>
 p.bin .gtr t53 i0 fun t54 =>
 D4 (fun (t1 t4 t5 t6 : AV) (H : Ab) => p.nil t5 fun t59 =>
 p.fl 2 t59 1 H fun t61 =>
 p.un .not t61 fun t62 =>
 p.cond t62
 (p.nil t5 fun t65 =>
 p.fl 1 t65 1 H fun t67 =>
 p.slice 1 t1 (some t67) none fun t68 =>
 p.fill [.nl] [(0, 1, t68)] fun ct69 => p.newSl 1 1 ct69 true H fun t69 H =>
 p.ca 22 77 [t69] H fun t70 H =>
 p.fs 6 t6 1 t70 H fun H =>
 j1 t4 t6 H)
 (j1 t4 t6 H)) fun j2 =>
 p.cond t54
 (p.ca 3 102 [t10] H fun t56 H =>
 p.fs 4 t6 1 t56 H fun H =>
 j2 a1 t4 t10 t6 H)
 (j2 a1 t4 t10 t6 H))
 (p.bin .eql t15 (si 12) fun t73 =>
 D4 (fun (t4 t5 t6 t72 : AV) (H : Ab) => p.cond t72
 (j1 t4 t6 H)
 (p.ca 3 102 [t5] H fun t17 H =>
 p.fs 4 t6 1 t17 H fun H =>
 p.ca 0 103 [t5, t6] H fun t20 H =>
 j1 t4 t6 H)) fun j3 =>
 p.cond t73
 (j3 t4 t10 t6 t73 H)
 (p.bin .eql t15 (si 13) fun t74 =>
 p.cond t74
 (j3 t4 t10 t6 t74 H)
 (p.bin .eql t15 (si 14) fun t75 =>
 j3 t4 t10 t6 t75 H)))))
theorem Ahs : J6 Ao5 @f69 := fun p n a0 a1 H k => by kernel_rfl
noncomputable def f105 (n : Nat) (a0 : AV) (H : Ab) (k : KO β) : Option β :=
 p.box a0 H fun t1 H =>
 p.new Ed H fun t2 H =>
 p.fl 0 t1 1 H fun t5 =>
 p.fill Ed [(0, 1, t5)] fun ct6 =>
 p.new Ed H fun t3 H =>
 p.store 25 t3 (.agg ct6) H fun H =>
 p.fl 0 t1 1 H fun t8 =>
 p.bin .eql t8 (si 1) fun t10 =>
 p.cond t10
 (p.fadr 7 t1 fun t11 =>
 p.load false 1 t11 H fun t12 =>
 p.fadr 8 t1 fun t13 =>
 p.fadr 9 t1 fun t15 =>
 p.fadr 10 t1 fun t17 =>
 p.fadr 11 t1 fun t19 =>
 p.fadr 16 t1 fun t21 =>
 p.fadr 7 t3 fun t23 =>
 p.apart t13 [t3] H
 (p.load false 1 t13 H fun t14 =>
 p.apart t15 [t3] H
 (p.load false 1 t15 H fun t16 =>
 p.apart t17 [t3] H
 (p.load false 1 t17 H fun t18 =>
 p.apart t19 [t3] H
 (p.load false 1 t19 H fun t20 =>
 p.apart t21 [t3] H
 (p.load false 1 t21 H fun t22 =>
 p.same t23 t3
 (p.store 1 t23 t12 H fun H =>
 p.fadr 8 t3 fun t24 =>
 p.same t24 t3
 (p.store 1 t24 t14 H fun H =>
 p.fadr 9 t3 fun t25 =>
 p.same t25 t3
 (p.store 1 t25 t16 H fun H =>
 p.fadr 10 t3 fun t26 =>
 p.same t26 t3
 (p.store 1 t26 t18 H fun H =>
 p.fadr 11 t3 fun t27 =>
 p.same t27 t3
 (p.store 1 t27 t20 H fun H =>
 p.fs 16 t3 1 t22 H fun H =>
 p.fl 11 t1 1 H fun t30 =>
 D4 (fun (t1 t2 t3 : AV) (H : Ab) => p.fadr 16 t1 fun t43 =>
 p.load false 1 t43 H fun t44 =>
 D4 (fun (t1 t2 t3 : AV) (H : Ab) => p.fadr 18 t3 fun t51 =>
 p.load false 1 t51 H fun t52 =>
 p.cond t52
 (p.fadr 19 t1 fun t53 =>
 p.load false 1 t53 H fun t54 =>
 p.fs 19 t3 1 t54 H fun H =>
 p.load true 25 t3 H fun t120 =>
 p.store 25 t2 t120 H fun H =>
 p.load true 25 t2 H fun r0 =>
 k r0 H)
 (p.load true 25 t3 H fun t120 =>
 p.store 25 t2 t120 H fun H =>
 p.load true 25 t2 H fun r0 =>
 k r0 H)) fun j2 =>
 p.cond t44
 (p.fadr 17 t1 fun t45 =>
 p.load false 1 t45 H fun t46 =>
 p.fadr 18 t1 fun t47 =>
 p.fadr 17 t3 fun t49 =>
 p.apart t47 [t3] H
 (p.load false 1 t47 H fun t48 =>
 p.same t49 t3
 (p.store 1 t49 t46 H fun H =>
 p.fs 18 t3 1 t48 H fun H =>
 j2 t1 t2 t3 H)))
 (j2 t1 t2 t3 H)) fun j1 =>
 p.cond t30
 (p.fadr 12 t1 fun t31 =>
 p.load false 1 t31 H fun t32 =>
 p.fadr 13 t1 fun t33 =>
 p.fadr 14 t1 fun t35 =>
 p.fadr 15 t1 fun t37 =>
 p.fadr 12 t3 fun t39 =>
 p.apart t33 [t3] H
 (p.load false 1 t33 H fun t34 =>
 p.apart t35 [t3] H
 (p.load false 1 t35 H fun t36 =>
 p.apart t37 [t3] H
 (p.load false 1 t37 H fun t38 =>
 p.same t39 t3
 (p.store 1 t39 t32 H fun H =>
 p.fadr 13 t3 fun t40 =>
 p.same t40 t3
 (p.store 1 t40 t34 H fun H =>
 p.fadr 14 t3 fun t41 =>
 p.same t41 t3
 (p.store 1 t41 t36 H fun H =>
 p.fs 15 t3 1 t38 H fun H =>
 j1 t1 t2 t3 H)))))))
 (j1 t1 t2 t3 H))))))))))))
 (p.bin .eql t8 (si 2) fun t57 =>
 p.cond t57
 (p.fadr 20 t1 fun t58 =>
 p.load false 1 t58 H fun t59 =>
 p.fadr 21 t1 fun t60 =>
 p.fadr 20 t3 fun t62 =>
 p.apart t60 [t3] H
 (p.load false 1 t60 H fun t61 =>
 p.same t62 t3
 (p.store 1 t62 t59 H fun H =>
 p.fs 21 t3 1 t61 H fun H =>
 p.load true 25 t3 H fun t120 =>
 p.store 25 t2 t120 H fun H =>
 p.load true 25 t2 H fun r0 =>
 k r0 H)))
 (p.bin .eql t8 (si 3) fun t65 =>
 p.cond t65
 (p.fadr 2 t1 fun t66 =>
 p.load false 1 t66 H fun t67 =>
 p.fadr 3 t1 fun t68 =>
 p.fadr 5 t1 fun t70 =>
 p.fadr 6 t1 fun t72 =>
 p.fadr 2 t3 fun t74 =>
 p.apart t68 [t3] H
 (p.load false 1 t68 H fun t69 =>
 p.apart t70 [t3] H
 (p.load false 1 t70 H fun t71 =>
 p.apart t72 [t3] H
 (p.load false 1 t72 H fun t73 =>
 p.same t74 t3
 (p.store 1 t74 t67 H fun H =>
 p.fadr 3 t3 fun t75 =>
 p.same t75 t3
 (p.store 1 t75 t69 H fun H =>
 p.fadr 5 t3 fun t76 =>
 p.same t76 t3
 (p.store 1 t76 t71 H fun H =>
 p.fs 6 t3 1 t73 H fun H =>
 p.fl 2 t1 1 H fun t79 =>
 p.bin .gtr t79 i0 fun t80 =>
 p.cond t80
 (p.fadr 1 t1 fun t81 =>
 p.load false 1 t81 H fun t82 =>
 p.fadr 4 t1 fun t83 =>
 p.fadr 1 t3 fun t85 =>
 p.apart t83 [t3] H
 (p.load false 1 t83 H fun t84 =>
 p.same t85 t3
 (p.store 1 t85 t82 H fun H =>
 p.fs 4 t3 1 t84 H fun H =>
 p.load true 25 t3 H fun t120 =>
 p.store 25 t2 t120 H fun H =>
 p.load true 25 t2 H fun r0 =>
 k r0 H)))
 (p.load true 25 t3 H fun t120 =>
 p.store 25 t2 t120 H fun H =>
 p.load true 25 t2 H fun r0 =>
 k r0 H))))))))
 (p.bin .eql t8 (si 4) fun t88 =>
 D4 (fun (t1 t2 t3 t8 t87 : AV) (H : Ab) => p.cond t87
 (p.fadr 4 t1 fun t93 =>
 p.load false 1 t93 H fun t94 =>
 p.fs 4 t3 1 t94 H fun H =>
 p.load true 25 t3 H fun t120 =>
 p.store 25 t2 t120 H fun H =>
 p.load true 25 t2 H fun r0 =>
 k r0 H)
 (p.bin .eql t8 (si 8) fun t97 =>
 p.cond t97
 (p.fadr 4 t1 fun t98 =>
 p.load false 1 t98 H fun t99 =>
 p.fadr 22 t1 fun t100 =>
 p.fadr 4 t3 fun t102 =>
 p.apart t100 [t3] H
 (p.load false 1 t100 H fun t101 =>
 p.same t102 t3
 (p.store 1 t102 t99 H fun H =>
 p.fs 22 t3 1 t101 H fun H =>
 p.load true 25 t3 H fun t120 =>
 p.store 25 t2 t120 H fun H =>
 p.load true 25 t2 H fun r0 =>
 k r0 H)))
 (p.bin .eql t8 (si 9) fun t105 =>
 p.cond t105
 (p.fadr 4 t1 fun t106 =>
 p.load false 1 t106 H fun t107 =>
 p.fadr 24 t1 fun t108 =>
 p.fadr 4 t3 fun t110 =>
 p.apart t108 [t3] H
 (p.load false 1 t108 H fun t109 =>
 p.same t110 t3
 (p.store 1 t110 t107 H fun H =>
 p.fs 24 t3 1 t109 H fun H =>
 p.load true 25 t3 H fun t120 =>
 p.store 25 t2 t120 H fun H =>
 p.load true 25 t2 H fun r0 =>
 k r0 H)))
 (p.bin .eql t8 (si 10) fun t113 =>
 p.cond t113
 (p.fadr 4 t1 fun t114 =>
 p.load false 1 t114 H fun t115 =>
 p.fadr 23 t1 fun t116 =>
 p.fadr 4 t3 fun t118 =>
 p.apart t116 [t3] H
 (p.load false 1 t116 H fun t117 =>
 p.same t118 t3
 (p.store 1 t118 t115 H fun H =>
 p.fs 23 t3 1 t117 H fun H =>
 p.load true 25 t3 H fun t120 =>
 p.store 25 t2 t120 H fun H =>
 p.load true 25 t2 H fun r0 =>
 k r0 H)))
 (p.load true 25 t3 H fun t120 =>
 p.store 25 t2 t120 H fun H =>
 p.load true 25 t2 H fun r0 =>
 k r0 H))))) fun j3 =>
 p.cond t88
 (j3 t1 t2 t3 t8 t88 H)
 (p.bin .eql t8 (si 5) fun t89 =>
 p.cond t89
 (j3 t1 t2 t3 t8 t89 H)
 (p.bin .eql t8 (si 6) fun t90 =>
 p.cond t90
 (j3 t1 t2 t3 t8 t90 H)
 (p.bin .eql t8 (si 7) fun t91 =>
 p.cond t91
 (j3 t1 t2 t3 t8 t91 H)
 (p.bin .eql t8 (si 11) fun t92 =>
 j3 t1 t2 t3 t8 t92 H)))))))
theorem Aew : Nh AlA @f105 := fun p n a0 H k => by kernel_rfl
noncomputable def f71 (n : Nat) (a0 a1 : AV) (H : Ab) (k : KO β) : Option β :=
 p.cvBS a0 H fun t6 =>
 p.cvBS a1 H fun t8 =>
 p.bin .eql t6 t8 fun t9 =>
 k t9 H
theorem Ahu : J6 Ao7 @f71 := fun p n a0 a1 H k => by kernel_rfl
noncomputable def R6 (p : Pr β) (n : Nat)  (k : KO β) : Nat → AV → AV → AV → KO β
 | 0, _, _, _, _, _ => none
 | m + 1, t0, t1, t12, t13, H => p.bin .lss t13 t12 fun t14 =>
   p.cond t14
   (p.iadr 2 t0 t13 fun t18 =>
   p.load true 2 t18 H fun t19 =>
   p.iadr 2 t1 t13 fun t22 =>
   p.load true 2 t22 H fun t23 =>
   p.binA .neq [1, 0] t19 t23 fun t24 =>
   p.cond t24
   (k bF H)
   (p.bin .add t13 (si 1) fun t25 =>
   R6 p n  k m t0 t1 t12 t25 H))
   (k bT H)
noncomputable def f132 (n : Nat) (a0 a1 : AV) (H : Ab) (k : KO β) : Option β :=
 p.len a0 fun t7 =>
 p.len a1 fun t9 =>
 p.bin .neq t7 t9 fun t10 =>
 p.cond t10
 (k bF H)
 (p.len a0 fun t12 =>
 R6 p n  k n a0 a1 t12 i0 H)
noncomputable def Ad3 (p : Pr β) (n : Nat)  (k : KO β) (m : Nat) (tm : Tm) (H : Ab) : Option β :=
 C7 26 (fun tm H k => Af Ak p AkS 26 n (cd Amv [1, 1, 0, 1, 0, 0]) tm H k) (Eb 0 (Dt (fun tm H => Af Ak p AkS 26 n (cd Amv [1, 1, 1]) tm H (B5 Ak p fi132.results k)) (B5 Ak p fi132.results k))) m tm H
theorem Acz (p : Pr β) (n : Nat)  (k : KO β) (m0 : Nat) : ∀ (t : Nat → AV) (H : Ab), Ad3 p n  k m0 (tf 26 0 t) H = R6 p n  k m0 (t 0) (t 1) (t 12) (t 13) H := by
 induction m0 with
 | zero => intros; rfl
 | succ m0 ih =>
  intro t H
  refine Eq.trans (Bb (nt := 26) (m := m0) (g := fun t H => R6 p n  k m0 (t 0) (t 1) (t 12) (t 13) H) ih rfl) ?_
  kernel_rfl
theorem Agr (p : Pr β) (n : Nat) (a0 a1 : AV) (H : Ab) (k : KO β) : Bw Ak p n fi132 [a0, a1] H k =
 p.len a0 fun t7 =>
 p.len a1 fun t9 =>
 p.bin .neq t7 t9 fun t10 =>
 p.cond t10
 (k bF H)
 (p.len a0 fun t12 =>
 Ad3 p n  k n (tf 26 0 (ud [(0, a0), (1, a1), (4, bF), (6, a0), (7, t7), (8, a1), (9, t9), (10, t10), (11, a0), (12, t12), (13, i0)] ut)) H) := by kernel_rfl
theorem AeE : J6 fi132 @f132 := fun p n a0 a1 H k => by
 rw [Agr]
 simp only [Acz]
 kernel_rfl
noncomputable def R7 (p : Pr β) (n : Nat)  (k : KO β) : Nat → AV → AV → AV → KO β
 | 0, _, _, _, _, _ => none
 | m + 1, t0, t1, t12, t13, H => p.bin .lss t13 t12 fun t14 =>
   p.cond t14
   (p.iadr 1 t0 t13 fun t18 =>
   p.load false 1 t18 H fun t19 =>
   p.iadr 1 t1 t13 fun t22 =>
   p.load false 1 t22 H fun t23 =>
   p.bin .neq t19 t23 fun t24 =>
   p.cond t24
   (k bF H)
   (p.bin .add t13 (si 1) fun t25 =>
   R7 p n  k m t0 t1 t12 t25 H))
   (k bT H)
noncomputable def f133 (n : Nat) (a0 a1 : AV) (H : Ab) (k : KO β) : Option β :=
 p.len a0 fun t7 =>
 p.len a1 fun t9 =>
 p.bin .neq t7 t9 fun t10 =>
 p.cond t10
 (k bF H)
 (p.len a0 fun t12 =>
 R7 p n  k n a0 a1 t12 i0 H)
noncomputable def Ad4 (p : Pr β) (n : Nat)  (k : KO β) (m : Nat) (tm : Tm) (H : Ab) : Option β :=
 C7 26 (fun tm H k => Af Ak p AkT 26 n (cd Amw [1, 1, 0, 1, 0, 0]) tm H k) (Eb 0 (Dt (fun tm H => Af Ak p AkT 26 n (cd Amw [1, 1, 1]) tm H (B5 Ak p fi133.results k)) (B5 Ak p fi133.results k))) m tm H
theorem Ac0 (p : Pr β) (n : Nat)  (k : KO β) (m0 : Nat) : ∀ (t : Nat → AV) (H : Ab), Ad4 p n  k m0 (tf 26 0 t) H = R7 p n  k m0 (t 0) (t 1) (t 12) (t 13) H := by
 induction m0 with
 | zero => intros; rfl
 | succ m0 ih =>
  intro t H
  refine Eq.trans (Bb (nt := 26) (m := m0) (g := fun t H => R7 p n  k m0 (t 0) (t 1) (t 12) (t 13) H) ih rfl) ?_
  kernel_rfl
theorem Ags (p : Pr β) (n : Nat) (a0 a1 : AV) (H : Ab) (k : KO β) : Bw Ak p n fi133 [a0, a1] H k =
 p.len a0 fun t7 =>
 p.len a1 fun t9 =>
 p.bin .neq t7 t9 fun t10 =>
 p.cond t10
 (k bF H)
 (p.len a0 fun t12 =>
 Ad4 p n  k n (tf 26 0 (ud [(0, a0), (1, a1), (4, bF), (6, a0), (7, t7), (8, a1), (9, t9), (10, t10), (11, a0), (12, t12), (13, i0)] ut)) H) := by kernel_rfl
theorem AeF : J6 fi133 @f133 := fun p n a0 a1 H k => by
 rw [Ags]
 simp only [Ac0]
 kernel_rfl
noncomputable def R8 (p : Pr β) (n : Nat)  (k : KO β) : Nat → AV → AV → AV → KO β
 | 0, _, _, _, _, _ => none
 | m + 1, t0, t1, t12, t13, H => p.bin .lss t13 t12 fun t14 =>
   p.cond t14
   (p.iadr 1 t0 t13 fun t18 =>
   p.load false 1 t18 H fun t19 =>
   p.iadr 1 t1 t13 fun t22 =>
   p.load false 1 t22 H fun t23 =>
   p.bin .neq t19 t23 fun t24 =>
   p.cond t24
   (k bF H)
   (p.bin .add t13 (si 1) fun t25 =>
   R8 p n  k m t0 t1 t12 t25 H))
   (k bT H)
noncomputable def f134 (n : Nat) (a0 a1 : AV) (H : Ab) (k : KO β) : Option β :=
 p.len a0 fun t7 =>
 p.len a1 fun t9 =>
 p.bin .neq t7 t9 fun t10 =>
 p.cond t10
 (k bF H)
 (p.len a0 fun t12 =>
 R8 p n  k n a0 a1 t12 i0 H)
noncomputable def Ad5 (p : Pr β) (n : Nat)  (k : KO β) (m : Nat) (tm : Tm) (H : Ab) : Option β :=
 C7 26 (fun tm H k => Af Ak p AkU 26 n (cd Amx [1, 1, 0, 1, 0, 0]) tm H k) (Eb 0 (Dt (fun tm H => Af Ak p AkU 26 n (cd Amx [1, 1, 1]) tm H (B5 Ak p fi134.results k)) (B5 Ak p fi134.results k))) m tm H
theorem Ac1 (p : Pr β) (n : Nat)  (k : KO β) (m0 : Nat) : ∀ (t : Nat → AV) (H : Ab), Ad5 p n  k m0 (tf 26 0 t) H = R8 p n  k m0 (t 0) (t 1) (t 12) (t 13) H := by
 induction m0 with
 | zero => intros; rfl
 | succ m0 ih =>
  intro t H
  refine Eq.trans (Bb (nt := 26) (m := m0) (g := fun t H => R8 p n  k m0 (t 0) (t 1) (t 12) (t 13) H) ih rfl) ?_
  kernel_rfl
theorem Agt (p : Pr β) (n : Nat) (a0 a1 : AV) (H : Ab) (k : KO β) : Bw Ak p n fi134 [a0, a1] H k =
 p.len a0 fun t7 =>
 p.len a1 fun t9 =>
 p.bin .neq t7 t9 fun t10 =>
 p.cond t10
 (k bF H)
 (p.len a0 fun t12 =>
 Ad5 p n  k n (tf 26 0 (ud [(0, a0), (1, a1), (4, bF), (6, a0), (7, t7), (8, a1), (9, t9), (10, t10), (11, a0), (12, t12), (13, i0)] ut)) H) := by kernel_rfl
theorem AeG : J6 fi134 @f134 := fun p n a0 a1 H k => by
 rw [Agt]
 simp only [Ac1]
 kernel_rfl
noncomputable def f104 (n : Nat) (a0 a1 : AV) (H : Ab) (k : KO β) : Option β :=
 p.box a0 H fun t2 H =>
 p.box a1 H fun t3 H =>
 p.fadr 0 t2 fun t9 =>
 p.load false 1 t9 H fun t10 =>
 p.fadr 0 t3 fun t11 =>
 p.load false 1 t11 H fun t12 =>
 p.bin .eql t10 t12 fun t13 =>
 p.gT t13 H (p.fadr 1 t2) fun t15 H =>
 p.gT t13 H (p.load false 1 t15 H) fun t16 H =>
 p.gT t13 H (p.fadr 1 t3) fun t17 H =>
 p.gT t13 H (p.load false 1 t17 H) fun t18 H =>
 p.gT t13 H (p.binB .eql t16 t18) fun t19 H =>
 p.pick t13 t19 bF fun t20 =>
 p.gT t20 H (p.fadr 2 t2) fun t22 H =>
 p.gT t20 H (p.load false 1 t22 H) fun t23 H =>
 p.gT t20 H (p.fadr 2 t3) fun t24 H =>
 p.gT t20 H (p.load false 1 t24 H) fun t25 H =>
 p.gT t20 H (p.bin .eql t23 t25) fun t26 H =>
 p.pick t20 t26 bF fun t27 =>
 p.gT t27 H (p.fadr 3 t2) fun t29 H =>
 p.gT t27 H (p.load false 1 t29 H) fun t30 H =>
 p.gT t27 H (p.fadr 3 t3) fun t31 H =>
 p.gT t27 H (p.load false 1 t31 H) fun t32 H =>
 p.gT t27 H (p.binB .eql t30 t32) fun t33 H =>
 p.pick t27 t33 bF fun t34 =>
 p.gT t34 H (p.fadr 4 t2) fun t36 H =>
 p.gT t34 H (p.load false 1 t36 H) fun t37 H =>
 p.gT t34 H (p.fadr 4 t3) fun t38 H =>
 p.gT t34 H (p.load false 1 t38 H) fun t39 H =>
 p.gT t34 H (p.bin .eql t37 t39) fun t40 H =>
 p.pick t34 t40 bF fun t41 =>
 p.gT t41 H (p.fadr 5 t2) fun t43 H =>
 p.gT t41 H (p.load false 1 t43 H) fun t44 H =>
 p.gT t41 H (p.fadr 5 t3) fun t45 H =>
 p.gT t41 H (p.load false 1 t45 H) fun t46 H =>
 p.gT t41 H (p.bin .eql t44 t46) fun t47 H =>
 p.pick t41 t47 bF fun t48 =>
 p.gT t48 H (p.fadr 6 t2) fun t50 H =>
 p.gT t48 H (p.load false 1 t50 H) fun t51 H =>
 p.gT t48 H (p.fadr 6 t3) fun t52 H =>
 p.gT t48 H (p.load false 1 t52 H) fun t53 H =>
 p.hT t48 H (p.call 4 (.fn 71 [] []) [t51, t53] H) fun t54 H =>
 p.pick t48 t54 bF fun t55 =>
 p.fadr 7 t2 fun t56 =>
 p.load false 1 t56 H fun t57 =>
 p.fadr 7 t3 fun t58 =>
 p.load false 1 t58 H fun t59 =>
 p.bin .eql t57 t59 fun t60 =>
 p.gT t60 H (p.fadr 8 t2) fun t62 H =>
 p.gT t60 H (p.load false 1 t62 H) fun t63 H =>
 p.gT t60 H (p.fadr 8 t3) fun t64 H =>
 p.gT t60 H (p.load false 1 t64 H) fun t65 H =>
 p.gT t60 H (p.bin .eql t63 t65) fun t66 H =>
 p.pick t60 t66 bF fun t67 =>
 p.gT t67 H (p.fadr 9 t2) fun t69 H =>
 p.gT t67 H (p.load false 1 t69 H) fun t70 H =>
 p.gT t67 H (p.fadr 9 t3) fun t71 H =>
 p.gT t67 H (p.load false 1 t71 H) fun t72 H =>
 p.gT t67 H (p.binB .eql t70 t72) fun t73 H =>
 p.pick t67 t73 bF fun t74 =>
 p.gT t74 H (p.fadr 10 t2) fun t76 H =>
 p.gT t74 H (p.load false 1 t76 H) fun t77 H =>
 p.gT t74 H (p.fadr 10 t3) fun t78 H =>
 p.gT t74 H (p.load false 1 t78 H) fun t79 H =>
 p.gT t74 H (p.bin .eql t77 t79) fun t80 H =>
 p.pick t74 t80 bF fun t81 =>
 p.gT t81 H (p.fadr 16 t2) fun t83 H =>
 p.gT t81 H (p.load false 1 t83 H) fun t84 H =>
 p.gT t81 H (p.fadr 16 t3) fun t85 H =>
 p.gT t81 H (p.load false 1 t85 H) fun t86 H =>
 p.gT t81 H (p.binB .eql t84 t86) fun t87 H =>
 p.pick t81 t87 bF fun t88 =>
 p.gT t88 H (p.fadr 17 t2) fun t90 H =>
 p.gT t88 H (p.load false 1 t90 H) fun t91 H =>
 p.gT t88 H (p.fadr 17 t3) fun t92 H =>
 p.gT t88 H (p.load false 1 t92 H) fun t93 H =>
 p.gT t88 H (p.bin .eql t91 t93) fun t94 H =>
 p.pick t88 t94 bF fun t95 =>
 p.gT t95 H (p.fadr 18 t2) fun t97 H =>
 p.gT t95 H (p.load false 1 t97 H) fun t98 H =>
 p.gT t95 H (p.fadr 18 t3) fun t99 H =>
 p.gT t95 H (p.load false 1 t99 H) fun t100 H =>
 p.gT t95 H (p.binB .eql t98 t100) fun t101 H =>
 p.pick t95 t101 bF fun t102 =>
 p.gT t102 H (p.fadr 19 t2) fun t104 H =>
 p.gT t102 H (p.load false 1 t104 H) fun t105 H =>
 p.gT t102 H (p.fadr 19 t3) fun t106 H =>
 p.gT t102 H (p.load false 1 t106 H) fun t107 H =>
 p.hT t102 H (p.call 4 (.fn 71 [] []) [t105, t107] H) fun t108 H =>
 p.pick t102 t108 bF fun t109 =>
 p.fadr 11 t2 fun t110 =>
 p.load false 1 t110 H fun t111 =>
 p.fadr 11 t3 fun t112 =>
 p.load false 1 t112 H fun t113 =>
 p.binB .eql t111 t113 fun t114 =>
 p.gT t114 H (p.fadr 12 t2) fun t116 H =>
 p.gT t114 H (p.load false 1 t116 H) fun t117 H =>
 p.gT t114 H (p.fadr 12 t3) fun t118 H =>
 p.gT t114 H (p.load false 1 t118 H) fun t119 H =>
 p.gT t114 H (p.bin .eql t117 t119) fun t120 H =>
 p.pick t114 t120 bF fun t121 =>
 p.gT t121 H (p.fadr 13 t2) fun t123 H =>
 p.gT t121 H (p.load false 1 t123 H) fun t124 H =>
 p.gT t121 H (p.fadr 13 t3) fun t125 H =>
 p.gT t121 H (p.load false 1 t125 H) fun t126 H =>
 p.hT t121 H (p.call 4 (.fn 71 [] []) [t124, t126] H) fun t127 H =>
 p.pick t121 t127 bF fun t128 =>
 p.gT t128 H (p.fadr 14 t2) fun t130 H =>
 p.gT t128 H (p.load false 1 t130 H) fun t131 H =>
 p.gT t128 H (p.fadr 14 t3) fun t132 H =>
 p.gT t128 H (p.load false 1 t132 H) fun t133 H =>
 p.gT t128 H (p.bin .eql t131 t133) fun t134 H =>
 p.pick t128 t134 bF fun t135 =>
 p.gT t135 H (p.fadr 15 t2) fun t137 H =>
 p.gT t135 H (p.load false 1 t137 H) fun t138 H =>
 p.gT t135 H (p.fadr 15 t3) fun t139 H =>
 p.gT t135 H (p.load false 1 t139 H) fun t140 H =>
 p.gT t135 H (p.binB .eql t138 t140) fun t141 H =>
 p.pick t135 t141 bF fun t142 =>
 p.fadr 22 t2 fun t143 =>
 p.load false 1 t143 H fun t144 =>
 p.fadr 22 t3 fun t145 =>
 p.load false 1 t145 H fun t146 =>
 p.call 4 (.fn 132 [] []) [t144, t146] H fun t147 H =>
 p.gT t147 H (p.fadr 23 t2) fun t149 H =>
 p.gT t147 H (p.load false 1 t149 H) fun t150 H =>
 p.gT t147 H (p.fadr 23 t3) fun t151 H =>
 p.gT t147 H (p.load false 1 t151 H) fun t152 H =>
 p.hT t147 H (p.call 4 (.fn 133 [] []) [t150, t152] H) fun t153 H =>
 p.pick t147 t153 bF fun t154 =>
 p.gT t154 H (p.fadr 24 t2) fun t156 H =>
 p.gT t154 H (p.load false 1 t156 H) fun t157 H =>
 p.gT t154 H (p.fadr 24 t3) fun t158 H =>
 p.gT t154 H (p.load false 1 t158 H) fun t159 H =>
 p.hT t154 H (p.call 4 (.fn 134 [] []) [t157, t159] H) fun t160 H =>
 p.pick t154 t160 bF fun t161 =>
 p.kT t55 H t109 fun t164 H =>
 p.pick t55 t164 bF fun t165 =>
 p.kT t165 H t142 fun t167 H =>
 p.pick t165 t167 bF fun t168 =>
 p.kT t168 H t161 fun t170 H =>
 p.pick t168 t170 bF fun t171 =>
 p.gT t171 H (p.fadr 20 t2) fun t173 H =>
 p.gT t171 H (p.load false 1 t173 H) fun t174 H =>
 p.gT t171 H (p.fadr 20 t3) fun t175 H =>
 p.gT t171 H (p.load false 1 t175 H) fun t176 H =>
 p.gT t171 H (p.bin .eql t174 t176) fun t177 H =>
 p.pick t171 t177 bF fun t178 =>
 p.gT t178 H (p.fadr 21 t2) fun t180 H =>
 p.gT t178 H (p.load false 1 t180 H) fun t181 H =>
 p.gT t178 H (p.fadr 21 t3) fun t182 H =>
 p.gT t178 H (p.load false 1 t182 H) fun t183 H =>
 p.gT t178 H (p.binB .eql t181 t183) fun t184 H =>
 p.pick t178 t184 bF fun t185 =>
 k t185 H
theorem Aev : J6 Al9 @f104 := fun p n a0 a1 H k => by kernel_rfl
noncomputable def f137 (n : Nat) (a0 : AV) (H : Ab) (k : KO β) : Option β :=
 p.call 56 (.fn 149 [] []) [a0, (.sc (.string ⟨#[47]⟩))] H fun t4 H =>
 k t4 H
theorem AeH : Nh AlM @f137 := fun p n a0 H k => by kernel_rfl
noncomputable def f108 (n : Nat) (a0 : AV) (H : Ab) (k : KO β) : Option β :=
 p.call 4 (.fn 135 [] []) [a0] H fun t4 H =>
 p.kT t4 H a0 fun t6 H =>
 p.gT t4 H (p.bin .neq t6 sE) fun t7 H =>
 p.pick t4 t7 bF fun t8 =>
 p.kT t8 H a0 fun t10 H =>
 p.hT t8 H (p.call 4 (.fn 136 [] []) [t10, (.sc (.string ⟨#[43, 35]⟩))] H) fun t11 H =>
 p.gT t8 H (p.un .not t11) fun t12 H =>
 p.pick t8 t12 bF fun t13 =>
 p.kT t13 H a0 fun t15 H =>
 p.hT t13 H (p.call 56 (.fn 137 [] []) [t15] H) fun t16 H =>
 p.gT t13 H (p.len t16) fun t17 H =>
 p.gT t13 H (p.bin .leq t17 (si 6)) fun t18 H =>
 p.pick t13 t18 bF fun t19 =>
 k t19 H
theorem Aez : Nh AlD @f108 := fun p n a0 H k => by kernel_rfl
noncomputable def f107 (n : Nat) (a0 : AV) (H : Ab) (k : KO β) : Option β :=
 p.call 4 (.fn 98 [] []) [a0, i0, (si 2)] H fun t4 H =>
 k t4 H
theorem Aey : Nh AlC @f107 := fun p n a0 H k => by kernel_rfl
noncomputable def f118 (n : Nat) (a0 : AV) (H : Ab) (k : KO β) : Option β :=
 p.call 4 (.fn 98 [] []) [a0, i0, (si 65535)] H fun t4 H =>
 k t4 H
theorem Ae7 : Nh AlH @f118 := fun p n a0 H k => by kernel_rfl
noncomputable def f106 (n : Nat) (a0 : AV) (H : Ab) (k : KO β) : Option β :=
 p.box a0 H fun t1 H =>
 p.fl 11 t1 1 H fun t5 =>
 p.un .not t5 fun t6 =>
 p.lF t6 H 12 t1 1 fun t9 H =>
 p.hF t6 H (p.ca 4 108 [t9] H) fun t10 H =>
 p.kF t6 H t10 fun t11 H =>
 p.lT t11 H 13 t1 1 fun t13 H =>
 p.gT t11 H (p.len t13) fun t14 H =>
 p.gT t11 H (p.bin .leq t14 (si 40)) fun t15 H =>
 p.gF t6 H (p.pick t11 t15 bF) fun t16 H =>
 p.kF t6 H t16 fun t17 H =>
 p.lT t17 H 14 t1 1 fun t19 H =>
 p.hT t17 H (p.ca 4 107 [t19] H) fun t20 H =>
 p.gF t6 H (p.pick t17 t20 bF) fun t21 H =>
 p.pick t6 bT t21 fun t22 =>
 p.fl 8 t1 1 H fun t24 =>
 p.ca 4 98 [t24, i0, (si 255)] H fun t25 H =>
 p.lT t25 H 7 t1 1 fun t28 H =>
 p.hT t25 H (p.ca 4 135 [t28] H) fun t29 H =>
 p.pick t25 t29 bF fun t30 =>
 p.lT t30 H 10 t1 1 fun t33 H =>
 p.hT t30 H (p.ca 4 118 [t33] H) fun t34 H =>
 p.pick t30 t34 bF fun t35 =>
 p.kT t35 H t22 fun t37 H =>
 p.pick t35 t37 bF fun t38 =>
 p.lT t38 H 17 t1 1 fun t41 H =>
 p.hT t38 H (p.ca 4 135 [t41] H) fun t42 H =>
 p.pick t38 t42 bF fun t43 =>
 p.lT t43 H 19 t1 1 fun t46 H =>
 p.gT t43 H (p.len t46) fun t47 H =>
 p.gT t43 H (p.bin .leq t47 (si 60)) fun t48 H =>
 p.pick t43 t48 bF fun t49 =>
 k t49 H
theorem Aex : Nh AlB @f106 := fun p n a0 H k => by kernel_rfl
noncomputable def f109 (n : Nat) (a0 : AV) (H : Ab) (k : KO β) : Option β :=
 p.call 4 (.fn 98 [] []) [a0, (si 1), (si 65535)] H fun t4 H =>
 k t4 H
theorem Ae0 : Nh AlE @f109 := fun p n a0 H k => by kernel_rfl
noncomputable def f150 (n : Nat) (a0 a1 : AV) (H : Ab) (k : KO β) : Option β :=
 p.call 4 (.fn 136 [] []) [a0, (.sc (.string ⟨#[43, 35]⟩))] H fun t6 H =>
 p.un .not t6 fun t7 =>
 p.kF t7 H a0 fun t9 H =>
 p.gF t7 H (p.bin .eql t9 (.sc (.string ⟨#[43]⟩))) fun t10 H =>
 p.pick t7 bT t10 fun t11 =>
 p.kF t11 H a0 fun t13 H =>
 p.gF t11 H (p.bin .eql t13 (.sc (.string ⟨#[35]⟩))) fun t14 H =>
 p.kF t11 H t14 fun t15 H =>
 p.kT t15 H a1 fun t16 H =>
 p.gF t11 H (p.pick t15 t16 bF) fun t17 H =>
 p.pick t11 bT t17 fun t18 =>
 k t18 H
theorem AeP : J6 AlS @f150 := fun p n a0 a1 H k => by kernel_rfl
noncomputable def Oh (p : Pr β) (n : Nat)  (k : KO β) : Nat → AV → AV → AV → AV → KO β
 | 0, _, _, _, _, _, _ => none
 | m + 1, t0, t3, t8, t9, t10, H => p.bin .lss t10 t9 fun t11 =>
   p.cond t11
   (p.iadr 1 t8 t10 fun t13 =>
   p.load false 1 t13 H fun t14 =>
   p.len t3 fun t18 =>
   p.bin .sub t18 (si 1) fun t19 =>
   p.bin .eql t10 t19 fun t20 =>
   p.call 4 (.fn 150 [] []) [t14, t20] H fun t21 H =>
   p.un .not t21 fun t22 =>
   p.cond t22
   (k bF H)
   (p.bin .add t10 (si 1) fun t23 =>
   Oh p n  k m t0 t3 t8 t9 t23 H))
   (p.call 4 (.fn 135 [] []) [t0] H fun t25 H =>
   p.kT t25 H t0 fun t27 H =>
   p.gT t25 H (p.bin .neq t27 sE) fun t28 H =>
   p.pick t25 t28 bF fun t29 =>
   p.kT t29 H t3 fun t31 H =>
   p.gT t29 H (p.len t31) fun t32 H =>
   p.gT t29 H (p.bin .leq t32 (si 6)) fun t33 H =>
   p.pick t29 t33 bF fun t34 =>
   k t34 H)
noncomputable def f138 (n : Nat) (a0 : AV) (H : Ab) (k : KO β) : Option β :=
 p.call 56 (.fn 137 [] []) [a0] H fun t7 H =>
 p.len t7 fun t9 =>
 Oh p n  k n a0 t7 t7 t9 i0 H
noncomputable def Ad6 (p : Pr β) (n : Nat)  (k : KO β) (m : Nat) (tm : Tm) (H : Ab) : Option β :=
 C7 35 (fun tm H k => Af Ak p [] 35 n (cd Amy [1, 1, 0, 1, 0, 0]) tm H k) (Eb 0 (Dt (fun tm H => Af Ak p [] 35 n (cd Amy [1, 1, 1]) tm H (B5 Ak p fi138.results k)) (B5 Ak p fi138.results k))) m tm H
theorem Ac2 (p : Pr β) (n : Nat)  (k : KO β) (m0 : Nat) : ∀ (t : Nat → AV) (H : Ab), Ad6 p n  k m0 (tf 35 0 t) H = Oh p n  k m0 (t 0) (t 3) (t 8) (t 9) (t 10) H := by
 induction m0 with
 | zero => intros; rfl
 | succ m0 ih =>
  intro t H
  refine Eq.trans (Bb (nt := 35) (m := m0) (g := fun t H => Oh p n  k m0 (t 0) (t 3) (t 8) (t 9) (t 10) H) ih rfl) ?_
  kernel_rfl
theorem Agu (p : Pr β) (n : Nat) (a0 : AV) (H : Ab) (k : KO β) : Bw Ak p n fi138 [a0] H k =
 p.call 56 (.fn 137 [] []) [a0] H fun t7 H =>
 p.len t7 fun t9 =>
 Ad6 p n  k n (tf 35 0 (ud [(0, a0), (2, bF), (3, t7), (6, a0), (7, t7), (8, t7), (9, t9), (10, i0)] ut)) H := by kernel_rfl
theorem AeI : Nh fi138 @f138 := fun p n a0 H k => by
 rw [Agu]
 simp only [Ac2]
 kernel_rfl
noncomputable def Oe (p : Pr β) (n : Nat)  (k : KO β) : Nat → AV → AV → AV → KO β
 | 0, _, _, _, _, _ => none
 | m + 1, t1, t39, t40, t41, H => p.bin .lss t41 t40 fun t42 =>
   p.cond t42
   (p.iadr 1 t39 t41 fun t43 =>
   p.load false 1 t43 H fun t44 =>
   p.ca 4 107 [t44] H fun t46 H =>
   p.un .not t46 fun t47 =>
   p.kT t47 H t44 fun t49 H =>
   p.gT t47 H (p.bin .neq t49 (si 128)) fun t50 H =>
   p.pick t47 t50 bF fun t51 =>
   p.cond t51
   (k bF H)
   (p.bin .add t41 (si 1) fun t52 =>
   Oe p n  k m t1 t39 t40 t52 H))
   (p.fadr 22 t1 fun t53 =>
   p.load false 1 t53 H fun t54 =>
   p.len t54 fun t55 =>
   p.fl 23 t1 1 H fun t57 =>
   p.len t57 fun t58 =>
   p.bin .add t55 t58 fun t59 =>
   p.fl 24 t1 1 H fun t61 =>
   p.len t61 fun t62 =>
   p.bin .add t59 t62 fun t63 =>
   p.ca 4 98 [t63, (si 1), (si 4)] H fun t64 H =>
   k t64 H)
noncomputable def Lb (p : Pr β) (n : Nat)  (k : KO β) : Nat → AV → AV → AV → KO β
 | 0, _, _, _, _, _ => none
 | m + 1, t1, t28, t29, t30, H => p.bin .lss t30 t29 fun t31 =>
   p.cond t31
   (p.iadr 1 t28 t30 fun t32 =>
   p.load false 1 t32 H fun t33 =>
   p.ca 4 138 [t33] H fun t35 H =>
   p.un .not t35 fun t36 =>
   p.cond t36
   (k bF H)
   (p.bin .add t30 (si 1) fun t37 =>
   Lb p n  k m t1 t28 t29 t37 H))
   (p.fadr 24 t1 fun t38 =>
   p.load false 1 t38 H fun t39 =>
   p.len t39 fun t40 =>
   Oe p n  k n t1 t39 t40 i0 H)
noncomputable def La (p : Pr β) (n : Nat)  (k : KO β) : Nat → AV → AV → AV → KO β
 | 0, _, _, _, _, _ => none
 | m + 1, t1, t10, t11, t12, H => p.bin .lss t12 t11 fun t13 =>
   p.cond t13
   (p.iadr 2 t10 t12 fun t14 =>
   p.load true 2 t14 H fun t15 =>
   p.new [sE, i0] H fun t4 H =>
   p.store 2 t4 t15 H fun H =>
   p.fl 0 t4 1 H fun t17 =>
   p.ca 4 138 [t17] H fun t18 H =>
   p.un .not t18 fun t19 =>
   p.lF t19 H 1 t4 1 fun t22 H =>
   p.hF t19 H (p.ca 4 107 [t22] H) fun t23 H =>
   p.gF t19 H (p.un .not t23) fun t24 H =>
   p.pick t19 bT t24 fun t25 =>
   p.cond t25
   (k bF H)
   (p.bin .add t12 (si 1) fun t26 =>
   La p n  k m t1 t10 t11 t26 H))
   (p.fadr 23 t1 fun t27 =>
   p.load false 1 t27 H fun t28 =>
   p.len t28 fun t29 =>
   Lb p n  k n t1 t28 t29 i0 H)
noncomputable def f110 (n : Nat) (a0 : AV) (H : Ab) (k : KO β) : Option β :=
 p.box a0 H fun t1 H =>
 p.fl 22 t1 1 H fun t10 =>
 p.len t10 fun t11 =>
 La p n  k n t1 t10 t11 i0 H
noncomputable def Adv (p : Pr β) (n : Nat)  (k : KO β) (m : Nat) (tm : Tm) (H : Ab) : Option β :=
 C7 65 (fun tm H k => Af Ak p [] 65 n (cd Vx [1, 1, 1, 0, 1, 0, 0]) tm H k) (Eb 4 (Dt (fun tm H => Af Ak p [] 65 n (cd Vx [1, 1, 1, 1]) tm H (B5 Ak p fi110.results k)) (B5 Ak p fi110.results k))) m tm H
noncomputable def Adu (p : Pr β) (n : Nat)  (k : KO β) (m : Nat) (tm : Tm) (H : Ab) : Option β :=
 C7 65 (fun tm H k => Af Ak p [] 65 n (cd Vx [1, 1, 0, 1, 0, 0]) tm H k) (Eb 2 (Dt (fun tm H => Af Ak p [] 65 n (cd Vx [1, 1, 1]) tm H (B5 Ak p fi110.results k)) (B5 Ak p fi110.results k))) m tm H
noncomputable def Adt (p : Pr β) (n : Nat)  (k : KO β) (m : Nat) (tm : Tm) (H : Ab) : Option β :=
 C7 65 (fun tm H k => Af Ak p [] 65 n (cd Vx [1, 0, 1, 0, 0]) tm H k) (Eb 0 (Dt (fun tm H => Af Ak p [] 65 n (cd Vx [1, 1]) tm H (B5 Ak p fi110.results k)) (B5 Ak p fi110.results k))) m tm H
theorem V9 (p : Pr β) (n : Nat)  (k : KO β) (m2 : Nat) : ∀ (t : Nat → AV) (H : Ab), Adv p n  k m2 (tf 65 0 t) H = Oe p n  k m2 (t 1) (t 39) (t 40) (t 41) H := by
 induction m2 with
 | zero => intros; rfl
 | succ m2 ih =>
  intro t H
  refine Eq.trans (Bb (nt := 65) (m := m2) (g := fun t H => Oe p n  k m2 (t 1) (t 39) (t 40) (t 41) H) ih rfl) ?_
  kernel_rfl
theorem Aai (p : Pr β) (n : Nat)  (k : KO β) (m1 : Nat) (t : Nat → AV) (H : Ab) : Af Ak p [] 65 n (cd Vx [1, 1, 0, 1, 0, 0]) (tf 65 0 t) H (Dt (fun tm H => Lb p n  k m1 (gt tm 1) (gt tm 28) (gt tm 29) (gt tm 30) H) (Eb 2 (Dt (fun tm H => Af Ak p [] 65 n (cd Vx [1, 1, 1]) tm H (B5 Ak p fi110.results k)) (B5 Ak p fi110.results k)))) =
 p.bin .lss (t 30) (t 29) fun t31 =>
 p.cond t31
 (p.iadr 1 (t 28) (t 30) fun t32 =>
 p.load false 1 t32 H fun t33 =>
 p.call 4 (.fn 138 [] []) [t33] H fun t35 H =>
 p.un .not t35 fun t36 =>
 p.cond t36
 (k bF H)
 (p.bin .add (t 30) (si 1) fun t37 =>
 Lb p n  k m1 (t 1) (t 28) (t 29) t37 H))
 (p.fadr 24 (t 1) fun t38 =>
 p.load false 1 t38 H fun t39 =>
 p.len t39 fun t40 =>
 Adv p n  k n (tf 65 0 (ud [(31, t31), (38, t38), (39, t39), (40, t40), (41, i0)] t)) H) := by kernel_rfl
theorem V8 (p : Pr β) (n : Nat)  (k : KO β) (m1 : Nat) : ∀ (t : Nat → AV) (H : Ab), Adu p n  k m1 (tf 65 0 t) H = Lb p n  k m1 (t 1) (t 28) (t 29) (t 30) H := by
 induction m1 with
 | zero => intros; rfl
 | succ m1 ih =>
  intro t H
  refine Eq.trans (Bb (nt := 65) (m := m1) (g := fun t H => Lb p n  k m1 (t 1) (t 28) (t 29) (t 30) H) ih rfl) ?_
  refine Eq.trans (Aai p n  k m1 t H) ?_
  simp only [V9]
  kernel_rfl
theorem Aah (p : Pr β) (n : Nat)  (k : KO β) (m0 : Nat) (t : Nat → AV) (H : Ab) : Af Ak p [] 65 n (cd Vx [1, 0, 1, 0, 0]) (tf 65 0 t) H (Dt (fun tm H => La p n  k m0 (gt tm 1) (gt tm 10) (gt tm 11) (gt tm 12) H) (Eb 0 (Dt (fun tm H => Af Ak p [] 65 n (cd Vx [1, 1]) tm H (B5 Ak p fi110.results k)) (B5 Ak p fi110.results k)))) =
 p.bin .lss (t 12) (t 11) fun t13 =>
 p.cond t13
 (p.iadr 2 (t 10) (t 12) fun t14 =>
 p.load true 2 t14 H fun t15 =>
 p.new [sE, i0] H fun t4 H =>
 p.store 2 t4 t15 H fun H =>
 p.fadr 0 t4 fun t16 =>
 p.load false 1 t16 H fun t17 =>
 p.call 4 (.fn 138 [] []) [t17] H fun t18 H =>
 p.un .not t18 fun t19 =>
 p.gF t19 H (p.fadr 1 t4) fun t21 H =>
 p.gF t19 H (p.load false 1 t21 H) fun t22 H =>
 p.hF t19 H (p.call 4 (.fn 107 [] []) [t22] H) fun t23 H =>
 p.gF t19 H (p.un .not t23) fun t24 H =>
 p.pick t19 bT t24 fun t25 =>
 p.cond t25
 (k bF H)
 (p.bin .add (t 12) (si 1) fun t26 =>
 La p n  k m0 (t 1) (t 10) (t 11) t26 H))
 (p.fadr 23 (t 1) fun t27 =>
 p.load false 1 t27 H fun t28 =>
 p.len t28 fun t29 =>
 Adu p n  k n (tf 65 0 (ud [(13, t13), (27, t27), (28, t28), (29, t29), (30, i0)] t)) H) := by kernel_rfl
theorem Acs (p : Pr β) (n : Nat)  (k : KO β) (m0 : Nat) : ∀ (t : Nat → AV) (H : Ab), Adt p n  k m0 (tf 65 0 t) H = La p n  k m0 (t 1) (t 10) (t 11) (t 12) H := by
 induction m0 with
 | zero => intros; rfl
 | succ m0 ih =>
  intro t H
  refine Eq.trans (Bb (nt := 65) (m := m0) (g := fun t H => La p n  k m0 (t 1) (t 10) (t 11) (t 12) H) ih rfl) ?_
  refine Eq.trans (Aah p n  k m0 t H) ?_
  simp only [V8]
  kernel_rfl
theorem Agl (p : Pr β) (n : Nat) (a0 : AV) (H : Ab) (k : KO β) : Bw Ak p n fi110 [a0] H k =
 p.box a0 H fun t1 H =>
 p.fadr 22 t1 fun t9 =>
 p.load false 1 t9 H fun t10 =>
 p.len t10 fun t11 =>
 Adt p n  k n (tf 65 0 (ud [(0, a0), (1, t1), (2, bF), (9, t9), (10, t10), (11, t11), (12, i0)] ut)) H := by kernel_rfl
theorem Ae1 : Nh fi110 @f110 := fun p n a0 H k => by
 rw [Agl]
 simp only [V9, V8, Acs]
 kernel_rfl
noncomputable def f70 (n : Nat) (a0 : AV) (H : Ab) (k : KO β) : Option β :=
 p.box a0 H fun t1 H =>
 p.fl 0 t1 1 H fun t4 =>
 p.ca 4 98 [t4, (si 1), (si 14)] H fun t5 H =>
 p.un .not t5 fun t6 =>
 p.gF t6 H (p.load true 25 t1 H) fun t9 H =>
 p.both
 (p.gF t6 H (p.load true 25 t1 H) fun t8 H =>
 p.hF t6 H (p.ca 59 105 [t9] H) fun t10 H =>
 p.hF t6 H (p.ca 4 104 [t8, t10] H) fun t11 H =>
 p.gF t6 H (p.un .not t11) fun t12 H =>
 p.pick t6 bT t12 fun t13 =>
 p.cond t13
 (k bF H)
 (p.fadr 0 t1 fun t14 =>
 p.load false 1 t14 H fun t15 =>
 p.bin .eql t15 (si 1) fun t17 =>
 p.cond t17
 (p.load true 25 t1 H fun t18 =>
 p.ca 4 106 [t18] H fun t19 H =>
 k t19 H)
 (p.bin .eql t15 (si 2) fun t21 =>
 p.cond t21
 (p.fadr 20 t1 fun t22 =>
 p.load false 1 t22 H fun t23 =>
 p.ca 4 98 [t23, i0, (si 5)] H fun t24 H =>
 p.lT t24 H 21 t1 1 fun t27 H =>
 p.gT t24 H (p.un .not t27) fun t28 H =>
 p.kT t24 H t28 fun t29 H =>
 p.lF t29 H 20 t1 1 fun t31 H =>
 p.gF t29 H (p.bin .eql t31 i0) fun t32 H =>
 p.gT t24 H (p.pick t29 bT t32) fun t33 H =>
 p.pick t24 t33 bF fun t34 =>
 k t34 H)
 (p.bin .eql t15 (si 3) fun t36 =>
 p.cond t36
 (p.fadr 2 t1 fun t37 =>
 p.load false 1 t37 H fun t38 =>
 p.ca 4 107 [t38] H fun t39 H =>
 p.lT t39 H 5 t1 1 fun t42 H =>
 p.hT t39 H (p.ca 4 108 [t42] H) fun t43 H =>
 p.pick t39 t43 bF fun t44 =>
 p.lT t44 H 6 t1 1 fun t47 H =>
 p.gT t44 H (p.len t47) fun t48 H =>
 p.gT t44 H (p.bin .leq t48 (si 40)) fun t49 H =>
 p.pick t44 t49 bF fun t50 =>
 p.lT t50 H 2 t1 1 fun t53 H =>
 p.gT t50 H (p.bin .eql t53 i0) fun t54 H =>
 p.kT t50 H t54 fun t55 H =>
 p.lF t55 H 4 t1 1 fun t57 H =>
 p.hF t55 H (p.ca 4 109 [t57] H) fun t58 H =>
 p.gT t50 H (p.pick t55 bT t58) fun t59 H =>
 p.pick t50 t59 bF fun t60 =>
 k t60 H)
 (p.bin .eql t15 (si 4) fun t62 =>
 D4 (fun (t1 t15 t61 : AV) (H : Ab) => p.cond t61
 (p.fadr 4 t1 fun t67 =>
 p.load false 1 t67 H fun t68 =>
 p.ca 4 109 [t68] H fun t69 H =>
 k t69 H)
 (p.bin .eql t15 (si 8) fun t71 =>
 D4 (fun (t1 t70 : AV) (H : Ab) => p.cond t70
 (p.fadr 4 t1 fun t74 =>
 p.load false 1 t74 H fun t75 =>
 p.ca 4 109 [t75] H fun t76 H =>
 p.gT t76 H (p.load true 25 t1 H) fun t78 H =>
 p.hT t76 H (p.ca 4 110 [t78] H) fun t79 H =>
 p.pick t76 t79 bF fun t80 =>
 k t80 H)
 (k bT H)) fun j2 =>
 p.cond t71
 (j2 t1 t71 H)
 (p.bin .eql t15 (si 9) fun t72 =>
 p.cond t72
 (j2 t1 t72 H)
 (p.bin .eql t15 (si 10) fun t73 =>
 j2 t1 t73 H)))) fun j1 =>
 p.cond t62
 (j1 t1 t15 t62 H)
 (p.bin .eql t15 (si 5) fun t63 =>
 p.cond t63
 (j1 t1 t15 t63 H)
 (p.bin .eql t15 (si 6) fun t64 =>
 p.cond t64
 (j1 t1 t15 t64 H)
 (p.bin .eql t15 (si 7) fun t65 =>
 p.cond t65
 (j1 t1 t15 t65 H)
 (p.bin .eql t15 (si 11) fun t66 =>
 j1 t1 t15 t66 H)))))))))
 (p.hF t6 H (p.ca 59 105 [t9] H) fun t10 H =>
 p.gF t6 H (p.load true 25 t1 H) fun t8 H =>
 p.hF t6 H (p.ca 4 104 [t8, t10] H) fun t11 H =>
 p.gF t6 H (p.un .not t11) fun t12 H =>
 p.pick t6 bT t12 fun t13 =>
 p.cond t13
 (k bF H)
 (p.fadr 0 t1 fun t14 =>
 p.load false 1 t14 H fun t15 =>
 p.bin .eql t15 (si 1) fun t17 =>
 p.cond t17
 (p.load true 25 t1 H fun t18 =>
 p.ca 4 106 [t18] H fun t19 H =>
 k t19 H)
 (p.bin .eql t15 (si 2) fun t21 =>
 p.cond t21
 (p.fadr 20 t1 fun t22 =>
 p.load false 1 t22 H fun t23 =>
 p.ca 4 98 [t23, i0, (si 5)] H fun t24 H =>
 p.lT t24 H 21 t1 1 fun t27 H =>
 p.gT t24 H (p.un .not t27) fun t28 H =>
 p.kT t24 H t28 fun t29 H =>
 p.lF t29 H 20 t1 1 fun t31 H =>
 p.gF t29 H (p.bin .eql t31 i0) fun t32 H =>
 p.gT t24 H (p.pick t29 bT t32) fun t33 H =>
 p.pick t24 t33 bF fun t34 =>
 k t34 H)
 (p.bin .eql t15 (si 3) fun t36 =>
 p.cond t36
 (p.fadr 2 t1 fun t37 =>
 p.load false 1 t37 H fun t38 =>
 p.ca 4 107 [t38] H fun t39 H =>
 p.lT t39 H 5 t1 1 fun t42 H =>
 p.hT t39 H (p.ca 4 108 [t42] H) fun t43 H =>
 p.pick t39 t43 bF fun t44 =>
 p.lT t44 H 6 t1 1 fun t47 H =>
 p.gT t44 H (p.len t47) fun t48 H =>
 p.gT t44 H (p.bin .leq t48 (si 40)) fun t49 H =>
 p.pick t44 t49 bF fun t50 =>
 p.lT t50 H 2 t1 1 fun t53 H =>
 p.gT t50 H (p.bin .eql t53 i0) fun t54 H =>
 p.kT t50 H t54 fun t55 H =>
 p.lF t55 H 4 t1 1 fun t57 H =>
 p.hF t55 H (p.ca 4 109 [t57] H) fun t58 H =>
 p.gT t50 H (p.pick t55 bT t58) fun t59 H =>
 p.pick t50 t59 bF fun t60 =>
 k t60 H)
 (p.bin .eql t15 (si 4) fun t62 =>
 D4 (fun (t1 t15 t61 : AV) (H : Ab) => p.cond t61
 (p.fadr 4 t1 fun t67 =>
 p.load false 1 t67 H fun t68 =>
 p.ca 4 109 [t68] H fun t69 H =>
 k t69 H)
 (p.bin .eql t15 (si 8) fun t71 =>
 D4 (fun (t1 t70 : AV) (H : Ab) => p.cond t70
 (p.fadr 4 t1 fun t74 =>
 p.load false 1 t74 H fun t75 =>
 p.ca 4 109 [t75] H fun t76 H =>
 p.gT t76 H (p.load true 25 t1 H) fun t78 H =>
 p.hT t76 H (p.ca 4 110 [t78] H) fun t79 H =>
 p.pick t76 t79 bF fun t80 =>
 k t80 H)
 (k bT H)) fun j4 =>
 p.cond t71
 (j4 t1 t71 H)
 (p.bin .eql t15 (si 9) fun t72 =>
 p.cond t72
 (j4 t1 t72 H)
 (p.bin .eql t15 (si 10) fun t73 =>
 j4 t1 t73 H)))) fun j3 =>
 p.cond t62
 (j3 t1 t15 t62 H)
 (p.bin .eql t15 (si 5) fun t63 =>
 p.cond t63
 (j3 t1 t15 t63 H)
 (p.bin .eql t15 (si 6) fun t64 =>
 p.cond t64
 (j3 t1 t15 t64 H)
 (p.bin .eql t15 (si 7) fun t65 =>
 p.cond t65
 (j3 t1 t15 t65 H)
 (p.bin .eql t15 (si 11) fun t66 =>
 j3 t1 t15 t66 H)))))))))
theorem Aht : Nh Ao6 @f70 := fun p n a0 H k => by kernel_rfl
noncomputable def f140 (n : Nat) (a0 a1 : AV) (H : Ab) (k : KO β) : Option β :=
 p.cond a0
 (k a1 H)
 (k i0 H)
theorem AeK : J6 AlO @f140 := fun p n a0 a1 H k => by kernel_rfl
noncomputable def f142 (n : Nat) (a0 a1 : AV) (H : Ab) (k : KO β) : Option β :=
 p.bin .shr a1 (.sc (.int .u64 8)) fun t7 =>
 p.bin .and t7 (si 255) fun t8 =>
 p.cvI .u8 t8 fun t9 =>
 p.bin .and a1 (si 255) fun t11 =>
 p.cvI .u8 t11 fun t12 =>
 p.fill [(su 0), (su 0)] [(0, 1, t9), (1, 1, t12)] fun ct13 => p.newSl 2 1 ct13 true H fun t13 H =>
 p.fill [.nl, .nl] [(0, 1, a0), (1, 1, t13)] fun ct14 => p.newSl 2 1 ct14 true H fun t14 H =>
 p.ca 22 77 [t14] H fun t15 H =>
 k t15 H
theorem AeM : J6 AlQ @f142 := fun p n a0 a1 H k => by kernel_rfl
noncomputable def f141 (n : Nat) (a0 a1 : AV) (H : Ab) (k : KO β) : Option β :=
 p.ca 4 135 [a1] H fun t6 H =>
 p.un .not t6 fun t7 =>
 p.cond t7
 (p.fill [.nl] [(0, 1, a0)] fun ct9 => p.newSl 1 1 ct9 true H fun t9 H =>
 p.ca 22 77 [t9] H fun t10 H =>
 k t10 H)
 (p.lenS a1 fun t13 =>
 p.ca 22 142 [a0, t13] H fun t14 H =>
 p.cvSB a1 H fun t16 H =>
 p.fill [.nl, .nl] [(0, 1, t14), (1, 1, t16)] fun ct17 => p.newSl 2 1 ct17 true H fun t17 H =>
 p.ca 22 77 [t17] H fun t18 H =>
 k t18 H)
theorem AeL : J6 AlP @f141 := fun p n a0 a1 H k => by kernel_rfl
noncomputable def f151 (n : Nat) (a0 a1 : AV) (H : Ab) (k : KO β) : Option β :=
 p.len a1 fun t6 =>
 p.bin .gtr t6 (si 60) fun t7 =>
 p.cond t7
 (p.fill [.nl] [(0, 1, a0)] fun ct9 => p.newSl 1 1 ct9 true H fun t9 H =>
 p.ca 22 77 [t9] H fun t10 H =>
 k t10 H)
 (p.len a1 fun t13 =>
 p.ca 22 142 [a0, t13] H fun t14 H =>
 p.fill [.nl, .nl] [(0, 1, t14), (1, 1, a1)] fun ct16 => p.newSl 2 1 ct16 true H fun t16 H =>
 p.ca 22 77 [t16] H fun t17 H =>
 k t17 H)
theorem AeQ : J6 AlT @f151 := fun p n a0 a1 H k => by kernel_rfl
noncomputable def f139 (n : Nat) (a0 : AV) (H : Ab) (k : KO β) : Option β :=
 p.box a0 H fun t1 H =>
 p.fl 9 t1 1 H fun t6 =>
 p.fl 11 t1 1 H fun t9 =>
 p.fl 14 t1 1 H fun t13 =>
 p.bin .mul (si 8) t13 fun t14 =>
 p.fl 15 t1 1 H fun t17 =>
 p.fl 18 t1 1 H fun t21 =>
 p.fl 16 t1 1 H fun t25 =>
 p.ca 3 140 [t6, (si 2)] H fun t7 H =>
 p.ca 3 140 [t9, (si 4)] H fun t10 H =>
 p.bin .add t7 t10 fun t11 =>
 p.bin .add t11 t14 fun t15 =>
 p.ca 3 140 [t17, (si 32)] H fun t18 H =>
 p.bin .add t15 t18 fun t19 =>
 p.ca 3 140 [t21, (si 64)] H fun t22 H =>
 p.bin .add t19 t22 fun t23 =>
 p.ca 3 140 [t25, (si 128)] H fun t26 H =>
 p.bin .add t23 t26 fun t27 =>
 p.fl 8 t1 1 H fun t30 =>
 p.cvI .u8 t30 fun t31 =>
 p.cvI .u8 t27 fun t33 =>
 D4 (fun (t1 t4 : AV) (H : Ab) => p.fadr 10 t1 fun t37 =>
 p.load false 1 t37 H fun t38 =>
 p.fl 7 t1 1 H fun t41 =>
 p.ca 22 142 [t4, t38] H fun t39 H =>
 p.ca 22 141 [t39, t41] H fun t42 H =>
 p.fl 11 t1 1 H fun t44 =>
 D4 (fun (t1 t4 : AV) (H : Ab) => p.fadr 16 t1 fun t52 =>
 p.load false 1 t52 H fun t53 =>
 D4 (fun (t1 t4 : AV) (H : Ab) => p.fadr 18 t1 fun t58 =>
 p.load false 1 t58 H fun t59 =>
 D4 (fun (t4 : AV) (H : Ab) => k t4 H) fun j4 =>
 p.cond t59
 (p.fadr 19 t1 fun t61 =>
 p.load false 1 t61 H fun t62 =>
 p.ca 22 151 [t4, t62] H fun t63 H =>
 j4 t63 H)
 (j4 t4 H)) fun j3 =>
 p.cond t53
 (p.fadr 17 t1 fun t55 =>
 p.load false 1 t55 H fun t56 =>
 p.ca 22 141 [t4, t56] H fun t57 H =>
 j3 t1 t57 H)
 (j3 t1 t4 H)) fun j2 =>
 p.cond t44
 (p.fadr 12 t1 fun t46 =>
 p.load false 1 t46 H fun t47 =>
 p.fl 13 t1 1 H fun t50 =>
 p.ca 22 141 [t42, t47] H fun t48 H =>
 p.ca 22 151 [t48, t50] H fun t51 H =>
 j2 t1 t51 H)
 (j2 t1 t42 H)) fun j1 =>
 p.both
 (p.ca 22 141 [.nl, (.sc (.string ⟨#[77, 81, 84, 84]⟩))] H fun t28 H =>
 p.fill [(su 0), (su 0)] [(0, 1, t31), (1, 1, t33)] fun ct34 => p.newSl 2 1 ct34 true H fun t34 H =>
 p.app 1 1 t28 t34 H fun t35 H =>
 j1 t1 t35 H)
 (p.fill [(su 0), (su 0)] [(0, 1, t31), (1, 1, t33)] fun ct34 => p.newSl 2 1 ct34 true H fun t34 H =>
 p.ca 22 141 [.nl, (.sc (.string ⟨#[77, 81, 84, 84]⟩))] H fun t28 H =>
 p.app 1 1 t28 t34 H fun t35 H =>
 j1 t1 t35 H)
theorem AeJ : Nh AlN @f139 := fun p n a0 H k => by kernel_rfl
noncomputable def Of (p : Pr β) (n : Nat)  (k : KO β) : Nat → AV → AV → AV → KO β
 | 0, _, _, _, _, _ => none
 | m + 1, t3, t85, t86, t87, H => p.bin .lss t87 t86 fun t88 =>
   p.cond t88
   (p.iadr 1 t85 t87 fun t89 =>
   p.load false 1 t89 H fun t90 =>
   p.ca 22 141 [t3, t90] H fun t93 H =>
   p.bin .add t87 (si 1) fun t94 =>
   Of p n  k m t93 t85 t86 t94 H)
   (k t3 H)
noncomputable def Ld (p : Pr β) (n : Nat)  (k : KO β) : Nat → AV → AV → AV → AV → KO β
 | 0, _, _, _, _, _, _ => none
 | m + 1, t1, t3, t72, t73, t74, H => p.bin .lss t74 t73 fun t75 =>
   p.cond t75
   (p.iadr 1 t72 t74 fun t76 =>
   p.load false 1 t76 H fun t77 =>
   p.cvI .u8 t77 fun t80 =>
   p.fill [(su 0)] [(0, 1, t80)] fun ct81 => p.newSl 1 1 ct81 true H fun t81 H =>
   p.app 1 1 t3 t81 H fun t82 H =>
   p.bin .add t74 (si 1) fun t83 =>
   Ld p n  k m t1 t82 t72 t73 t83 H)
   (p.fadr 23 t1 fun t84 =>
   p.load false 1 t84 H fun t85 =>
   p.len t85 fun t86 =>
   Of p n  k n t3 t85 t86 i0 H)
noncomputable def Lc (p : Pr β) (n : Nat)  (k : KO β) : Nat → AV → AV → AV → AV → KO β
 | 0, _, _, _, _, _, _ => none
 | m + 1, t1, t3, t55, t56, t57, H => p.bin .lss t57 t56 fun t58 =>
   p.cond t58
   (p.iadr 2 t55 t57 fun t59 =>
   p.load true 2 t59 H fun t60 =>
   p.new [sE, i0] H fun t5 H =>
   p.store 2 t5 t60 H fun H =>
   p.fl 0 t5 1 H fun t63 =>
   p.fl 1 t5 1 H fun t66 =>
   p.cvI .u8 t66 fun t67 =>
   D4 (fun (t1 t3 t55 t56 t57 : AV) (H : Ab) => p.bin .add t57 (si 1) fun t70 =>
   Lc p n  k m t1 t3 t55 t56 t70 H) fun j1 =>
   p.both
   (p.ca 22 141 [t3, t63] H fun t64 H =>
   p.fill [(su 0)] [(0, 1, t67)] fun ct68 => p.newSl 1 1 ct68 true H fun t68 H =>
   p.app 1 1 t64 t68 H fun t69 H =>
   j1 t1 t69 t55 t56 t57 H)
   (p.fill [(su 0)] [(0, 1, t67)] fun ct68 => p.newSl 1 1 ct68 true H fun t68 H =>
   p.ca 22 141 [t3, t63] H fun t64 H =>
   p.app 1 1 t64 t68 H fun t69 H =>
   j1 t1 t69 t55 t56 t57 H))
   (p.fadr 24 t1 fun t71 =>
   p.load false 1 t71 H fun t72 =>
   p.len t72 fun t73 =>
   Ld p n  k n t1 t3 t72 t73 i0 H)
noncomputable def f111 (n : Nat) (a0 : AV) (H : Ab) (k : KO β) : Option β :=
 p.box a0 H fun t1 H =>
 p.fl 0 t1 1 H fun t12 =>
 p.bin .eql t12 (si 1) fun t14 =>
 D4 (fun (t1 t3 : AV) (H : Ab) => p.fadr 4 t1 fun t51 =>
 p.load false 1 t51 H fun t52 =>
 p.ca 22 142 [t3, t52] H fun t53 H =>
 p.fl 22 t1 1 H fun t55 =>
 p.len t55 fun t56 =>
 Lc p n  k n t1 t53 t55 t56 i0 H) fun j1 =>
 p.cond t14
 (p.load true 25 t1 H fun t15 =>
 p.ca 22 139 [t15] H fun t16 H =>
 k t16 H)
 (p.bin .eql t12 (si 2) fun t18 =>
 p.cond t18
 (p.fadr 21 t1 fun t19 =>
 p.load false 1 t19 H fun t20 =>
 p.fl 20 t1 1 H fun t24 =>
 p.cvI .u8 t24 fun t25 =>
 p.ca 3 140 [t20, (si 1)] H fun t21 H =>
 p.cvI .u8 t21 fun t22 =>
 p.fill [(su 0), (su 0)] [(0, 1, t22), (1, 1, t25)] fun ct26 => p.newSl 2 1 ct26 true H fun t26 H =>
 k t26 H)
 (p.bin .eql t12 (si 3) fun t28 =>
 p.cond t28
 (p.fadr 5 t1 fun t30 =>
 p.load false 1 t30 H fun t31 =>
 p.ca 22 141 [.nl, t31] H fun t32 H =>
 p.fl 2 t1 1 H fun t34 =>
 p.bin .gtr t34 i0 fun t35 =>
 D4 (fun (t1 t3 : AV) (H : Ab) => p.fadr 6 t1 fun t41 =>
 p.load false 1 t41 H fun t42 =>
 p.fill [.nl, .nl] [(0, 1, t3), (1, 1, t42)] fun ct43 => p.newSl 2 1 ct43 true H fun t43 H =>
 p.ca 22 77 [t43] H fun t44 H =>
 k t44 H) fun j2 =>
 p.cond t35
 (p.fadr 4 t1 fun t37 =>
 p.load false 1 t37 H fun t38 =>
 p.ca 22 142 [t32, t38] H fun t39 H =>
 j2 t1 t39 H)
 (j2 t1 t32 H))
 (p.bin .eql t12 (si 12) fun t46 =>
 D4 (fun (t1 t3 t45 : AV) (H : Ab) => p.cond t45
 (k t3 H)
 (j1 t1 t3 H)) fun j3 =>
 p.cond t46
 (j3 t1 .nl t46 H)
 (p.bin .eql t12 (si 13) fun t47 =>
 p.cond t47
 (j3 t1 .nl t47 H)
 (p.bin .eql t12 (si 14) fun t48 =>
 j3 t1 .nl t48 H)))))
noncomputable def Ady (p : Pr β) (n : Nat)  (k : KO β) (m : Nat) (tm : Tm) (H : Ab) : Option β :=
 C7 96 (fun tm H k => Af Ak p Xg 96 n (cd Vy [1, 1, 1, 1, 1, 1, 0, 1, 0, 0]) tm H k) (Eb 5 (Dt (fun tm H => Af Ak p Xg 96 n (cd Vy [1, 1, 1, 1, 1, 1, 1]) tm H (B5 Ak p fi111.results k)) (B5 Ak p fi111.results k))) m tm H
noncomputable def Adx (p : Pr β) (n : Nat)  (k : KO β) (m : Nat) (tm : Tm) (H : Ab) : Option β :=
 C7 96 (fun tm H k => Af Ak p Xg 96 n (cd Vy [1, 1, 1, 1, 1, 0, 1, 0, 0]) tm H k) (Eb 3 (Dt (fun tm H => Af Ak p Xg 96 n (cd Vy [1, 1, 1, 1, 1, 1]) tm H (B5 Ak p fi111.results k)) (B5 Ak p fi111.results k))) m tm H
noncomputable def Adw (p : Pr β) (n : Nat)  (k : KO β) (m : Nat) (tm : Tm) (H : Ab) : Option β :=
 C7 96 (fun tm H k => Af Ak p Xg 96 n (cd Vy [1, 1, 1, 1, 0, 1, 0, 0]) tm H k) (Eb 1 (Dt (fun tm H => Af Ak p Xg 96 n (cd Vy [1, 1, 1, 1, 1]) tm H (B5 Ak p fi111.results k)) (B5 Ak p fi111.results k))) m tm H
theorem Wb (p : Pr β) (n : Nat)  (k : KO β) (m2 : Nat) : ∀ (t : Nat → AV) (H : Ab), Ady p n  k m2 (tf 96 0 t) H = Of p n  k m2 (t 3) (t 85) (t 86) (t 87) H := by
 induction m2 with
 | zero => intros; rfl
 | succ m2 ih =>
  intro t H
  refine Eq.trans (Bb (nt := 96) (m := m2) (g := fun t H => Of p n  k m2 (t 3) (t 85) (t 86) (t 87) H) ih rfl) ?_
  kernel_rfl
theorem Aak (p : Pr β) (n : Nat)  (k : KO β) (m1 : Nat) (t : Nat → AV) (H : Ab) : Af Ak p Xg 96 n (cd Vy [1, 1, 1, 1, 1, 0, 1, 0, 0]) (tf 96 0 t) H (Dt (fun tm H => Ld p n  k m1 (gt tm 1) (gt tm 3) (gt tm 72) (gt tm 73) (gt tm 74) H) (Eb 3 (Dt (fun tm H => Af Ak p Xg 96 n (cd Vy [1, 1, 1, 1, 1, 1]) tm H (B5 Ak p fi111.results k)) (B5 Ak p fi111.results k)))) =
 p.bin .lss (t 74) (t 73) fun t75 =>
 p.cond t75
 (p.iadr 1 (t 72) (t 74) fun t76 =>
 p.load false 1 t76 H fun t77 =>
 p.cvI .u8 t77 fun t80 =>
 p.fill [(su 0)] [(0, 1, t80)] fun ct81 => p.newSl 1 1 ct81 true H fun t81 H =>
 p.app 1 1 (t 3) t81 H fun t82 H =>
 p.bin .add (t 74) (si 1) fun t83 =>
 Ld p n  k m1 (t 1) t82 (t 72) (t 73) t83 H)
 (p.fadr 23 (t 1) fun t84 =>
 p.load false 1 t84 H fun t85 =>
 p.len t85 fun t86 =>
 Ady p n  k n (tf 96 0 (ud [(75, t75), (84, t84), (85, t85), (86, t86), (87, i0)] t)) H) := by kernel_rfl
theorem Wa (p : Pr β) (n : Nat)  (k : KO β) (m1 : Nat) : ∀ (t : Nat → AV) (H : Ab), Adx p n  k m1 (tf 96 0 t) H = Ld p n  k m1 (t 1) (t 3) (t 72) (t 73) (t 74) H := by
 induction m1 with
 | zero => intros; rfl
 | succ m1 ih =>
  intro t H
  refine Eq.trans (Bb (nt := 96) (m := m1) (g := fun t H => Ld p n  k m1 (t 1) (t 3) (t 72) (t 73) (t 74) H) ih rfl) ?_
  refine Eq.trans (Aak p n  k m1 t H) ?_
  simp only [Wb]
  kernel_rfl
theorem Aaj (p : Pr β) (n : Nat)  (k : KO β) (m0 : Nat) (t : Nat → AV) (H : Ab) : Af Ak p Xg 96 n (cd Vy [1, 1, 1, 1, 0, 1, 0, 0]) (tf 96 0 t) H (Dt (fun tm H => Lc p n  k m0 (gt tm 1) (gt tm 3) (gt tm 55) (gt tm 56) (gt tm 57) H) (Eb 1 (Dt (fun tm H => Af Ak p Xg 96 n (cd Vy [1, 1, 1, 1, 1]) tm H (B5 Ak p fi111.results k)) (B5 Ak p fi111.results k)))) =
 p.bin .lss (t 57) (t 56) fun t58 =>
 p.cond t58
 (p.iadr 2 (t 55) (t 57) fun t59 =>
 p.load true 2 t59 H fun t60 =>
 p.new [sE, i0] H fun t5 H =>
 p.store 2 t5 t60 H fun H =>
 p.fadr 0 t5 fun t62 =>
 p.load false 1 t62 H fun t63 =>
 p.fadr 1 t5 fun t65 =>
 p.load false 1 t65 H fun t66 =>
 p.cvI .u8 t66 fun t67 =>
 D4 (fun (t : Nat → AV) (H : Ab) => p.bin .add (t 57) (si 1) fun t70 =>
 Lc p n  k m0 (t 1) (t 3) (t 55) (t 56) t70 H) fun j1 =>
 p.both
 (p.call 22 (.fn 141 [] []) [(t 3), t63] H fun t64 H =>
 p.fill [(su 0)] [(0, 1, t67)] fun ct68 => p.newSl 1 1 ct68 true H fun t68 H =>
 p.app 1 1 t64 t68 H fun t69 H =>
 j1 (ud [(3, t69), (5, t5), (58, t58), (59, t59), (60, t60), (61, (t 3)), (62, t62), (63, t63), (64, t64), (65, t65), (66, t66), (67, t67), (68, t68), (69, t69)] t) H)
 (p.fill [(su 0)] [(0, 1, t67)] fun ct68 => p.newSl 1 1 ct68 true H fun t68 H =>
 p.call 22 (.fn 141 [] []) [(t 3), t63] H fun t64 H =>
 p.app 1 1 t64 t68 H fun t69 H =>
 j1 (ud [(3, t69), (5, t5), (58, t58), (59, t59), (60, t60), (61, (t 3)), (62, t62), (63, t63), (64, t64), (65, t65), (66, t66), (67, t67), (68, t68), (69, t69)] t) H))
 (p.fadr 24 (t 1) fun t71 =>
 p.load false 1 t71 H fun t72 =>
 p.len t72 fun t73 =>
 Adx p n  k n (tf 96 0 (ud [(58, t58), (71, t71), (72, t72), (73, t73), (74, i0)] t)) H) := by kernel_rfl
theorem Acu (p : Pr β) (n : Nat)  (k : KO β) (m0 : Nat) : ∀ (t : Nat → AV) (H : Ab), Adw p n  k m0 (tf 96 0 t) H = Lc p n  k m0 (t 1) (t 3) (t 55) (t 56) (t 57) H := by
 induction m0 with
 | zero => intros; rfl
 | succ m0 ih =>
  intro t H
  refine Eq.trans (Bb (nt := 96) (m := m0) (g := fun t H => Lc p n  k m0 (t 1) (t 3) (t 55) (t 56) (t 57) H) ih rfl) ?_
  refine Eq.trans (Aaj p n  k m0 t H) ?_
  simp only [Wa]
  kernel_rfl
theorem Agm (p : Pr β) (n : Nat) (a0 : AV) (H : Ab) (k : KO β) : Bw Ak p n fi111 [a0] H k =
 p.box a0 H fun t1 H =>
 p.fadr 0 t1 fun t11 =>
 p.load false 1 t11 H fun t12 =>
 p.bin .eql t12 (si 1) fun t14 =>
 D4 (fun (t : Nat → AV) (H : Ab) => p.fadr 4 (t 1) fun t51 =>
 p.load false 1 t51 H fun t52 =>
 p.call 22 (.fn 142 [] []) [(t 3), t52] H fun t53 H =>
 p.fadr 22 (t 1) fun t54 =>
 p.load false 1 t54 H fun t55 =>
 p.len t55 fun t56 =>
 Adw p n  k n (tf 96 0 (ud [(3, t53), (50, (t 3)), (51, t51), (52, t52), (53, t53), (54, t54), (55, t55), (56, t56), (57, i0)] t)) H) fun j1 =>
 p.cond t14
 (p.load true 25 t1 H fun t15 =>
 p.call 22 (.fn 139 [] []) [t15] H fun t16 H =>
 k t16 H)
 (p.bin .eql t12 (si 2) fun t18 =>
 p.cond t18
 (p.fadr 21 t1 fun t19 =>
 p.load false 1 t19 H fun t20 =>
 p.fadr 20 t1 fun t23 =>
 p.load false 1 t23 H fun t24 =>
 p.cvI .u8 t24 fun t25 =>
 p.call 3 (.fn 140 [] []) [t20, (si 1)] H fun t21 H =>
 p.cvI .u8 t21 fun t22 =>
 p.fill [(su 0), (su 0)] [(0, 1, t22), (1, 1, t25)] fun ct26 => p.newSl 2 1 ct26 true H fun t26 H =>
 k t26 H)
 (p.bin .eql t12 (si 3) fun t28 =>
 p.cond t28
 (p.fadr 5 t1 fun t30 =>
 p.load false 1 t30 H fun t31 =>
 p.call 22 (.fn 141 [] []) [.nl, t31] H fun t32 H =>
 p.fadr 2 t1 fun t33 =>
 p.load false 1 t33 H fun t34 =>
 p.bin .gtr t34 i0 fun t35 =>
 D4 (fun (t : Nat → AV) (H : Ab) => p.fadr 6 (t 1) fun t41 =>
 p.load false 1 t41 H fun t42 =>
 p.fill [.nl, .nl] [(0, 1, (t 3)), (1, 1, t42)] fun ct43 => p.newSl 2 1 ct43 true H fun t43 H =>
 p.call 22 (.fn 77 [] []) [t43] H fun t44 H =>
 k t44 H) fun j2 =>
 p.cond t35
 (p.fadr 4 t1 fun t37 =>
 p.load false 1 t37 H fun t38 =>
 p.call 22 (.fn 142 [] []) [t32, t38] H fun t39 H =>
 j2 (ud [(0, a0), (1, t1), (2, .nl), (3, t39), (10, .nl), (11, t11), (12, t12), (13, t14), (14, t14), (17, t18), (18, t18), (27, t28), (28, t28), (29, .nl), (30, t30), (31, t31), (32, t32), (33, t33), (34, t34), (35, t35), (36, t32), (37, t37), (38, t38), (39, t39)] ut) H)
 (j2 (ud [(0, a0), (1, t1), (2, .nl), (3, t32), (10, .nl), (11, t11), (12, t12), (13, t14), (14, t14), (17, t18), (18, t18), (27, t28), (28, t28), (29, .nl), (30, t30), (31, t31), (32, t32), (33, t33), (34, t34), (35, t35)] ut) H))
 (p.bin .eql t12 (si 12) fun t46 =>
 D4 (fun (t : Nat → AV) (H : Ab) => p.cond (t 45)
 (k (t 3) H)
 (j1 t H)) fun j3 =>
 p.cond t46
 (j3 (ud [(0, a0), (1, t1), (2, .nl), (3, .nl), (10, .nl), (11, t11), (12, t12), (13, t14), (14, t14), (17, t18), (18, t18), (27, t28), (28, t28), (45, t46), (46, t46)] ut) H)
 (p.bin .eql t12 (si 13) fun t47 =>
 p.cond t47
 (j3 (ud [(0, a0), (1, t1), (2, .nl), (3, .nl), (10, .nl), (11, t11), (12, t12), (13, t14), (14, t14), (17, t18), (18, t18), (27, t28), (28, t28), (45, t47), (46, t46), (47, t47)] ut) H)
 (p.bin .eql t12 (si 14) fun t48 =>
 j3 (ud [(0, a0), (1, t1), (2, .nl), (3, .nl), (10, .nl), (11, t11), (12, t12), (13, t14), (14, t14), (17, t18), (18, t18), (27, t28), (28, t28), (45, t48), (46, t46), (47, t47), (48, t48)] ut) H))))) := by kernel_rfl
theorem Ae2 : Nh fi111 @f111 := fun p n a0 H k => by
 rw [Agm]
 simp only [Wb, Wa, Acu]
 kernel_rfl
noncomputable def f113 (n : Nat) (a0 : AV) (H : Ab) (k : KO β) : Option β :=
 p.box a0 H fun t1 H =>
 p.fl 0 t1 1 H fun t5 =>
 p.bin .mul (si 16) t5 fun t6 =>
 p.fl 0 t1 1 H fun t8 =>
 p.bin .eql t8 (si 3) fun t10 =>
 p.cond t10
 (p.fadr 1 t1 fun t12 =>
 p.load false 1 t12 H fun t13 =>
 p.fl 2 t1 1 H fun t16 =>
 p.bin .mul (si 2) t16 fun t17 =>
 p.fl 3 t1 1 H fun t20 =>
 p.ca 3 140 [t13, (si 8)] H fun t14 H =>
 p.bin .add t14 t17 fun t18 =>
 p.ca 3 140 [t20, (si 1)] H fun t21 H =>
 p.bin .add t18 t21 fun t22 =>
 p.bin .add t6 t22 fun t23 =>
 k t23 H)
 (p.bin .eql t8 (si 6) fun t25 =>
 D4 (fun (t3 t24 : AV) (H : Ab) => p.cond t24
 (p.bin .add t3 (si 2) fun t29 =>
 k t29 H)
 (k t3 H)) fun j1 =>
 p.cond t25
 (j1 t6 t25 H)
 (p.bin .eql t8 (si 8) fun t26 =>
 p.cond t26
 (j1 t6 t26 H)
 (p.bin .eql t8 (si 10) fun t27 =>
 j1 t6 t27 H)))
theorem Ae4 : Nh AlF @f113 := fun p n a0 H k => by kernel_rfl
noncomputable def Mx (p : Pr β) (n : Nat)  (k : KO β) : Nat → AV → KO β
 | 0, _, _, _ => none
 | m + 1, t1, t5, H => p.bin .gtr t1 (si 127) fun t14 =>
   p.cond t14
   (p.bin .rem t1 (si 128) fun t17 =>
   p.bin .add t17 (si 128) fun t18 =>
   p.cvI .u8 t18 fun t19 =>
   p.fill [(su 0)] [(0, 1, t19)] fun ct20 => p.newSl 1 1 ct20 true H fun t20 H =>
   p.app 1 1 t5 t20 H fun t21 H =>
   p.bin .quo t1 (si 128) fun t23 =>
   Mx p n  k m t23 t21 H)
   (p.cvI .u8 t1 fun t26 =>
   p.fill [(su 0)] [(0, 1, t26)] fun ct27 => p.newSl 1 1 ct27 true H fun t27 H =>
   p.app 1 1 t5 t27 H fun t28 H =>
   k t28 H)
noncomputable def f112 (n : Nat) (a0 a1 : AV) (H : Ab) (k : KO β) : Option β :=
 p.fill [.nl] [(0, 1, a0)] fun ct7 => p.newSl 1 1 ct7 true H fun t7 H =>
 p.ca 22 77 [t7] H fun t8 H =>
 p.ca 4 98 [a1, i0, (si 268435455)] H fun t10 H =>
 p.un .not t10 fun t11 =>
 p.cond t11
 (k t8 H)
 (Mx p n  k n a1 t8 H)
noncomputable def Adz (p : Pr β) (n : Nat)  (k : KO β) (m : Nat) (tm : Tm) (H : Ab) : Option β :=
 C7 29 (fun tm H k => Af Ak p [] 29 n (cd Amr [1, 1, 1, 0, 0, 0]) tm H k) (Eb 0 (Dt (fun tm H => Af Ak p [] 29 n (cd Amr [1, 1, 1, 1]) tm H (B5 Ak p fi112.results k)) (B5 Ak p fi112.results k))) m tm H
theorem Acv (p : Pr β) (n : Nat)  (k : KO β) (m0 : Nat) : ∀ (t : Nat → AV) (H : Ab), Adz p n  k m0 (tf 29 0 t) H = Mx p n  k m0 (t 1) (t 5) H := by
 induction m0 with
 | zero => intros; rfl
 | succ m0 ih =>
  intro t H
  refine Eq.trans (Bb (nt := 29) (m := m0) (g := fun t H => Mx p n  k m0 (t 1) (t 5) H) ih rfl) ?_
  kernel_rfl
theorem Agn (p : Pr β) (n : Nat) (a0 a1 : AV) (H : Ab) (k : KO β) : Bw Ak p n fi112 [a0, a1] H k =
 p.fill [.nl] [(0, 1, a0)] fun ct7 => p.newSl 1 1 ct7 true H fun t7 H =>
 p.call 22 (.fn 77 [] []) [t7] H fun t8 H =>
 p.call 4 (.fn 98 [] []) [a1, i0, (si 268435455)] H fun t10 H =>
 p.un .not t10 fun t11 =>
 p.cond t11
 (k t8 H)
 (Adz p n  k n (tf 29 0 (ud [(0, a0), (1, a1), (4, .nl), (5, t8), (6, a0), (7, t7), (8, t8), (9, a1), (10, t10), (11, t11)] ut)) H) := by kernel_rfl
theorem Ae3 : J6 fi112 @f112 := fun p n a0 a1 H k => by
 rw [Agn]
 simp only [Acv]
 kernel_rfl
noncomputable def f72 (n : Nat) (a0 : AV) (H : Ab) (k : KO β) : Option β :=
 p.box a0 H fun t1 H =>
 p.load true 25 t1 H fun t4 =>
 p.ca 4 70 [t4] H fun t5 H =>
 p.un .not t5 fun t6 =>
 p.cond t6
 (k .nl H)
 (p.load true 25 t1 H fun t7 =>
 p.ca 22 111 [t7] H fun t8 H =>
 p.load true 25 t1 H fun t9 =>
 p.ca 3 113 [t9] H fun t10 H =>
 p.cvI .u8 t10 fun t11 =>
 p.fill [(su 0)] [(0, 1, t11)] fun ct12 => p.newSl 1 1 ct12 true H fun t12 H =>
 p.len t8 fun t14 =>
 p.ca 22 112 [t12, t14] H fun t15 H =>
 p.fill [.nl, .nl] [(0, 1, t15), (1, 1, t8)] fun ct17 => p.newSl 2 1 ct17 true H fun t17 H =>
 p.ca 22 77 [t17] H fun t18 H =>
 k t18 H)
theorem Ahv : Nh Ao8 @f72 := fun p n a0 H k => by kernel_rfl
noncomputable def f33 (n : Nat) (a0 : AV) (H : Ab) (k : KO β) : Option β :=
 p.new Ed H fun t2 H =>
 p.len a0 fun t10 =>
 p.bin .eql t10 i0 fun t11 =>
 p.cond t11
 (p.fill Ed [] fun ct12 =>
 p.store 25 t2 (.agg ct12) H fun H =>
 p.load true 25 t2 H fun r0 =>
 k (Cj [r0, i0, (si 1)]) H)
 (p.iadr 1 a0 i0 fun t14 =>
 p.load false 1 t14 H fun t15 =>
 p.cvI .i64 t15 fun t16 =>
 p.ca 4 67 [t16] H fun t17 H =>
 p.un .not t17 fun t18 =>
 p.cond t18
 (p.fill Ed [] fun ct19 =>
 p.store 25 t2 (.agg ct19) H fun H =>
 p.load true 25 t2 H fun r0 =>
 k (Cj [r0, i0, (si 2)]) H)
 (p.ca 85 68 [a0, (si 1)] H fun t22 H =>
 p.extr t22 0 fun t23 =>
 p.extr t22 1 fun t24 =>
 p.extr t22 2 fun t25 =>
 p.bin .neq t25 i0 fun t28 =>
 p.cond t28
 (p.fill Ed [] fun ct29 =>
 p.store 25 t2 (.agg ct29) H fun H =>
 p.load true 25 t2 H fun r0 =>
 k (Cj [r0, i0, t25]) H)
 (p.bin .gtr t23 (si 340) fun t33 =>
 p.cond t33
 (p.fill Ed [] fun ct34 =>
 p.store 25 t2 (.agg ct34) H fun H =>
 p.load true 25 t2 H fun r0 =>
 k (Cj [r0, i0, (si 2)]) H)
 (p.len a0 fun t38 =>
 p.bin .sub t38 t24 fun t40 =>
 p.bin .gtr t23 t40 fun t41 =>
 p.cond t41
 (p.fill Ed [] fun ct42 =>
 p.store 25 t2 (.agg ct42) H fun H =>
 p.load true 25 t2 H fun r0 =>
 k (Cj [r0, i0, (si 1)]) H)
 (p.iadr 1 a0 i0 fun t44 =>
 p.load false 1 t44 H fun t45 =>
 p.cvI .i64 t45 fun t46 =>
 p.bin .add t24 t23 fun t51 =>
 p.slice 1 a0 (some t24) (some t51) fun t52 =>
 D4 (fun (t0 t2 t5 t6 t8 : AV) (H : Ab) => p.load true 25 t8 H fun t54 =>
 p.ca 4 70 [t54] H fun t55 H =>
 p.un .not t55 fun t56 =>
 p.gF t56 H (p.load true 25 t8 H) fun t58 H =>
 p.kF t56 H t0 fun t60 H =>
 p.kF t56 H t6 fun t61 H =>
 p.kF t56 H t5 fun t62 H =>
 p.gF t56 H (p.bin .add t61 t62) fun t63 H =>
 p.gF t56 H (p.slice 1 t60 none (some t63)) fun t64 H =>
 p.hF t56 H (p.ca 22 72 [t58] H) fun t59 H =>
 p.hF t56 H (p.ca 4 71 [t59, t64] H) fun t65 H =>
 p.gF t56 H (p.un .not t65) fun t66 H =>
 p.pick t56 bT t66 fun t67 =>
 p.cond t67
 (p.fill Ed [] fun ct68 =>
 p.store 25 t2 (.agg ct68) H fun H =>
 p.load true 25 t2 H fun r0 =>
 k (Cj [r0, i0, (si 2)]) H)
 (p.load true 25 t8 H fun t69 =>
 p.bin .add t6 t5 fun t72 =>
 p.store 25 t2 t69 H fun H =>
 p.load true 25 t2 H fun r0 =>
 k (Cj [r0, t72, i0]) H)) fun j1 =>
 p.both
 (p.ca 59 69 [t46, t52] H fun t53 H =>
 p.new Ed H fun t8 H =>
 p.store 25 t8 t53 H fun H =>
 j1 a0 t2 t23 t24 t8 H)
 (p.new Ed H fun t8 H =>
 p.ca 59 69 [t46, t52] H fun t53 H =>
 p.store 25 t8 t53 H fun H =>
 j1 a0 t2 t23 t24 t8 H))))))
theorem AgC : Nh Aow @f33 := fun p n a0 H k => by kernel_rfl
noncomputable def f30 (n : Nat) (a0 : AV) (H : Ab) (k : KO β) : Option β :=
 p.box a0 H fun t1 H =>
 p.fl 0 t1 1 H fun t8 =>
 p.ca 60 33 [t8] H fun t9 H =>
 p.extr t9 0 fun t10 =>
 p.extr t9 1 fun t11 =>
 p.extr t9 2 fun t12 =>
 p.new Ed H fun t3 H =>
 p.store 25 t3 t10 H fun H =>
 p.fl 0 t1 1 H fun t14 =>
 p.len t14 fun t15 =>
 p.bin .eql t15 i0 fun t16 =>
 p.lF t16 H 1 t1 1 fun t19 H =>
 p.gF t16 H (p.un .not t19) fun t20 H =>
 p.kF t16 H t20 fun t21 H =>
 p.kT t21 H t12 fun t22 H =>
 p.gT t21 H (p.bin .eql t22 (si 1)) fun t23 H =>
 p.gF t16 H (p.pick t21 t23 bF) fun t24 H =>
 p.pick t16 bT t24 fun t25 =>
 k t25 H
theorem Ag8 : Nh Aou @f30 := fun p n a0 H k => by kernel_rfl
noncomputable def f52 (n : Nat) (a0 : AV) (H : Ab) (k : KO β) : Option β :=
 p.box a0 H fun t1 H =>
 p.new [.nl, bF] H fun t2 H =>
 p.fl 0 t1 1 H fun t4 =>
 p.fl 1 t1 1 H fun t8 =>
 p.fill [.nl] [(0, 1, t4)] fun ct5 => p.newSl 1 1 ct5 true H fun t5 H =>
 p.ca 22 77 [t5] H fun t6 H =>
 p.fill [.nl, bF] [(0, 1, t6), (1, 1, t8)] fun ct9 =>
 p.store 2 t2 (.agg ct9) H fun H =>
 p.load true 2 t2 H fun r0 =>
 k r0 H
theorem AgN : Nh Ao1 @f52 := fun p n a0 H k => by kernel_rfl
noncomputable def Tg (p : Pr β) (n : Nat)  (k : KO β) : Nat → AV → AV → KO β
 | 0, _, _, _, _ => none
 | m + 1, t0, t5, t6, H => p.len t0 fun t13 =>
   p.bin .lss t6 t13 fun t14 =>
   p.cond t14
   (p.slice 1 t0 (some t6) none fun t18 =>
   p.ca 60 33 [t18] H fun t19 H =>
   p.extr t19 0 fun t20 =>
   p.extr t19 1 fun t21 =>
   p.extr t19 2 fun t22 =>
   p.new Ed H fun t7 H =>
   p.store 25 t7 t20 H fun H =>
   p.bin .neq t22 i0 fun t24 =>
   p.cond t24
   (k (Cj [t5, t22, t6]) H)
   (p.load true 25 t7 H fun t29 =>
   p.fill Ed [(0, 25, t29)] fun ct30 => p.newSl 1 25 ct30 true H fun t30 H =>
   p.app 25 320 t5 t30 H fun t31 H =>
   p.bin .add t6 t21 fun t34 =>
   Tg p n  k m t0 t31 t34 H))
   (k (Cj [t5, i0, t6]) H)
noncomputable def f76 (n : Nat) (a0 : AV) (H : Ab) (k : KO β) : Option β :=
 Tg p n  k n a0 .nl i0 H
noncomputable def Ah2 (p : Pr β) (n : Nat)  (k : KO β) (m : Nat) (tm : Tm) (H : Ab) : Option β :=
 C7 37 (fun tm H k => Af Ak p [] 37 n (cd c76 [1, 1, 1, 0, 0, 0]) tm H k) (Eb 0 (Dt (fun tm H => Af Ak p [] 37 n (cd c76 [1, 1, 1, 1]) tm H (B5 Ak p fi76.results k)) (B5 Ak p fi76.results k))) m tm H
theorem Afq (p : Pr β) (n : Nat)  (k : KO β) (m0 : Nat) : ∀ (t : Nat → AV) (H : Ab), Ah2 p n  k m0 (tf 37 0 t) H = Tg p n  k m0 (t 0) (t 5) (t 6) H := by
 induction m0 with
 | zero => intros; rfl
 | succ m0 ih =>
  intro t H
  refine Eq.trans (Bb (nt := 37) (m := m0) (g := fun t H => Tg p n  k m0 (t 0) (t 5) (t 6) H) ih rfl) ?_
  kernel_rfl
theorem Akp (p : Pr β) (n : Nat) (a0 : AV) (H : Ab) (k : KO β) : Bw Ak p n fi76 [a0] H k =
 Ah2 p n  k n (tf 37 0 (ud [(0, a0), (2, .nl), (3, i0), (4, i0), (5, .nl), (6, i0), (10, .nl)] ut)) H := by kernel_rfl
theorem Ah3 : Nh fi76 @f76 := fun p n a0 H k => by
 rw [Akp]
 simp only [Afq]
 kernel_rfl
noncomputable def f42 (n : Nat) (a0 a1 : AV) (H : Ab) (k : KO β) : Option β :=
 p.box a0 H fun t2 H =>
 p.new [.nl, bF] H fun t4 H =>
 p.load true 2 t2 H fun t10 =>
 p.ca 4 30 [t10] H fun t11 H =>
 p.un .not t11 fun t12 =>
 p.lF t12 H 1 t2 1 fun t15 H =>
 p.pick t12 bT t15 fun t16 =>
 p.cond t16
 (p.load true 2 t2 H fun t17 =>
 p.ca 32 52 [t17] H fun t18 H =>
 p.store 2 t4 t18 H fun H =>
 p.load true 2 t4 H fun r0 =>
 k (Cj [r0, .nl]) H)
 (p.fadr 0 t2 fun t19 =>
 p.load false 1 t19 H fun t20 =>
 p.fill [.nl, .nl] [(0, 1, t20), (1, 1, a1)] fun ct22 => p.newSl 2 1 ct22 true H fun t22 H =>
 p.ca 22 77 [t22] H fun t23 H =>
 p.ca 93 76 [t23] H fun t26 H =>
 p.extr t26 0 fun t27 =>
 p.extr t26 1 fun t28 =>
 p.extr t26 2 fun t29 =>
 p.bin .eql t28 (si 2) fun t31 =>
 p.cond t31
 (p.fill [.nl, bF] [(1, 1, bT)] fun ct32 =>
 p.store 2 t4 (.agg ct32) H fun H =>
 p.load true 2 t4 H fun r0 =>
 k (Cj [r0, t27]) H)
 (p.slice 1 t23 (some t29) none fun t36 =>
 p.fill [.nl] [(0, 1, t36)] fun ct37 => p.newSl 1 1 ct37 true H fun t37 H =>
 p.ca 22 77 [t37] H fun t38 H =>
 p.fill [.nl, bF] [(0, 1, t38)] fun ct39 =>
 p.store 2 t4 (.agg ct39) H fun H =>
 p.load true 2 t4 H fun r0 =>
 k (Cj [r0, t27]) H))
theorem AgK : J6 Aoy @f42 := fun p n a0 a1 H k => by kernel_rfl
noncomputable def Wg (p : Pr β) (n : Nat)  (k : KO β) : Nat → AV → AV → KO β
 | 0, _, _, _, _ => none
 | m + 1, t0, t1, t5, H => p.len t0 fun t13 =>
   p.bin .lss t5 t13 fun t14 =>
   p.cond t14
   (p.iadr 1 t0 t5 fun t19 =>
   p.load false 1 t19 H fun t20 =>
   p.iadr 1 t1 t5 fun t23 =>
   p.load false 1 t23 H fun t24 =>
   p.bin .neq t20 t24 fun t25 =>
   p.cond t25
   (k bF H)
   (p.bin .add t5 (si 1) fun t16 =>
   Wg p n  k m t0 t1 t16 H))
   (k bT H)
noncomputable def f35 (n : Nat) (a0 a1 : AV) (H : Ab) (k : KO β) : Option β :=
 p.len a0 fun t7 =>
 p.len a1 fun t9 =>
 p.bin .neq t7 t9 fun t10 =>
 p.cond t10
 (k bF H)
 (Wg p n  k n a0 a1 i0 H)
noncomputable def AgE (p : Pr β) (n : Nat)  (k : KO β) (m : Nat) (tm : Tm) (H : Ab) : Option β :=
 C7 26 (fun tm H k => Af Ak p o35 26 n (cd c35 [1, 1, 0, 1, 0, 0]) tm H k) (Eb 0 (Dt (fun tm H => Af Ak p o35 26 n (cd c35 [1, 1, 1]) tm H (B5 Ak p fi35.results k)) (B5 Ak p fi35.results k))) m tm H
theorem AeV (p : Pr β) (n : Nat)  (k : KO β) (m0 : Nat) : ∀ (t : Nat → AV) (H : Ab), AgE p n  k m0 (tf 26 0 t) H = Wg p n  k m0 (t 0) (t 1) (t 5) H := by
 induction m0 with
 | zero => intros; rfl
 | succ m0 ih =>
  intro t H
  refine Eq.trans (Bb (nt := 26) (m := m0) (g := fun t H => Wg p n  k m0 (t 0) (t 1) (t 5) H) ih rfl) ?_
  kernel_rfl
theorem AjW (p : Pr β) (n : Nat) (a0 a1 : AV) (H : Ab) (k : KO β) : Bw Ak p n fi35 [a0, a1] H k =
 p.len a0 fun t7 =>
 p.len a1 fun t9 =>
 p.bin .neq t7 t9 fun t10 =>
 p.cond t10
 (k bF H)
 (AgE p n  k n (tf 26 0 (ud [(0, a0), (1, a1), (4, bF), (5, i0), (6, a0), (7, t7), (8, a1), (9, t9), (10, t10)] ut)) H) := by kernel_rfl
theorem AgF : J6 fi35 @f35 := fun p n a0 a1 H k => by
 rw [AjW]
 simp only [AeV]
 kernel_rfl
noncomputable def f21 (n : Nat) (a0 a1 : AV) (H : Ab) (k : KO β) : Option β :=
 p.box a0 H fun t2 H =>
 p.box a1 H fun t3 H =>
 p.fadr 0 t2 fun t5 =>
 p.load false 1 t5 H fun t6 =>
 p.fadr 0 t3 fun t7 =>
 p.load false 1 t7 H fun t8 =>
 p.call 4 (.fn 35 [] []) [t6, t8] H fun t9 H =>
 p.un .not t9 fun t10 =>
 p.cond t10
 (k bF H)
 (p.fadr 1 t2 fun t11 =>
 p.load false 1 t11 H fun t12 =>
 p.fadr 1 t3 fun t13 =>
 p.load false 1 t13 H fun t14 =>
 p.binB .neq t12 t14 fun t15 =>
 p.cond t15
 (k bF H)
 (k bT H))
theorem Agy : J6 Aoq @f21 := fun p n a0 a1 H k => by kernel_rfl
noncomputable def f114 (n : Nat) (a0 a1 : AV) (H : Ab) (k : KO β) : Option β :=
 p.box a0 H fun t2 H =>
 p.box a1 H fun t3 H =>
 p.fadr 0 t2 fun t5 =>
 p.load false 1 t5 H fun t6 =>
 p.fadr 0 t3 fun t7 =>
 p.load false 1 t7 H fun t8 =>
 p.bin .neq t6 t8 fun t9 =>
 p.cond t9
 (k bF H)
 (p.fadr 1 t2 fun t10 =>
 p.load false 1 t10 H fun t11 =>
 p.fadr 1 t3 fun t12 =>
 p.load false 1 t12 H fun t13 =>
 p.bin .neq t11 t13 fun t14 =>
 p.cond t14
 (k bF H)
 (k bT H))
theorem Ae5 : J6 AlG @f114 := fun p n a0 a1 H k => by kernel_rfl
noncomputable def Wq (p : Pr β) (n : Nat)  (k : KO β) : Nat → AV → AV → KO β
 | 0, _, _, _, _ => none
 | m + 1, t0, t1, t5, H => p.len t0 fun t13 =>
   p.bin .lss t5 t13 fun t14 =>
   p.cond t14
   (p.iadr 2 t0 t5 fun t19 =>
   p.load true 2 t19 H fun t20 =>
   p.iadr 2 t1 t5 fun t23 =>
   p.load true 2 t23 H fun t24 =>
   p.call 4 (.fn 114 [] []) [t20, t24] H fun t25 H =>
   p.un .not t25 fun t26 =>
   p.cond t26
   (k bF H)
   (p.bin .add t5 (si 1) fun t16 =>
   Wq p n  k m t0 t1 t16 H))
   (k bT H)
noncomputable def f73 (n : Nat) (a0 a1 : AV) (H : Ab) (k : KO β) : Option β :=
 p.len a0 fun t7 =>
 p.len a1 fun t9 =>
 p.bin .neq t7 t9 fun t10 =>
 p.cond t10
 (k bF H)
 (Wq p n  k n a0 a1 i0 H)
noncomputable def Ahw (p : Pr β) (n : Nat)  (k : KO β) (m : Nat) (tm : Tm) (H : Ab) : Option β :=
 C7 27 (fun tm H k => Af Ak p o73 27 n (cd c73 [1, 1, 0, 1, 0, 0]) tm H k) (Eb 0 (Dt (fun tm H => Af Ak p o73 27 n (cd c73 [1, 1, 1]) tm H (B5 Ak p fi73.results k)) (B5 Ak p fi73.results k))) m tm H
theorem Afn (p : Pr β) (n : Nat)  (k : KO β) (m0 : Nat) : ∀ (t : Nat → AV) (H : Ab), Ahw p n  k m0 (tf 27 0 t) H = Wq p n  k m0 (t 0) (t 1) (t 5) H := by
 induction m0 with
 | zero => intros; rfl
 | succ m0 ih =>
  intro t H
  refine Eq.trans (Bb (nt := 27) (m := m0) (g := fun t H => Wq p n  k m0 (t 0) (t 1) (t 5) H) ih rfl) ?_
  kernel_rfl
theorem Akm (p : Pr β) (n : Nat) (a0 a1 : AV) (H : Ab) (k : KO β) : Bw Ak p n fi73 [a0, a1] H k =
 p.len a0 fun t7 =>
 p.len a1 fun t9 =>
 p.bin .neq t7 t9 fun t10 =>
 p.cond t10
 (k bF H)
 (Ahw p n  k n (tf 27 0 (ud [(0, a0), (1, a1), (4, bF), (5, i0), (6, a0), (7, t7), (8, a1), (9, t9), (10, t10)] ut)) H) := by kernel_rfl
theorem Ahx : J6 fi73 @f73 := fun p n a0 a1 H k => by
 rw [Akm]
 simp only [Afn]
 kernel_rfl
noncomputable def Wr (p : Pr β) (n : Nat)  (k : KO β) : Nat → AV → AV → KO β
 | 0, _, _, _, _ => none
 | m + 1, t0, t1, t5, H => p.len t0 fun t13 =>
   p.bin .lss t5 t13 fun t14 =>
   p.cond t14
   (p.iadr 1 t0 t5 fun t19 =>
   p.load false 1 t19 H fun t20 =>
   p.iadr 1 t1 t5 fun t23 =>
   p.load false 1 t23 H fun t24 =>
   p.bin .neq t20 t24 fun t25 =>
   p.cond t25
   (k bF H)
   (p.bin .add t5 (si 1) fun t16 =>
   Wr p n  k m t0 t1 t16 H))
   (k bT H)
noncomputable def f74 (n : Nat) (a0 a1 : AV) (H : Ab) (k : KO β) : Option β :=
 p.len a0 fun t7 =>
 p.len a1 fun t9 =>
 p.bin .neq t7 t9 fun t10 =>
 p.cond t10
 (k bF H)
 (Wr p n  k n a0 a1 i0 H)
noncomputable def Ahy (p : Pr β) (n : Nat)  (k : KO β) (m : Nat) (tm : Tm) (H : Ab) : Option β :=
 C7 26 (fun tm H k => Af Ak p o74 26 n (cd c74 [1, 1, 0, 1, 0, 0]) tm H k) (Eb 0 (Dt (fun tm H => Af Ak p o74 26 n (cd c74 [1, 1, 1]) tm H (B5 Ak p fi74.results k)) (B5 Ak p fi74.results k))) m tm H
theorem Afo (p : Pr β) (n : Nat)  (k : KO β) (m0 : Nat) : ∀ (t : Nat → AV) (H : Ab), Ahy p n  k m0 (tf 26 0 t) H = Wr p n  k m0 (t 0) (t 1) (t 5) H := by
 induction m0 with
 | zero => intros; rfl
 | succ m0 ih =>
  intro t H
  refine Eq.trans (Bb (nt := 26) (m := m0) (g := fun t H => Wr p n  k m0 (t 0) (t 1) (t 5) H) ih rfl) ?_
  kernel_rfl
theorem Akn (p : Pr β) (n : Nat) (a0 a1 : AV) (H : Ab) (k : KO β) : Bw Ak p n fi74 [a0, a1] H k =
 p.len a0 fun t7 =>
 p.len a1 fun t9 =>
 p.bin .neq t7 t9 fun t10 =>
 p.cond t10
 (k bF H)
 (Ahy p n  k n (tf 26 0 (ud [(0, a0), (1, a1), (4, bF), (5, i0), (6, a0), (7, t7), (8, a1), (9, t9), (10, t10)] ut)) H) := by kernel_rfl
theorem Ahz : J6 fi74 @f74 := fun p n a0 a1 H k => by
 rw [Akn]
 simp only [Afo]
 kernel_rfl
noncomputable def Ws (p : Pr β) (n : Nat)  (k : KO β) : Nat → AV → AV → KO β
 | 0, _, _, _, _ => none
 | m + 1, t0, t1, t5, H => p.len t0 fun t13 =>
   p.bin .lss t5 t13 fun t14 =>
   p.cond t14
   (p.iadr 1 t0 t5 fun t19 =>
   p.load false 1 t19 H fun t20 =>
   p.iadr 1 t1 t5 fun t23 =>
   p.load false 1 t23 H fun t24 =>
   p.bin .neq t20 t24 fun t25 =>
   p.cond t25
   (k bF H)
   (p.bin .add t5 (si 1) fun t16 =>
   Ws p n  k m t0 t1 t16 H))
   (k bT H)
noncomputable def f75 (n : Nat) (a0 a1 : AV) (H : Ab) (k : KO β) : Option β :=
 p.len a0 fun t7 =>
 p.len a1 fun t9 =>
 p.bin .neq t7 t9 fun t10 =>
 p.cond t10
 (k bF H)
 (Ws p n  k n a0 a1 i0 H)
noncomputable def Ah0 (p : Pr β) (n : Nat)  (k : KO β) (m : Nat) (tm : Tm) (H : Ab) : Option β :=
 C7 26 (fun tm H k => Af Ak p o75 26 n (cd c75 [1, 1, 0, 1, 0, 0]) tm H k) (Eb 0 (Dt (fun tm H => Af Ak p o75 26 n (cd c75 [1, 1, 1]) tm H (B5 Ak p fi75.results k)) (B5 Ak p fi75.results k))) m tm H
theorem Afp (p : Pr β) (n : Nat)  (k : KO β) (m0 : Nat) : ∀ (t : Nat → AV) (H : Ab), Ah0 p n  k m0 (tf 26 0 t) H = Ws p n  k m0 (t 0) (t 1) (t 5) H := by
 induction m0 with
 | zero => intros; rfl
 | succ m0 ih =>
  intro t H
  refine Eq.trans (Bb (nt := 26) (m := m0) (g := fun t H => Ws p n  k m0 (t 0) (t 1) (t 5) H) ih rfl) ?_
  kernel_rfl
theorem Ako (p : Pr β) (n : Nat) (a0 a1 : AV) (H : Ab) (k : KO β) : Bw Ak p n fi75 [a0, a1] H k =
 p.len a0 fun t7 =>
 p.len a1 fun t9 =>
 p.bin .neq t7 t9 fun t10 =>
 p.cond t10
 (k bF H)
 (Ah0 p n  k n (tf 26 0 (ud [(0, a0), (1, a1), (4, bF), (5, i0), (6, a0), (7, t7), (8, a1), (9, t9), (10, t10)] ut)) H) := by kernel_rfl
theorem Ah1 : J6 fi75 @f75 := fun p n a0 a1 H k => by
 rw [Ako]
 simp only [Afp]
 kernel_rfl
noncomputable def f34 (n : Nat) (a0 a1 : AV) (H : Ab) (k : KO β) : Option β :=
 p.box a0 H fun t2 H =>
 p.box a1 H fun t3 H =>
 p.fadr 0 t2 fun t5 =>
 p.load false 1 t5 H fun t6 =>
 p.fadr 0 t3 fun t7 =>
 p.load false 1 t7 H fun t8 =>
 p.bin .neq t6 t8 fun t9 =>
 p.cond t9
 (k bF H)
 (p.fadr 1 t2 fun t10 =>
 p.load false 1 t10 H fun t11 =>
 p.fadr 1 t3 fun t12 =>
 p.load false 1 t12 H fun t13 =>
 p.binB .neq t11 t13 fun t14 =>
 p.cond t14
 (k bF H)
 (p.fadr 2 t2 fun t15 =>
 p.load false 1 t15 H fun t16 =>
 p.fadr 2 t3 fun t17 =>
 p.load false 1 t17 H fun t18 =>
 p.bin .neq t16 t18 fun t19 =>
 p.cond t19
 (k bF H)
 (p.fadr 3 t2 fun t20 =>
 p.load false 1 t20 H fun t21 =>
 p.fadr 3 t3 fun t22 =>
 p.load false 1 t22 H fun t23 =>
 p.binB .neq t21 t23 fun t24 =>
 p.cond t24
 (k bF H)
 (p.fadr 4 t2 fun t25 =>
 p.load false 1 t25 H fun t26 =>
 p.fadr 4 t3 fun t27 =>
 p.load false 1 t27 H fun t28 =>
 p.bin .neq t26 t28 fun t29 =>
 p.cond t29
 (k bF H)
 (p.fadr 5 t2 fun t30 =>
 p.load false 1 t30 H fun t31 =>
 p.fadr 5 t3 fun t32 =>
 p.load false 1 t32 H fun t33 =>
 p.bin .neq t31 t33 fun t34 =>
 p.cond t34
 (k bF H)
 (p.fadr 6 t2 fun t35 =>
 p.load false 1 t35 H fun t36 =>
 p.fadr 6 t3 fun t37 =>
 p.load false 1 t37 H fun t38 =>
 p.call 4 (.fn 35 [] []) [t36, t38] H fun t39 H =>
 p.un .not t39 fun t40 =>
 p.cond t40
 (k bF H)
 (p.fadr 7 t2 fun t41 =>
 p.load false 1 t41 H fun t42 =>
 p.fadr 7 t3 fun t43 =>
 p.load false 1 t43 H fun t44 =>
 p.bin .neq t42 t44 fun t45 =>
 p.cond t45
 (k bF H)
 (p.fadr 8 t2 fun t46 =>
 p.load false 1 t46 H fun t47 =>
 p.fadr 8 t3 fun t48 =>
 p.load false 1 t48 H fun t49 =>
 p.bin .neq t47 t49 fun t50 =>
 p.cond t50
 (k bF H)
 (p.fadr 9 t2 fun t51 =>
 p.load false 1 t51 H fun t52 =>
 p.fadr 9 t3 fun t53 =>
 p.load false 1 t53 H fun t54 =>
 p.binB .neq t52 t54 fun t55 =>
 p.cond t55
 (k bF H)
 (p.fadr 10 t2 fun t56 =>
 p.load false 1 t56 H fun t57 =>
 p.fadr 10 t3 fun t58 =>
 p.load false 1 t58 H fun t59 =>
 p.bin .neq t57 t59 fun t60 =>
 p.cond t60
 (k bF H)
 (p.fadr 11 t2 fun t61 =>
 p.load false 1 t61 H fun t62 =>
 p.fadr 11 t3 fun t63 =>
 p.load false 1 t63 H fun t64 =>
 p.binB .neq t62 t64 fun t65 =>
 p.cond t65
 (k bF H)
 (p.fadr 12 t2 fun t66 =>
 p.load false 1 t66 H fun t67 =>
 p.fadr 12 t3 fun t68 =>
 p.load false 1 t68 H fun t69 =>
 p.bin .neq t67 t69 fun t70 =>
 p.cond t70
 (k bF H)
 (p.fadr 13 t2 fun t71 =>
 p.load false 1 t71 H fun t72 =>
 p.fadr 13 t3 fun t73 =>
 p.load false 1 t73 H fun t74 =>
 p.call 4 (.fn 35 [] []) [t72, t74] H fun t75 H =>
 p.un .not t75 fun t76 =>
 p.cond t76
 (k bF H)
 (p.fadr 14 t2 fun t77 =>
 p.load false 1 t77 H fun t78 =>
 p.fadr 14 t3 fun t79 =>
 p.load false 1 t79 H fun t80 =>
 p.bin .neq t78 t80 fun t81 =>
 p.cond t81
 (k bF H)
 (p.fadr 15 t2 fun t82 =>
 p.load false 1 t82 H fun t83 =>
 p.fadr 15 t3 fun t84 =>
 p.load false 1 t84 H fun t85 =>
 p.binB .neq t83 t85 fun t86 =>
 p.cond t86
 (k bF H)
 (p.fadr 16 t2 fun t87 =>
 p.load false 1 t87 H fun t88 =>
 p.fadr 16 t3 fun t89 =>
 p.load false 1 t89 H fun t90 =>
 p.binB .neq t88 t90 fun t91 =>
 p.cond t91
 (k bF H)
 (p.fadr 17 t2 fun t92 =>
 p.load false 1 t92 H fun t93 =>
 p.fadr 17 t3 fun t94 =>
 p.load false 1 t94 H fun t95 =>
 p.bin .neq t93 t95 fun t96 =>
 p.cond t96
 (k bF H)
 (p.fadr 18 t2 fun t97 =>
 p.load false 1 t97 H fun t98 =>
 p.fadr 18 t3 fun t99 =>
 p.load false 1 t99 H fun t100 =>
 p.binB .neq t98 t100 fun t101 =>
 p.cond t101
 (k bF H)
 (p.fadr 19 t2 fun t102 =>
 p.load false 1 t102 H fun t103 =>
 p.fadr 19 t3 fun t104 =>
 p.load false 1 t104 H fun t105 =>
 p.call 4 (.fn 35 [] []) [t103, t105] H fun t106 H =>
 p.un .not t106 fun t107 =>
 p.cond t107
 (k bF H)
 (p.fadr 20 t2 fun t108 =>
 p.load false 1 t108 H fun t109 =>
 p.fadr 20 t3 fun t110 =>
 p.load false 1 t110 H fun t111 =>
 p.bin .neq t109 t111 fun t112 =>
 p.cond t112
 (k bF H)
 (p.fadr 21 t2 fun t113 =>
 p.load false 1 t113 H fun t114 =>
 p.fadr 21 t3 fun t115 =>
 p.load false 1 t115 H fun t116 =>
 p.binB .neq t114 t116 fun t117 =>
 p.cond t117
 (k bF H)
 (p.fadr 22 t2 fun t118 =>
 p.load false 1 t118 H fun t119 =>
 p.fadr 22 t3 fun t120 =>
 p.load false 1 t120 H fun t121 =>
 p.call 4 (.fn 73 [] []) [t119, t121] H fun t122 H =>
 p.un .not t122 fun t123 =>
 p.cond t123
 (k bF H)
 (p.fadr 23 t2 fun t124 =>
 p.load false 1 t124 H fun t125 =>
 p.fadr 23 t3 fun t126 =>
 p.load false 1 t126 H fun t127 =>
 p.call 4 (.fn 74 [] []) [t125, t127] H fun t128 H =>
 p.un .not t128 fun t129 =>
 p.cond t129
 (k bF H)
 (p.fadr 24 t2 fun t130 =>
 p.load false 1 t130 H fun t131 =>
 p.fadr 24 t3 fun t132 =>
 p.load false 1 t132 H fun t133 =>
 p.call 4 (.fn 75 [] []) [t131, t133] H fun t134 H =>
 p.un .not t134 fun t135 =>
 p.cond t135
 (k bF H)
 (k bT H)))))))))))))))))))))))))
theorem AgD : J6 Aox @f34 := fun p n a0 a1 H k => by kernel_rfl
noncomputable def Wc (p : Pr β) (n : Nat)  (k : KO β) : Nat → AV → AV → KO β
 | 0, _, _, _, _ => none
 | m + 1, t0, t1, t5, H => p.len t0 fun t13 =>
   p.bin .lss t5 t13 fun t14 =>
   p.cond t14
   (p.iadr 25 t0 t5 fun t19 =>
   p.load true 25 t19 H fun t20 =>
   p.iadr 25 t1 t5 fun t23 =>
   p.load true 25 t23 H fun t24 =>
   p.call 4 (.fn 34 [] []) [t20, t24] H fun t25 H =>
   p.un .not t25 fun t26 =>
   p.cond t26
   (k bF H)
   (p.bin .add t5 (si 1) fun t16 =>
   Wc p n  k m t0 t1 t16 H))
   (k bT H)
noncomputable def f22 (n : Nat) (a0 a1 : AV) (H : Ab) (k : KO β) : Option β :=
 p.len a0 fun t7 =>
 p.len a1 fun t9 =>
 p.bin .neq t7 t9 fun t10 =>
 p.cond t10
 (k bF H)
 (Wc p n  k n a0 a1 i0 H)
noncomputable def Agz (p : Pr β) (n : Nat)  (k : KO β) (m : Nat) (tm : Tm) (H : Ab) : Option β :=
 C7 27 (fun tm H k => Af Ak p o22 27 n (cd c22 [1, 1, 0, 1, 0, 0]) tm H k) (Eb 0 (Dt (fun tm H => Af Ak p o22 27 n (cd c22 [1, 1, 1]) tm H (B5 Ak p fi22.results k)) (B5 Ak p fi22.results k))) m tm H
theorem AeR (p : Pr β) (n : Nat)  (k : KO β) (m0 : Nat) : ∀ (t : Nat → AV) (H : Ab), Agz p n  k m0 (tf 27 0 t) H = Wc p n  k m0 (t 0) (t 1) (t 5) H := by
 induction m0 with
 | zero => intros; rfl
 | succ m0 ih =>
  intro t H
  refine Eq.trans (Bb (nt := 27) (m := m0) (g := fun t H => Wc p n  k m0 (t 0) (t 1) (t 5) H) ih rfl) ?_
  kernel_rfl
theorem AjS (p : Pr β) (n : Nat) (a0 a1 : AV) (H : Ab) (k : KO β) : Bw Ak p n fi22 [a0, a1] H k =
 p.len a0 fun t7 =>
 p.len a1 fun t9 =>
 p.bin .neq t7 t9 fun t10 =>
 p.cond t10
 (k bF H)
 (Agz p n  k n (tf 27 0 (ud [(0, a0), (1, a1), (4, bF), (5, i0), (6, a0), (7, t7), (8, a1), (9, t9), (10, t10)] ut)) H) := by kernel_rfl
theorem Ag0 : J6 fi22 @f22 := fun p n a0 a1 H k => by
 rw [AjS]
 simp only [AeR]
 kernel_rfl
noncomputable def Wh (p : Pr β) (n : Nat)  (k : KO β) : Nat → AV → AV → KO β
 | 0, _, _, _, _ => none
 | m + 1, t0, t1, t5, H => p.len t0 fun t8 =>
   p.bin .lss t5 t8 fun t9 =>
   p.cond t9
   (p.cvI .u8 t1 fun t15 =>
   p.iadr 1 t0 t5 fun t16 =>
   p.store 1 t16 t15 H fun H =>
   p.bin .add t1 (si 1) fun t18 =>
   p.bin .add t5 (si 1) fun t11 =>
   Wh p n  k m t0 t18 t11 H)
   (k t1 H)
noncomputable def f36 (n : Nat) (a0 a1 : AV) (H : Ab) (k : KO β) : Option β :=
 Wh p n  k n a0 a1 i0 H
noncomputable def AgG (p : Pr β) (n : Nat)  (k : KO β) (m : Nat) (tm : Tm) (H : Ab) : Option β :=
 C7 20 (fun tm H k => Af Ak p [] 20 n (cd c36 [1, 0, 1, 0, 0]) tm H k) (Eb 0 (Dt (fun tm H => Af Ak p [] 20 n (cd c36 [1, 1]) tm H (B5 Ak p fi36.results k)) (B5 Ak p fi36.results k))) m tm H
theorem AeW (p : Pr β) (n : Nat)  (k : KO β) (m0 : Nat) : ∀ (t : Nat → AV) (H : Ab), AgG p n  k m0 (tf 20 0 t) H = Wh p n  k m0 (t 0) (t 1) (t 5) H := by
 induction m0 with
 | zero => intros; rfl
 | succ m0 ih =>
  intro t H
  refine Eq.trans (Bb (nt := 20) (m := m0) (g := fun t H => Wh p n  k m0 (t 0) (t 1) (t 5) H) ih rfl) ?_
  kernel_rfl
theorem AjX (p : Pr β) (n : Nat) (a0 a1 : AV) (H : Ab) (k : KO β) : Bw Ak p n fi36 [a0, a1] H k =
 AgG p n  k n (tf 20 0 (ud [(0, a0), (1, a1), (4, i0), (5, i0)] ut)) H := by kernel_rfl
theorem AgH : J6 fi36 @f36 := fun p n a0 a1 H k => by
 rw [AjX]
 simp only [AeW]
 kernel_rfl
noncomputable def f24 (n : Nat) (a0 a1 : AV) (H : Ab) (k : KO β) : Option β :=
 p.box a0 H fun t2 H =>
 p.fl 0 t2 1 H fun t6 =>
 p.ca 3 36 [t6, a1] H fun t8 H =>
 k t8 H
theorem Ag1 : J6 Aor @f24 := fun p n a0 a1 H k => by kernel_rfl
noncomputable def Wi (p : Pr β) (n : Nat)  (k : KO β) : Nat → AV → KO β
 | 0, _, _, _ => none
 | m + 1, t0, t3, H => p.bin .gtr t0 i0 fun t7 =>
   p.cond t7
   (p.bin .rem t0 (si 10) fun t9 =>
   p.bin .add (si 48) t9 fun t10 =>
   p.cvI .u8 t10 fun t11 =>
   p.fill [(su 0)] [(0, 1, t11)] fun ct12 => p.newSl 1 1 ct12 true H fun t12 H =>
   p.cvBS t12 H fun t13 =>
   p.bin .add t13 t3 fun t15 =>
   p.bin .quo t0 (si 10) fun t17 =>
   Wi p n  k m t17 t15 H)
   (p.bin .add (.sc (.string ⟨#[109]⟩)) t3 fun t19 =>
   k t19 H)
noncomputable def f53 (n : Nat) (a0 : AV) (H : Ab) (k : KO β) : Option β :=
 p.bin .leq a0 i0 fun t5 =>
 p.cond t5
 (k (.sc (.string ⟨#[109, 48]⟩)) H)
 (Wi p n  k n a0 sE H)
noncomputable def AgO (p : Pr β) (n : Nat)  (k : KO β) (m : Nat) (tm : Tm) (H : Ab) : Option β :=
 C7 20 (fun tm H k => Af Ak p [] 20 n (cd c53 [1, 1, 1, 0, 0, 0]) tm H k) (Eb 0 (Dt (fun tm H => Af Ak p [] 20 n (cd c53 [1, 1, 1, 1]) tm H (B5 Ak p fi53.results k)) (B5 Ak p fi53.results k))) m tm H
theorem AeY (p : Pr β) (n : Nat)  (k : KO β) (m0 : Nat) : ∀ (t : Nat → AV) (H : Ab), AgO p n  k m0 (tf 20 0 t) H = Wi p n  k m0 (t 0) (t 3) H := by
 induction m0 with
 | zero => intros; rfl
 | succ m0 ih =>
  intro t H
  refine Eq.trans (Bb (nt := 20) (m := m0) (g := fun t H => Wi p n  k m0 (t 0) (t 3) H) ih rfl) ?_
  kernel_rfl
theorem AjZ (p : Pr β) (n : Nat) (a0 : AV) (H : Ab) (k : KO β) : Bw Ak p n fi53 [a0] H k =
 p.bin .leq a0 i0 fun t5 =>
 p.cond t5
 (k (.sc (.string ⟨#[109, 48]⟩)) H)
 (AgO p n  k n (tf 20 0 (ud [(0, a0), (2, sE), (3, sE), (4, a0), (5, t5)] ut)) H) := by kernel_rfl
theorem AgP : Nh fi53 @f53 := fun p n a0 H k => by
 rw [AjZ]
 simp only [AeY]
 kernel_rfl
noncomputable def Wj (p : Pr β) (n : Nat)  (k : KO β) : Nat → AV → AV → KO β
 | 0, _, _, _, _ => none
 | m + 1, t0, t1, t5, H => p.len t0 fun t8 =>
   p.bin .lss t5 t8 fun t9 =>
   p.cond t9
   (p.call 9 (.fn 53 [] []) [t1] H fun t15 H =>
   p.iadr 2 t0 t5 fun t16 =>
   p.fadr 0 t16 fun t17 =>
   p.store 1 t17 t15 H fun H =>
   p.bin .add t1 (si 1) fun t19 =>
   p.iadr 2 t0 t5 fun t23 =>
   p.fadr 1 t23 fun t24 =>
   p.store 1 t24 t19 H fun H =>
   p.bin .add t19 (si 1) fun t26 =>
   p.bin .add t5 (si 1) fun t11 =>
   Wj p n  k m t0 t26 t11 H)
   (k t1 H)
noncomputable def f54 (n : Nat) (a0 a1 : AV) (H : Ab) (k : KO β) : Option β :=
 Wj p n  k n a0 a1 i0 H
noncomputable def AgQ (p : Pr β) (n : Nat)  (k : KO β) (m : Nat) (tm : Tm) (H : Ab) : Option β :=
 C7 28 (fun tm H k => Af Ak p [] 28 n (cd c54 [1, 0, 1, 0, 0]) tm H k) (Eb 0 (Dt (fun tm H => Af Ak p [] 28 n (cd c54 [1, 1]) tm H (B5 Ak p fi54.results k)) (B5 Ak p fi54.results k))) m tm H
theorem AeZ (p : Pr β) (n : Nat)  (k : KO β) (m0 : Nat) : ∀ (t : Nat → AV) (H : Ab), AgQ p n  k m0 (tf 28 0 t) H = Wj p n  k m0 (t 0) (t 1) (t 5) H := by
 induction m0 with
 | zero => intros; rfl
 | succ m0 ih =>
  intro t H
  refine Eq.trans (Bb (nt := 28) (m := m0) (g := fun t H => Wj p n  k m0 (t 0) (t 1) (t 5) H) ih rfl) ?_
  kernel_rfl
theorem Aka (p : Pr β) (n : Nat) (a0 a1 : AV) (H : Ab) (k : KO β) : Bw Ak p n fi54 [a0, a1] H k =
 AgQ p n  k n (tf 28 0 (ud [(0, a0), (1, a1), (4, i0), (5, i0)] ut)) H := by kernel_rfl
theorem AgR : J6 fi54 @f54 := fun p n a0 a1 H k => by
 rw [Aka]
 simp only [AeZ]
 kernel_rfl
noncomputable def Wk (p : Pr β) (n : Nat)  (k : KO β) : Nat → AV → AV → KO β
 | 0, _, _, _, _ => none
 | m + 1, t0, t1, t5, H => p.len t0 fun t8 =>
   p.bin .lss t5 t8 fun t9 =>
   p.cond t9
   (p.call 9 (.fn 53 [] []) [t1] H fun t15 H =>
   p.iadr 1 t0 t5 fun t16 =>
   p.store 1 t16 t15 H fun H =>
   p.bin .add t1 (si 1) fun t18 =>
   p.bin .add t5 (si 1) fun t11 =>
   Wk p n  k m t0 t18 t11 H)
   (k t1 H)
noncomputable def f55 (n : Nat) (a0 a1 : AV) (H : Ab) (k : KO β) : Option β :=
 Wk p n  k n a0 a1 i0 H
noncomputable def AgS (p : Pr β) (n : Nat)  (k : KO β) (m : Nat) (tm : Tm) (H : Ab) : Option β :=
 C7 20 (fun tm H k => Af Ak p [] 20 n (cd c55 [1, 0, 1, 0, 0]) tm H k) (Eb 0 (Dt (fun tm H => Af Ak p [] 20 n (cd c55 [1, 1]) tm H (B5 Ak p fi55.results k)) (B5 Ak p fi55.results k))) m tm H
theorem Afa (p : Pr β) (n : Nat)  (k : KO β) (m0 : Nat) : ∀ (t : Nat → AV) (H : Ab), AgS p n  k m0 (tf 20 0 t) H = Wk p n  k m0 (t 0) (t 1) (t 5) H := by
 induction m0 with
 | zero => intros; rfl
 | succ m0 ih =>
  intro t H
  refine Eq.trans (Bb (nt := 20) (m := m0) (g := fun t H => Wk p n  k m0 (t 0) (t 1) (t 5) H) ih rfl) ?_
  kernel_rfl
theorem Akb (p : Pr β) (n : Nat) (a0 a1 : AV) (H : Ab) (k : KO β) : Bw Ak p n fi55 [a0, a1] H k =
 AgS p n  k n (tf 20 0 (ud [(0, a0), (1, a1), (4, i0), (5, i0)] ut)) H := by kernel_rfl
theorem AgT : J6 fi55 @f55 := fun p n a0 a1 H k => by
 rw [Akb]
 simp only [Afa]
 kernel_rfl
noncomputable def Wl (p : Pr β) (n : Nat)  (k : KO β) : Nat → AV → AV → KO β
 | 0, _, _, _, _ => none
 | m + 1, t0, t1, t5, H => p.len t0 fun t8 =>
   p.bin .lss t5 t8 fun t9 =>
   p.cond t9
   (p.iadr 1 t0 t5 fun t15 =>
   p.store 1 t15 t1 H fun H =>
   p.bin .add t1 (si 1) fun t17 =>
   p.bin .add t5 (si 1) fun t11 =>
   Wl p n  k m t0 t17 t11 H)
   (k t1 H)
noncomputable def f56 (n : Nat) (a0 a1 : AV) (H : Ab) (k : KO β) : Option β :=
 Wl p n  k n a0 a1 i0 H
noncomputable def AgU (p : Pr β) (n : Nat)  (k : KO β) (m : Nat) (tm : Tm) (H : Ab) : Option β :=
 C7 19 (fun tm H k => Af Ak p [] 19 n (cd c56 [1, 0, 1, 0, 0]) tm H k) (Eb 0 (Dt (fun tm H => Af Ak p [] 19 n (cd c56 [1, 1]) tm H (B5 Ak p fi56.results k)) (B5 Ak p fi56.results k))) m tm H
theorem Afb (p : Pr β) (n : Nat)  (k : KO β) (m0 : Nat) : ∀ (t : Nat → AV) (H : Ab), AgU p n  k m0 (tf 19 0 t) H = Wl p n  k m0 (t 0) (t 1) (t 5) H := by
 induction m0 with
 | zero => intros; rfl
 | succ m0 ih =>
  intro t H
  refine Eq.trans (Bb (nt := 19) (m := m0) (g := fun t H => Wl p n  k m0 (t 0) (t 1) (t 5) H) ih rfl) ?_
  kernel_rfl
theorem Akc (p : Pr β) (n : Nat) (a0 a1 : AV) (H : Ab) (k : KO β) : Bw Ak p n fi56 [a0, a1] H k =
 AgU p n  k n (tf 19 0 (ud [(0, a0), (1, a1), (4, i0), (5, i0)] ut)) H := by kernel_rfl
theorem AgV : J6 fi56 @f56 := fun p n a0 a1 H k => by
 rw [Akc]
 simp only [Afb]
 kernel_rfl
noncomputable def Wd (p : Pr β) (n : Nat)  (k : KO β) : Nat → AV → AV → KO β
 | 0, _, _, _, _ => none
 | m + 1, t0, t1, t5, H => p.len t0 fun t8 =>
   p.bin .lss t5 t8 fun t9 =>
   p.cond t9
   (p.iadr 25 t0 t5 fun t15 =>
   p.fadr 0 t15 fun t16 =>
   p.store 1 t16 t1 H fun H =>
   p.bin .add t1 (si 1) fun t18 =>
   p.bin .rem t18 (si 3) fun t22 =>
   p.bin .eql t22 i0 fun t23 =>
   p.iadr 25 t0 t5 fun t24 =>
   p.fadr 1 t24 fun t25 =>
   p.store 1 t25 t23 H fun H =>
   p.bin .add t18 (si 1) fun t27 =>
   p.iadr 25 t0 t5 fun t31 =>
   p.fadr 2 t31 fun t32 =>
   p.store 1 t32 t27 H fun H =>
   p.bin .add t27 (si 1) fun t34 =>
   p.bin .rem t34 (si 3) fun t38 =>
   p.bin .eql t38 i0 fun t39 =>
   p.iadr 25 t0 t5 fun t40 =>
   p.fadr 3 t40 fun t41 =>
   p.store 1 t41 t39 H fun H =>
   p.bin .add t34 (si 1) fun t43 =>
   p.iadr 25 t0 t5 fun t47 =>
   p.fadr 4 t47 fun t48 =>
   p.store 1 t48 t43 H fun H =>
   p.bin .add t43 (si 1) fun t50 =>
   p.call 9 (.fn 53 [] []) [t50] H fun t54 H =>
   p.iadr 25 t0 t5 fun t55 =>
   p.fadr 5 t55 fun t56 =>
   p.store 1 t56 t54 H fun H =>
   p.bin .add t50 (si 1) fun t58 =>
   p.iadr 25 t0 t5 fun t61 =>
   p.fadr 6 t61 fun t62 =>
   p.load false 1 t62 H fun t63 =>
   p.call 3 (.fn 36 [] []) [t63, t58] H fun t65 H =>
   p.call 9 (.fn 53 [] []) [t65] H fun t69 H =>
   p.iadr 25 t0 t5 fun t70 =>
   p.fadr 7 t70 fun t71 =>
   p.store 1 t71 t69 H fun H =>
   p.bin .add t65 (si 1) fun t73 =>
   p.iadr 25 t0 t5 fun t77 =>
   p.fadr 8 t77 fun t78 =>
   p.store 1 t78 t73 H fun H =>
   p.bin .add t73 (si 1) fun t80 =>
   p.bin .rem t80 (si 3) fun t84 =>
   p.bin .eql t84 i0 fun t85 =>
   p.iadr 25 t0 t5 fun t86 =>
   p.fadr 9 t86 fun t87 =>
   p.store 1 t87 t85 H fun H =>
   p.bin .add t80 (si 1) fun t89 =>
   p.iadr 25 t0 t5 fun t93 =>
   p.fadr 10 t93 fun t94 =>
   p.store 1 t94 t89 H fun H =>
   p.bin .add t89 (si 1) fun t96 =>
   p.bin .rem t96 (si 3) fun t100 =>
   p.bin .eql t100 i0 fun t101 =>
   p.iadr 25 t0 t5 fun t102 =>
   p.fadr 11 t102 fun t103 =>
   p.store 1 t103 t101 H fun H =>
   p.bin .add t96 (si 1) fun t105 =>
   p.call 9 (.fn 53 [] []) [t105] H fun t109 H =>
   p.iadr 25 t0 t5 fun t110 =>
   p.fadr 12 t110 fun t111 =>
   p.store 1 t111 t109 H fun H =>
   p.bin .add t105 (si 1) fun t113 =>
   p.iadr 25 t0 t5 fun t116 =>
   p.fadr 13 t116 fun t117 =>
   p.load false 1 t117 H fun t118 =>
   p.call 3 (.fn 36 [] []) [t118, t113] H fun t120 H =>
   p.iadr 25 t0 t5 fun t124 =>
   p.fadr 14 t124 fun t125 =>
   p.store 1 t125 t120 H fun H =>
   p.bin .add t120 (si 1) fun t127 =>
   p.bin .rem t127 (si 3) fun t131 =>
   p.bin .eql t131 i0 fun t132 =>
   p.iadr 25 t0 t5 fun t133 =>
   p.fadr 15 t133 fun t134 =>
   p.store 1 t134 t132 H fun H =>
   p.bin .add t127 (si 1) fun t136 =>
   p.bin .rem t136 (si 3) fun t140 =>
   p.bin .eql t140 i0 fun t141 =>
   p.iadr 25 t0 t5 fun t142 =>
   p.fadr 16 t142 fun t143 =>
   p.store 1 t143 t141 H fun H =>
   p.bin .add t136 (si 1) fun t145 =>
   p.call 9 (.fn 53 [] []) [t145] H fun t149 H =>
   p.iadr 25 t0 t5 fun t150 =>
   p.fadr 17 t150 fun t151 =>
   p.store 1 t151 t149 H fun H =>
   p.bin .add t145 (si 1) fun t153 =>
   p.bin .rem t153 (si 3) fun t157 =>
   p.bin .eql t157 i0 fun t158 =>
   p.iadr 25 t0 t5 fun t159 =>
   p.fadr 18 t159 fun t160 =>
   p.store 1 t160 t158 H fun H =>
   p.bin .add t153 (si 1) fun t162 =>
   p.iadr 25 t0 t5 fun t165 =>
   p.fadr 19 t165 fun t166 =>
   p.load false 1 t166 H fun t167 =>
   p.call 3 (.fn 36 [] []) [t167, t162] H fun t169 H =>
   p.iadr 25 t0 t5 fun t173 =>
   p.fadr 20 t173 fun t174 =>
   p.store 1 t174 t169 H fun H =>
   p.bin .add t169 (si 1) fun t176 =>
   p.bin .rem t176 (si 3) fun t180 =>
   p.bin .eql t180 i0 fun t181 =>
   p.iadr 25 t0 t5 fun t182 =>
   p.fadr 21 t182 fun t183 =>
   p.store 1 t183 t181 H fun H =>
   p.bin .add t176 (si 1) fun t185 =>
   p.iadr 25 t0 t5 fun t188 =>
   p.fadr 22 t188 fun t189 =>
   p.load false 1 t189 H fun t190 =>
   p.call 3 (.fn 54 [] []) [t190, t185] H fun t192 H =>
   p.iadr 25 t0 t5 fun t195 =>
   p.fadr 23 t195 fun t196 =>
   p.load false 1 t196 H fun t197 =>
   p.call 3 (.fn 55 [] []) [t197, t192] H fun t199 H =>
   p.iadr 25 t0 t5 fun t202 =>
   p.fadr 24 t202 fun t203 =>
   p.load false 1 t203 H fun t204 =>
   p.call 3 (.fn 56 [] []) [t204, t199] H fun t206 H =>
   p.bin .add t5 (si 1) fun t11 =>
   Wd p n  k m t0 t206 t11 H)
   (k t1 H)
noncomputable def f26 (n : Nat) (a0 a1 : AV) (H : Ab) (k : KO β) : Option β :=
 Wd p n  k n a0 a1 i0 H
noncomputable def Ag2 (p : Pr β) (n : Nat)  (k : KO β) (m : Nat) (tm : Tm) (H : Ab) : Option β :=
 C7 208 (fun tm H k => Af Ak p [] 208 n (cd c26 [1, 0, 1, 0, 0]) tm H k) (Eb 0 (Dt (fun tm H => Af Ak p [] 208 n (cd c26 [1, 1]) tm H (B5 Ak p fi26.results k)) (B5 Ak p fi26.results k))) m tm H
theorem AeS (p : Pr β) (n : Nat)  (k : KO β) (m0 : Nat) : ∀ (t : Nat → AV) (H : Ab), Ag2 p n  k m0 (tf 208 0 t) H = Wd p n  k m0 (t 0) (t 1) (t 5) H := by
 induction m0 with
 | zero => intros; rfl
 | succ m0 ih =>
  intro t H
  refine Eq.trans (Bb (nt := 208) (m := m0) (g := fun t H => Wd p n  k m0 (t 0) (t 1) (t 5) H) ih rfl) ?_
  kernel_rfl
theorem AjT (p : Pr β) (n : Nat) (a0 a1 : AV) (H : Ab) (k : KO β) : Bw Ak p n fi26 [a0, a1] H k =
 Ag2 p n  k n (tf 208 0 (ud [(0, a0), (1, a1), (4, i0), (5, i0)] ut)) H := by kernel_rfl
theorem Ag3 : J6 fi26 @f26 := fun p n a0 a1 H k => by
 rw [AjT]
 simp only [AeS]
 kernel_rfl
noncomputable def Wm (p : Pr β) (n : Nat)  (k : KO β) : Nat → AV → AV → KO β
 | 0, _, _, _, _ => none
 | m + 1, t0, t1, t5, H => p.len t0 fun t8 =>
   p.bin .lss t5 t8 fun t9 =>
   p.cond t9
   (p.iadr 1 t0 t5 fun t14 =>
   p.load false 1 t14 H fun t15 =>
   p.cvI .u8 t1 fun t17 =>
   p.bin .neq t15 t17 fun t18 =>
   p.cond t18
   (k (si (-1)) H)
   (p.bin .add t1 (si 1) fun t20 =>
   p.bin .add t5 (si 1) fun t11 =>
   Wm p n  k m t0 t20 t11 H))
   (k t1 H)
noncomputable def f57 (n : Nat) (a0 a1 : AV) (H : Ab) (k : KO β) : Option β :=
 Wm p n  k n a0 a1 i0 H
noncomputable def AgW (p : Pr β) (n : Nat)  (k : KO β) (m : Nat) (tm : Tm) (H : Ab) : Option β :=
 C7 22 (fun tm H k => Af Ak p [] 22 n (cd c57 [1, 0, 1, 0, 0]) tm H k) (Eb 0 (Dt (fun tm H => Af Ak p [] 22 n (cd c57 [1, 1]) tm H (B5 Ak p fi57.results k)) (B5 Ak p fi57.results k))) m tm H
theorem Afc (p : Pr β) (n : Nat)  (k : KO β) (m0 : Nat) : ∀ (t : Nat → AV) (H : Ab), AgW p n  k m0 (tf 22 0 t) H = Wm p n  k m0 (t 0) (t 1) (t 5) H := by
 induction m0 with
 | zero => intros; rfl
 | succ m0 ih =>
  intro t H
  refine Eq.trans (Bb (nt := 22) (m := m0) (g := fun t H => Wm p n  k m0 (t 0) (t 1) (t 5) H) ih rfl) ?_
  kernel_rfl
theorem Akd (p : Pr β) (n : Nat) (a0 a1 : AV) (H : Ab) (k : KO β) : Bw Ak p n fi57 [a0, a1] H k =
 AgW p n  k n (tf 22 0 (ud [(0, a0), (1, a1), (4, i0), (5, i0)] ut)) H := by kernel_rfl
theorem AgX : J6 fi57 @f57 := fun p n a0 a1 H k => by
 rw [Akd]
 simp only [Afc]
 kernel_rfl
noncomputable def f27 (n : Nat) (a0 a1 : AV) (H : Ab) (k : KO β) : Option β :=
 p.box a0 H fun t2 H =>
 p.fl 0 t2 1 H fun t6 =>
 p.ca 3 57 [t6, a1] H fun t8 H =>
 p.bin .lss t8 i0 fun t10 =>
 p.cond t10
 (k (si (-1)) H)
 (k t8 H)
theorem Ag4 : J6 Aos @f27 := fun p n a0 a1 H k => by kernel_rfl
noncomputable def Wn (p : Pr β) (n : Nat)  (k : KO β) : Nat → AV → AV → KO β
 | 0, _, _, _, _ => none
 | m + 1, t0, t1, t5, H => p.len t0 fun t8 =>
   p.bin .lss t5 t8 fun t9 =>
   p.cond t9
   (p.iadr 2 t0 t5 fun t14 =>
   p.fadr 0 t14 fun t15 =>
   p.load false 1 t15 H fun t16 =>
   p.call 9 (.fn 53 [] []) [t1] H fun t18 H =>
   p.bin .neq t16 t18 fun t19 =>
   p.cond t19
   (k (si (-1)) H)
   (p.bin .add t1 (si 1) fun t21 =>
   p.iadr 2 t0 t5 fun t24 =>
   p.fadr 1 t24 fun t25 =>
   p.load false 1 t25 H fun t26 =>
   p.bin .neq t26 t21 fun t28 =>
   p.cond t28
   (k (si (-1)) H)
   (p.bin .add t21 (si 1) fun t30 =>
   p.bin .add t5 (si 1) fun t11 =>
   Wn p n  k m t0 t30 t11 H)))
   (k t1 H)
noncomputable def f58 (n : Nat) (a0 a1 : AV) (H : Ab) (k : KO β) : Option β :=
 Wn p n  k n a0 a1 i0 H
noncomputable def AgY (p : Pr β) (n : Nat)  (k : KO β) (m : Nat) (tm : Tm) (H : Ab) : Option β :=
 C7 32 (fun tm H k => Af Ak p o58 32 n (cd c58 [1, 0, 1, 0, 0]) tm H k) (Eb 0 (Dt (fun tm H => Af Ak p o58 32 n (cd c58 [1, 1]) tm H (B5 Ak p fi58.results k)) (B5 Ak p fi58.results k))) m tm H
theorem Afd (p : Pr β) (n : Nat)  (k : KO β) (m0 : Nat) : ∀ (t : Nat → AV) (H : Ab), AgY p n  k m0 (tf 32 0 t) H = Wn p n  k m0 (t 0) (t 1) (t 5) H := by
 induction m0 with
 | zero => intros; rfl
 | succ m0 ih =>
  intro t H
  refine Eq.trans (Bb (nt := 32) (m := m0) (g := fun t H => Wn p n  k m0 (t 0) (t 1) (t 5) H) ih rfl) ?_
  kernel_rfl
theorem Ake (p : Pr β) (n : Nat) (a0 a1 : AV) (H : Ab) (k : KO β) : Bw Ak p n fi58 [a0, a1] H k =
 AgY p n  k n (tf 32 0 (ud [(0, a0), (1, a1), (4, i0), (5, i0)] ut)) H := by kernel_rfl
theorem AgZ : J6 fi58 @f58 := fun p n a0 a1 H k => by
 rw [Ake]
 simp only [Afd]
 kernel_rfl
noncomputable def Wo (p : Pr β) (n : Nat)  (k : KO β) : Nat → AV → AV → KO β
 | 0, _, _, _, _ => none
 | m + 1, t0, t1, t5, H => p.len t0 fun t8 =>
   p.bin .lss t5 t8 fun t9 =>
   p.cond t9
   (p.iadr 1 t0 t5 fun t14 =>
   p.load false 1 t14 H fun t15 =>
   p.call 9 (.fn 53 [] []) [t1] H fun t17 H =>
   p.bin .neq t15 t17 fun t18 =>
   p.cond t18
   (k (si (-1)) H)
   (p.bin .add t1 (si 1) fun t20 =>
   p.bin .add t5 (si 1) fun t11 =>
   Wo p n  k m t0 t20 t11 H))
   (k t1 H)
noncomputable def f59 (n : Nat) (a0 a1 : AV) (H : Ab) (k : KO β) : Option β :=
 Wo p n  k n a0 a1 i0 H
noncomputable def Aha (p : Pr β) (n : Nat)  (k : KO β) (m : Nat) (tm : Tm) (H : Ab) : Option β :=
 C7 22 (fun tm H k => Af Ak p o59 22 n (cd c59 [1, 0, 1, 0, 0]) tm H k) (Eb 0 (Dt (fun tm H => Af Ak p o59 22 n (cd c59 [1, 1]) tm H (B5 Ak p fi59.results k)) (B5 Ak p fi59.results k))) m tm H
theorem Afe (p : Pr β) (n : Nat)  (k : KO β) (m0 : Nat) : ∀ (t : Nat → AV) (H : Ab), Aha p n  k m0 (tf 22 0 t) H = Wo p n  k m0 (t 0) (t 1) (t 5) H := by
 induction m0 with
 | zero => intros; rfl
 | succ m0 ih =>
  intro t H
  refine Eq.trans (Bb (nt := 22) (m := m0) (g := fun t H => Wo p n  k m0 (t 0) (t 1) (t 5) H) ih rfl) ?_
  kernel_rfl
theorem Akf (p : Pr β) (n : Nat) (a0 a1 : AV) (H : Ab) (k : KO β) : Bw Ak p n fi59 [a0, a1] H k =
 Aha p n  k n (tf 22 0 (ud [(0, a0), (1, a1), (4, i0), (5, i0)] ut)) H := by kernel_rfl
theorem Ahb : J6 fi59 @f59 := fun p n a0 a1 H k => by
 rw [Akf]
 simp only [Afe]
 kernel_rfl
noncomputable def Wp (p : Pr β) (n : Nat)  (k : KO β) : Nat → AV → AV → KO β
 | 0, _, _, _, _ => none
 | m + 1, t0, t1, t5, H => p.len t0 fun t8 =>
   p.bin .lss t5 t8 fun t9 =>
   p.cond t9
   (p.iadr 1 t0 t5 fun t14 =>
   p.load false 1 t14 H fun t15 =>
   p.bin .neq t15 t1 fun t17 =>
   p.cond t17
   (k (si (-1)) H)
   (p.bin .add t1 (si 1) fun t19 =>
   p.bin .add t5 (si 1) fun t11 =>
   Wp p n  k m t0 t19 t11 H))
   (k t1 H)
noncomputable def f60 (n : Nat) (a0 a1 : AV) (H : Ab) (k : KO β) : Option β :=
 Wp p n  k n a0 a1 i0 H
noncomputable def Ahc (p : Pr β) (n : Nat)  (k : KO β) (m : Nat) (tm : Tm) (H : Ab) : Option β :=
 C7 21 (fun tm H k => Af Ak p [] 21 n (cd c60 [1, 0, 1, 0, 0]) tm H k) (Eb 0 (Dt (fun tm H => Af Ak p [] 21 n (cd c60 [1, 1]) tm H (B5 Ak p fi60.results k)) (B5 Ak p fi60.results k))) m tm H
theorem Aff (p : Pr β) (n : Nat)  (k : KO β) (m0 : Nat) : ∀ (t : Nat → AV) (H : Ab), Ahc p n  k m0 (tf 21 0 t) H = Wp p n  k m0 (t 0) (t 1) (t 5) H := by
 induction m0 with
 | zero => intros; rfl
 | succ m0 ih =>
  intro t H
  refine Eq.trans (Bb (nt := 21) (m := m0) (g := fun t H => Wp p n  k m0 (t 0) (t 1) (t 5) H) ih rfl) ?_
  kernel_rfl
theorem Akg (p : Pr β) (n : Nat) (a0 a1 : AV) (H : Ab) (k : KO β) : Bw Ak p n fi60 [a0, a1] H k =
 Ahc p n  k n (tf 21 0 (ud [(0, a0), (1, a1), (4, i0), (5, i0)] ut)) H := by kernel_rfl
theorem Ahd : J6 fi60 @f60 := fun p n a0 a1 H k => by
 rw [Akg]
 simp only [Aff]
 kernel_rfl
noncomputable def We (p : Pr β) (n : Nat)  (k : KO β) : Nat → AV → AV → KO β
 | 0, _, _, _, _ => none
 | m + 1, t0, t1, t5, H => p.len t0 fun t8 =>
   p.bin .lss t5 t8 fun t9 =>
   p.cond t9
   (p.iadr 25 t0 t5 fun t14 =>
   p.fadr 0 t14 fun t15 =>
   p.load false 1 t15 H fun t16 =>
   p.bin .neq t16 t1 fun t18 =>
   p.cond t18
   (k (si (-1)) H)
   (p.bin .add t1 (si 1) fun t20 =>
   p.iadr 25 t0 t5 fun t23 =>
   p.fadr 1 t23 fun t24 =>
   p.load false 1 t24 H fun t25 =>
   p.bin .rem t20 (si 3) fun t27 =>
   p.bin .eql t27 i0 fun t28 =>
   p.binB .neq t25 t28 fun t29 =>
   p.cond t29
   (k (si (-1)) H)
   (p.bin .add t20 (si 1) fun t31 =>
   p.iadr 25 t0 t5 fun t34 =>
   p.fadr 2 t34 fun t35 =>
   p.load false 1 t35 H fun t36 =>
   p.bin .neq t36 t31 fun t38 =>
   p.cond t38
   (k (si (-1)) H)
   (p.bin .add t31 (si 1) fun t40 =>
   p.iadr 25 t0 t5 fun t43 =>
   p.fadr 3 t43 fun t44 =>
   p.load false 1 t44 H fun t45 =>
   p.bin .rem t40 (si 3) fun t47 =>
   p.bin .eql t47 i0 fun t48 =>
   p.binB .neq t45 t48 fun t49 =>
   p.cond t49
   (k (si (-1)) H)
   (p.bin .add t40 (si 1) fun t51 =>
   p.iadr 25 t0 t5 fun t54 =>
   p.fadr 4 t54 fun t55 =>
   p.load false 1 t55 H fun t56 =>
   p.bin .neq t56 t51 fun t58 =>
   p.cond t58
   (k (si (-1)) H)
   (p.bin .add t51 (si 1) fun t60 =>
   p.iadr 25 t0 t5 fun t63 =>
   p.fadr 5 t63 fun t64 =>
   p.load false 1 t64 H fun t65 =>
   p.call 9 (.fn 53 [] []) [t60] H fun t67 H =>
   p.bin .neq t65 t67 fun t68 =>
   p.cond t68
   (k (si (-1)) H)
   (p.bin .add t60 (si 1) fun t70 =>
   p.iadr 25 t0 t5 fun t73 =>
   p.fadr 6 t73 fun t74 =>
   p.load false 1 t74 H fun t75 =>
   p.call 3 (.fn 57 [] []) [t75, t70] H fun t77 H =>
   p.bin .lss t77 i0 fun t79 =>
   p.cond t79
   (k (si (-1)) H)
   (p.iadr 25 t0 t5 fun t82 =>
   p.fadr 7 t82 fun t83 =>
   p.load false 1 t83 H fun t84 =>
   p.call 9 (.fn 53 [] []) [t77] H fun t86 H =>
   p.bin .neq t84 t86 fun t87 =>
   p.cond t87
   (k (si (-1)) H)
   (p.bin .add t77 (si 1) fun t89 =>
   p.iadr 25 t0 t5 fun t92 =>
   p.fadr 8 t92 fun t93 =>
   p.load false 1 t93 H fun t94 =>
   p.bin .neq t94 t89 fun t96 =>
   p.cond t96
   (k (si (-1)) H)
   (p.bin .add t89 (si 1) fun t98 =>
   p.iadr 25 t0 t5 fun t101 =>
   p.fadr 9 t101 fun t102 =>
   p.load false 1 t102 H fun t103 =>
   p.bin .rem t98 (si 3) fun t105 =>
   p.bin .eql t105 i0 fun t106 =>
   p.binB .neq t103 t106 fun t107 =>
   p.cond t107
   (k (si (-1)) H)
   (p.bin .add t98 (si 1) fun t109 =>
   p.iadr 25 t0 t5 fun t112 =>
   p.fadr 10 t112 fun t113 =>
   p.load false 1 t113 H fun t114 =>
   p.bin .neq t114 t109 fun t116 =>
   p.cond t116
   (k (si (-1)) H)
   (p.bin .add t109 (si 1) fun t118 =>
   p.iadr 25 t0 t5 fun t121 =>
   p.fadr 11 t121 fun t122 =>
   p.load false 1 t122 H fun t123 =>
   p.bin .rem t118 (si 3) fun t125 =>
   p.bin .eql t125 i0 fun t126 =>
   p.binB .neq t123 t126 fun t127 =>
   p.cond t127
   (k (si (-1)) H)
   (p.bin .add t118 (si 1) fun t129 =>
   p.iadr 25 t0 t5 fun t132 =>
   p.fadr 12 t132 fun t133 =>
   p.load false 1 t133 H fun t134 =>
   p.call 9 (.fn 53 [] []) [t129] H fun t136 H =>
   p.bin .neq t134 t136 fun t137 =>
   p.cond t137
   (k (si (-1)) H)
   (p.bin .add t129 (si 1) fun t139 =>
   p.iadr 25 t0 t5 fun t142 =>
   p.fadr 13 t142 fun t143 =>
   p.load false 1 t143 H fun t144 =>
   p.call 3 (.fn 57 [] []) [t144, t139] H fun t146 H =>
   p.bin .lss t146 i0 fun t148 =>
   p.cond t148
   (k (si (-1)) H)
   (p.iadr 25 t0 t5 fun t151 =>
   p.fadr 14 t151 fun t152 =>
   p.load false 1 t152 H fun t153 =>
   p.bin .neq t153 t146 fun t155 =>
   p.cond t155
   (k (si (-1)) H)
   (p.bin .add t146 (si 1) fun t157 =>
   p.iadr 25 t0 t5 fun t160 =>
   p.fadr 15 t160 fun t161 =>
   p.load false 1 t161 H fun t162 =>
   p.bin .rem t157 (si 3) fun t164 =>
   p.bin .eql t164 i0 fun t165 =>
   p.binB .neq t162 t165 fun t166 =>
   p.cond t166
   (k (si (-1)) H)
   (p.bin .add t157 (si 1) fun t168 =>
   p.iadr 25 t0 t5 fun t171 =>
   p.fadr 16 t171 fun t172 =>
   p.load false 1 t172 H fun t173 =>
   p.bin .rem t168 (si 3) fun t175 =>
   p.bin .eql t175 i0 fun t176 =>
   p.binB .neq t173 t176 fun t177 =>
   p.cond t177
   (k (si (-1)) H)
   (p.bin .add t168 (si 1) fun t179 =>
   p.iadr 25 t0 t5 fun t182 =>
   p.fadr 17 t182 fun t183 =>
   p.load false 1 t183 H fun t184 =>
   p.call 9 (.fn 53 [] []) [t179] H fun t186 H =>
   p.bin .neq t184 t186 fun t187 =>
   p.cond t187
   (k (si (-1)) H)
   (p.bin .add t179 (si 1) fun t189 =>
   p.iadr 25 t0 t5 fun t192 =>
   p.fadr 18 t192 fun t193 =>
   p.load false 1 t193 H fun t194 =>
   p.bin .rem t189 (si 3) fun t196 =>
   p.bin .eql t196 i0 fun t197 =>
   p.binB .neq t194 t197 fun t198 =>
   p.cond t198
   (k (si (-1)) H)
   (p.bin .add t189 (si 1) fun t200 =>
   p.iadr 25 t0 t5 fun t203 =>
   p.fadr 19 t203 fun t204 =>
   p.load false 1 t204 H fun t205 =>
   p.call 3 (.fn 57 [] []) [t205, t200] H fun t207 H =>
   p.bin .lss t207 i0 fun t209 =>
   p.cond t209
   (k (si (-1)) H)
   (p.iadr 25 t0 t5 fun t212 =>
   p.fadr 20 t212 fun t213 =>
   p.load false 1 t213 H fun t214 =>
   p.bin .neq t214 t207 fun t216 =>
   p.cond t216
   (k (si (-1)) H)
   (p.bin .add t207 (si 1) fun t218 =>
   p.iadr 25 t0 t5 fun t221 =>
   p.fadr 21 t221 fun t222 =>
   p.load false 1 t222 H fun t223 =>
   p.bin .rem t218 (si 3) fun t225 =>
   p.bin .eql t225 i0 fun t226 =>
   p.binB .neq t223 t226 fun t227 =>
   p.cond t227
   (k (si (-1)) H)
   (p.bin .add t218 (si 1) fun t229 =>
   p.iadr 25 t0 t5 fun t232 =>
   p.fadr 22 t232 fun t233 =>
   p.load false 1 t233 H fun t234 =>
   p.call 3 (.fn 58 [] []) [t234, t229] H fun t236 H =>
   p.bin .lss t236 i0 fun t238 =>
   p.cond t238
   (k (si (-1)) H)
   (p.iadr 25 t0 t5 fun t241 =>
   p.fadr 23 t241 fun t242 =>
   p.load false 1 t242 H fun t243 =>
   p.call 3 (.fn 59 [] []) [t243, t236] H fun t245 H =>
   p.bin .lss t245 i0 fun t247 =>
   p.cond t247
   (k (si (-1)) H)
   (p.iadr 25 t0 t5 fun t250 =>
   p.fadr 24 t250 fun t251 =>
   p.load false 1 t251 H fun t252 =>
   p.call 3 (.fn 60 [] []) [t252, t245] H fun t254 H =>
   p.bin .lss t254 i0 fun t256 =>
   p.cond t256
   (k (si (-1)) H)
   (p.bin .add t5 (si 1) fun t11 =>
   We p n  k m t0 t254 t11 H))))))))))))))))))))))))))
   (k t1 H)
noncomputable def f28 (n : Nat) (a0 a1 : AV) (H : Ab) (k : KO β) : Option β :=
 We p n  k n a0 a1 i0 H
noncomputable def Ag5 (p : Pr β) (n : Nat)  (k : KO β) (m : Nat) (tm : Tm) (H : Ab) : Option β :=
 C7 258 (fun tm H k => Af Ak p o28 258 n (cd c28 [1, 0, 1, 0, 0]) tm H k) (Eb 0 (Dt (fun tm H => Af Ak p o28 258 n (cd c28 [1, 1]) tm H (B5 Ak p fi28.results k)) (B5 Ak p fi28.results k))) m tm H
theorem AeT (p : Pr β) (n : Nat)  (k : KO β) (m0 : Nat) : ∀ (t : Nat → AV) (H : Ab), Ag5 p n  k m0 (tf 258 0 t) H = We p n  k m0 (t 0) (t 1) (t 5) H := by
 induction m0 with
 | zero => intros; rfl
 | succ m0 ih =>
  intro t H
  refine Eq.trans (Bb (nt := 258) (m := m0) (g := fun t H => We p n  k m0 (t 0) (t 1) (t 5) H) ih rfl) ?_
  kernel_rfl
theorem AjU (p : Pr β) (n : Nat) (a0 a1 : AV) (H : Ab) (k : KO β) : Bw Ak p n fi28 [a0, a1] H k =
 Ag5 p n  k n (tf 258 0 (ud [(0, a0), (1, a1), (4, i0), (5, i0)] ut)) H := by kernel_rfl
theorem Ag6 : J6 fi28 @f28 := fun p n a0 a1 H k => by
 rw [AjU]
 simp only [AeT]
 kernel_rfl
noncomputable def f8 (n : Nat) (a0 a1 : AV) (H : Ab) (k : KO β) : Option β :=
 p.box a0 H fun t2 H =>
 p.len a1 fun t18 =>
 p.bin .gtr t18 (si 1048576) fun t19 =>
 p.cond t19
 (k bT H)
 (p.load true 2 t2 H fun t20 =>
 p.call 3 (.fn 15 [] []) [t20, (si 1048576)] H fun t22 H =>
 p.bin .lss t22 i0 fun t24 =>
 p.cond t24
 (k bT H)
 (p.load true 2 t2 H fun t26 =>
 p.call 32 (.fn 18 [] []) [t26] H fun t27 H =>
 p.call 22 (.fn 32 [] []) [a1] H fun t29 H =>
 p.call 43 (.fn 41 [] []) [t27, t29] H fun t30 H =>
 p.extr t30 0 fun t31 =>
 p.extr t30 1 fun t32 =>
 p.new [.nl, bF] H fun t6 H =>
 p.store 2 t6 t31 H fun H =>
 p.load true 2 t2 H fun t33 =>
 p.call 32 (.fn 18 [] []) [t33] H fun t34 H =>
 p.new [.nl, bF] H fun t8 H =>
 p.store 2 t8 t34 H fun H =>
 p.call 22 (.fn 32 [] []) [a1] H fun t36 H =>
 p.load true 2 t8 H fun t38 =>
 p.call 43 (.fn 42 [] []) [t38, t36] H fun t40 H =>
 p.extr t40 0 fun t41 =>
 p.extr t40 1 fun t42 =>
 p.new [.nl, bF] H fun t10 H =>
 p.store 2 t10 t41 H fun H =>
 p.load true 2 t10 H fun t43 =>
 p.load true 2 t6 H fun t44 =>
 p.call 4 (.fn 21 [] []) [t43, t44] H fun t45 H =>
 p.un .not t45 fun t46 =>
 p.kF t46 H t42 fun t48 H =>
 p.kF t46 H t32 fun t49 H =>
 p.hF t46 H (p.call 4 (.fn 22 [] []) [t48, t49] H) fun t50 H =>
 p.gF t46 H (p.un .not t50) fun t51 H =>
 p.pick t46 bT t51 fun t52 =>
 p.cond t52
 (k bF H)
 (p.load true 2 t8 H fun t53 =>
 p.load true 2 t2 H fun t54 =>
 p.call 32 (.fn 18 [] []) [t54] H fun t55 H =>
 p.call 4 (.fn 21 [] []) [t53, t55] H fun t56 H =>
 p.un .not t56 fun t57 =>
 p.cond t57
 (k bF H)
 (p.call 22 (.fn 32 [] []) [a1] H fun t60 H =>
 p.call 4 (.fn 35 [] []) [t36, t60] H fun t61 H =>
 p.un .not t61 fun t62 =>
 p.cond t62
 (k bF H)
 (p.load true 2 t8 H fun t63 =>
 p.call 3 (.fn 24 [] []) [t63, (si 1)] H fun t65 H =>
 p.call 3 (.fn 36 [] []) [t36, t65] H fun t68 H =>
 p.bin .lss t68 i0 fun t70 =>
 p.gF t70 H (p.load true 2 t10 H) fun t72 H =>
 p.gF t70 H (p.load true 2 t6 H) fun t73 H =>
 p.hF t70 H (p.call 4 (.fn 21 [] []) [t72, t73] H) fun t74 H =>
 p.gF t70 H (p.un .not t74) fun t75 H =>
 p.pick t70 bT t75 fun t76 =>
 p.kF t76 H t42 fun t78 H =>
 p.kF t76 H t32 fun t79 H =>
 p.hF t76 H (p.call 4 (.fn 22 [] []) [t78, t79] H) fun t80 H =>
 p.gF t76 H (p.un .not t80) fun t81 H =>
 p.pick t76 bT t81 fun t82 =>
 p.cond t82
 (k bF H)
 (p.load true 2 t10 H fun t83 =>
 p.call 3 (.fn 24 [] []) [t83, (si 1)] H fun t85 H =>
 p.call 3 (.fn 26 [] []) [t42, t85] H fun t88 H =>
 p.load true 2 t10 H fun t89 =>
 p.call 3 (.fn 27 [] []) [t89, (si 1)] H fun t91 H =>
 p.bin .lss t91 i0 fun t93 =>
 p.cond t93
 (k bF H)
 (p.call 3 (.fn 28 [] []) [t42, t91] H fun t96 H =>
 p.bin .lss t96 i0 fun t98 =>
 p.cond t98
 (k bF H)
 (p.bin .neq t96 t88 fun t101 =>
 p.cond t101
 (k bF H)
 (p.load true 2 t2 H fun t103 =>
 p.call 32 (.fn 18 [] []) [t103] H fun t104 H =>
 p.call 22 (.fn 32 [] []) [a1] H fun t106 H =>
 p.call 43 (.fn 42 [] []) [t104, t106] H fun t107 H =>
 p.extr t107 0 fun t108 =>
 p.extr t107 1 fun t109 =>
 p.new [.nl, bF] H fun t15 H =>
 p.store 2 t15 t108 H fun H =>
 p.load true 2 t15 H fun t110 =>
 p.load true 2 t6 H fun t111 =>
 p.call 4 (.fn 21 [] []) [t110, t111] H fun t112 H =>
 p.un .not t112 fun t113 =>
 p.kF t113 H t109 fun t115 H =>
 p.kF t113 H t32 fun t116 H =>
 p.hF t113 H (p.call 4 (.fn 22 [] []) [t115, t116] H) fun t117 H =>
 p.gF t113 H (p.un .not t117) fun t118 H =>
 p.pick t113 bT t118 fun t119 =>
 p.cond t119
 (k bF H)
 (p.load true 2 t10 H fun t120 =>
 p.call 3 (.fn 27 [] []) [t120, (si 1)] H fun t122 H =>
 p.bin .lss t122 i0 fun t124 =>
 p.cond t124
 (k bF H)
 (p.call 3 (.fn 28 [] []) [t42, t122] H fun t127 H =>
 p.bin .lss t127 i0 fun t129 =>
 p.cond t129
 (k bF H)
 (p.bin .neq t127 t88 fun t132 =>
 p.cond t132
 (k bF H)
 (k bT H)))))))))))))
theorem Aks : J6 fi8 @f8 := fun p n a0 a1 H k => by kernel_rfl
noncomputable def fss : List (Option E7) := [none, none, none, none, none, none, none, none, some fi8, none, none, none, none, none, none, some Aoo, none, none, some Aop, none, none, some Aoq, some fi22, none, some Aor, none, some fi26, some Aos, some fi28, some Aot, some Aou, some Aov, some fi32, some Aow, some Aox, some fi35, some fi36, none, none, none, none, some fi41, some Aoy, none, none, none, none, some Aoz, none, none, none, some Ao0, some Ao1, some fi53, some fi54, some fi55, some fi56, some fi57, some fi58, some fi59, some fi60, some Ao2, some fi62, some fi63, some fi64, some Ao3, some fi66, some Ao4, some fi68, some Ao5, some Ao6, some Ao7, some Ao8, some fi73, some fi74, some fi75, some fi76, some fi77, none, none, some Ao9, some AoA, none, none, none, none, some AoB, some AoC, some AoD, some fi89, some AoE, some AoF, some fi92, some AoG, some AoH, some AoI, some AoJ, some fi97, some AoK, some AoL, some Al6, some Al7, some Al8, some fi103, some Al9, some AlA, some AlB, some AlC, some AlD, some AlE, some fi110, some fi111, some fi112, some AlF, some AlG, some fi115, none, none, some AlH, none, none, none, none, none, none, none, some AlI, some fi127, some fi128, some AlJ, some AlK, some AlL, some fi132, some fi133, some fi134, none, none, some AlM, some fi138, some AlN, some AlO, some AlP, some AlQ, some fi143, none, none, some AlR, none, none, none, some AlS, some AlT]
noncomputable def tps : List (Nat × List Nat) := [(43, [32, 33]), (60, [59, 3, 3]), (68, [33, 3]), (85, [3, 3, 3]), (93, [33, 3, 3]), (108, [9, 3, 4]), (110, [3, 3, 4]), (131, [22, 3, 4]), (152, [151, 4]), (162, [21, 3]), (165, [164, 164])]
noncomputable def E0 : O9 := { ti := Ak, tp := fun t => AdQ tps t, fs := fun f => (fss[f]?).getD none, ext := fun f => if zbC f 135 then some Aag else if zbC f 136 then some V7 else if zbC f 149 then some Te else none, hm := fun f => [24, 25, 26, 36, 37, 54, 55, 56, 90, 99, 100, 101, 102, 103, 105, 129, 131, 156, 182, 183, 184, 185, 186].contains f }
noncomputable def PR (n : Nat) (β : Type) : Pr β := El E0 (Dy E0 n) β
abbrev Ni (j : Nat) (f : (β : Type) → Pr β → Nat → AV → Ab → KO β → Option β) : Prop := ∀ {β : Type} (n : Nat) (a0 : AV) (H : Ab) (k : KO β), Dy E0 (n + 1) β j [a0] H k = f β (PR n β) n a0 H k
abbrev J7 (j : Nat) (f : (β : Type) → Pr β → Nat → AV → AV → Ab → KO β → Option β) : Prop := ∀ {β : Type} (n : Nat) (a0 a1 : AV) (H : Ab) (k : KO β), Dy E0 (n + 1) β j [a0, a1] H k = f β (PR n β) n a0 a1 H k
abbrev Ce3 (j : Nat) (f : (β : Type) → Pr β → Nat → AV → AV → AV → Ab → KO β → Option β) : Prop := ∀ {β : Type} (n : Nat) (a0 a1 a2 : AV) (H : Ab) (k : KO β), Dy E0 (n + 1) β j [a0, a1, a2] H k = f β (PR n β) n a0 a1 a2 H k
theorem AmL : J7 47 @f47 := fun n => AgL (PR n _) n
theorem Am3 : J7 15 @f15 := fun n => Agw (PR n _) n
theorem AmE : Ni 32 @f32 := fun n => AgB (PR n _) n
theorem Am4 : Ni 18 @f18 := fun n => Agx (PR n _) n
theorem AmW : Ni 61 @f61 := fun n => Ahe (PR n _) n
theorem AmX : J7 62 @f62 := fun n => Ahg (PR n _) n
theorem Anq : J7 88 @f88 := fun n => AhB (PR n _) n
theorem Aj9 : J7 126 @f126 := fun n => Ae8 (PR n _) n
theorem Ann : Ce3 81 @f81 := fun n => Ah8 (PR n _) n
theorem AjO : J7 143 @f143 := fun n => AeN (PR n _) n
theorem Aj7 : Ni 115 @f115 := fun n => Ae6 (PR n _) n
theorem Anm : Ni 80 @f80 := fun n => Ah7 (PR n _) n
theorem Anp : J7 87 @f87 := fun n => AhA (PR n _) n
theorem Ano : Ni 86 @f86 := fun n => Ah9 (PR n _) n
theorem AmY : J7 63 @f63 := fun n => Ahi (PR n _) n
theorem Ans : Ni 90 @f90 := fun n => AhG (PR n _) n
theorem Ana : J7 65 @f65 := fun n => Ahk (PR n _) n
theorem Anr : J7 89 @f89 := fun n => AhF (PR n _) n
theorem AjA : J7 127 @f127 := fun n => Ae9 (PR n _) n
theorem AjB : Ni 128 @f128 := fun n => AeA (PR n _) n
theorem Ant : Ni 91 @f91 := fun n => AhH (PR n _) n
theorem Anu : Ni 92 @f92 := fun n => AhJ (PR n _) n
theorem AmZ : Ni 64 @f64 := fun n => Ahj (PR n _) n
theorem Anx : J7 95 @f95 := fun n => AhM (PR n _) n
theorem Anv : J7 93 @f93 := fun n => AhK (PR n _) n
theorem Anw : J7 94 @f94 := fun n => AhL (PR n _) n
theorem Anz : J7 96 @f96 := fun n => AhN (PR n _) n
theorem An0 : J7 97 @f97 := fun n => AhP (PR n _) n
theorem Anb : Ni 66 @f66 := fun n => Aho (PR n _) n
theorem AmD : Ni 31 @f31 := fun n => Ag9 (PR n _) n
theorem AmB : Ni 29 @f29 := fun n => Ag7 (PR n _) n
theorem AmM : Ni 51 @f51 := fun n => AgM (PR n _) n
theorem AmJ : J7 41 @f41 := fun n => AgJ (PR n _) n
theorem An1 : Ce3 98 @f98 := fun n => AhQ (PR n _) n
theorem Anc : Ni 67 @f67 := fun n => Ahp (PR n _) n
theorem And : J7 68 @f68 := fun n => Ahr (PR n _) n
theorem AjD : J7 130 @f130 := fun n => AeC (PR n _) n
theorem Ah6 : Ni 77 @f77 := fun n => Ah5 (PR n _) n
theorem AjP : J7 146 @f146 := fun n => AeO (PR n _) n
theorem AjC : Ni 129 @f129 := fun n => AeB (PR n _) n
theorem Mw : Ni 101 @f101 := fun n => Aes (PR n _) n
theorem Ajt : Ni 100 @f100 := fun n => Aer (PR n _) n
theorem Aju : Ni 102 @f102 := fun n => Aet (PR n _) n
theorem An2 : J7 99 @f99 := fun n => AhR (PR n _) n
theorem AjE : Ni 131 @f131 := fun n => AeD (PR n _) n
theorem Ajv : J7 103 @f103 := fun n => Aeu (PR n _) n
theorem Ane : J7 69 @f69 := fun n => Ahs (PR n _) n
theorem Ajx : Ni 105 @f105 := fun n => Aew (PR n _) n
theorem Ang : J7 71 @f71 := fun n => Ahu (PR n _) n
theorem AjF : J7 132 @f132 := fun n => AeE (PR n _) n
theorem AjG : J7 133 @f133 := fun n => AeF (PR n _) n
theorem AjH : J7 134 @f134 := fun n => AeG (PR n _) n
theorem Ajw : J7 104 @f104 := fun n => Aev (PR n _) n
theorem AjI : Ni 137 @f137 := fun n => AeH (PR n _) n
theorem Aj0 : Ni 108 @f108 := fun n => Aez (PR n _) n
theorem Ajz : Ni 107 @f107 := fun n => Aey (PR n _) n
theorem Aj8 : Ni 118 @f118 := fun n => Ae7 (PR n _) n
theorem Ajy : Ni 106 @f106 := fun n => Aex (PR n _) n
theorem Aj1 : Ni 109 @f109 := fun n => Ae0 (PR n _) n
theorem AjQ : J7 150 @f150 := fun n => AeP (PR n _) n
theorem AjJ : Ni 138 @f138 := fun n => AeI (PR n _) n
theorem Aj2 : Ni 110 @f110 := fun n => Ae1 (PR n _) n
theorem Anf : Ni 70 @f70 := fun n => Aht (PR n _) n
theorem AjL : J7 140 @f140 := fun n => AeK (PR n _) n
theorem AjN : J7 142 @f142 := fun n => AeM (PR n _) n
theorem AjM : J7 141 @f141 := fun n => AeL (PR n _) n
theorem AjR : J7 151 @f151 := fun n => AeQ (PR n _) n
theorem AjK : Ni 139 @f139 := fun n => AeJ (PR n _) n
theorem Aj3 : Ni 111 @f111 := fun n => Ae2 (PR n _) n
theorem Aj5 : Ni 113 @f113 := fun n => Ae4 (PR n _) n
theorem Aj4 : J7 112 @f112 := fun n => Ae3 (PR n _) n
theorem Anh : Ni 72 @f72 := fun n => Ahv (PR n _) n
theorem AmF : Ni 33 @f33 := fun n => AgC (PR n _) n
theorem AmC : Ni 30 @f30 := fun n => Ag8 (PR n _) n
theorem AmN : Ni 52 @f52 := fun n => AgN (PR n _) n
theorem Anl : Ni 76 @f76 := fun n => Ah3 (PR n _) n
theorem AmK : J7 42 @f42 := fun n => AgK (PR n _) n
theorem AmH : J7 35 @f35 := fun n => AgF (PR n _) n
theorem Am5 : J7 21 @f21 := fun n => Agy (PR n _) n
theorem Aj6 : J7 114 @f114 := fun n => Ae5 (PR n _) n
theorem Ani : J7 73 @f73 := fun n => Ahx (PR n _) n
theorem Anj : J7 74 @f74 := fun n => Ahz (PR n _) n
theorem Ank : J7 75 @f75 := fun n => Ah1 (PR n _) n
theorem AmG : J7 34 @f34 := fun n => AgD (PR n _) n
theorem Am6 : J7 22 @f22 := fun n => Ag0 (PR n _) n
theorem AmI : J7 36 @f36 := fun n => AgH (PR n _) n
theorem Am7 : J7 24 @f24 := fun n => Ag1 (PR n _) n
theorem AmO : Ni 53 @f53 := fun n => AgP (PR n _) n
theorem AmP : J7 54 @f54 := fun n => AgR (PR n _) n
theorem AmQ : J7 55 @f55 := fun n => AgT (PR n _) n
theorem AmR : J7 56 @f56 := fun n => AgV (PR n _) n
theorem Am8 : J7 26 @f26 := fun n => Ag3 (PR n _) n
theorem AmS : J7 57 @f57 := fun n => AgX (PR n _) n
theorem Am9 : J7 27 @f27 := fun n => Ag4 (PR n _) n
theorem AmT : J7 58 @f58 := fun n => AgZ (PR n _) n
theorem AmU : J7 59 @f59 := fun n => Ahb (PR n _) n
theorem AmV : J7 60 @f60 := fun n => Ahd (PR n _) n
theorem AmA : J7 28 @f28 := fun n => Ag6 (PR n _) n
theorem Aon : J7 8 @f8 := fun n => Aks (PR n _) n
end
end Go.Proofs.YtlcpigdmekgajaaGreatDoor.Abs
