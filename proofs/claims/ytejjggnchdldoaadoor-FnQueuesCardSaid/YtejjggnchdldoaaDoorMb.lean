/- What the proof needs, part 2: a sound evaluator over trees, the program's functions on it, and what they come to. -/
import Derived.Test.YtejjggnchdldoaaDoorMa
import Derived.Lib.SplitLaws
import Derived.Lib.IndexAny
import Derived.Lib.ValidLaws
import Derived.Test.YtejjggnchdldoaaDoorProg
import Derived.KernelRfl
import Derived.Shelf.Strings.IndexAnyAll
import Derived.Shelf.Small.Utf8
import Derived.Lib.TrimUEq
import Derived.Lib.QuoteLoop
import Derived.Laws.RangeAny
import Derived.Laws.Runes
import Derived.WalkKit
import Derived.WalkMore
import Derived.Below
import Derived.LoopTactic
import Derived.Shelf.RegionOpenPlain
import Derived.Test.YtejjggnchdldoaaDoorChecked
import Derived.Shelf.Unicode.ValidAny
import Derived.Shelf.Strings.Split
import Derived.Shelf.Vars
set_option linter.unusedVariables false
set_option linter.unusedSimpArgs false
namespace Go.Proofs.YtejjggnchdldoaaDoor.Abs
open Go
def lvL : List UInt8 → List UInt8 → List (List UInt8)
 | cur, [] => [cur]
 | cur, b :: l => if b = 47 then cur :: lvL [] l else lvL (cur ++ [b]) l
def ofL (l : List UInt8) : ByteArray := ⟨l.toArray⟩
def vLevels (s : ByteArray) : List ByteArray := (lvL [] s.data.toList).map ofL
def vHas (s : ByteArray) (b : UInt8) : Bool := s.data.toList.any fun c => c == b
def vPH (s : ByteArray) : Bool := vHas s 43 || vHas s 35
def sepB : ByteArray := ⟨#[47]⟩
def phB : ByteArray := ⟨#[43, 35]⟩
def consH (c : List UInt8) : List (List UInt8) → List (List UInt8)
 | [] => [c]
 | h :: t => (c ++ h) :: t
theorem consH_nil {X : List (List UInt8)} (h : X ≠ []) : consH [] X = X := by
 cases X with
 | nil => exact absurd rfl h
 | cons h t => rfl
theorem consH_consH (a b : List UInt8) {X : List (List UInt8)} (h : X ≠ []) : consH a (consH b X) = consH (a ++ b) X := by
 cases X with
 | nil => exact absurd rfl h
 | cons h t => simp [consH]
theorem splitK_ne (sep : List UInt8) (k : Nat) (l : List UInt8) : Lib.splitK sep 0 k l ≠ [] := by
 cases k with
 | zero => simp [Lib.splitK]
 | succ k =>
  unfold Lib.splitK
  split <;> simp
theorem index_at (l : List UInt8) : Lib.index (47 :: l) [47] = 0 := by
 unfold Lib.index
 simp
theorem index_ne (b : UInt8) (l : List UInt8) (h : b ≠ 47) : Lib.index (b :: l) [47] = if Lib.index l [47] == -1 then -1 else Lib.index l [47] + 1 := by
 rw [Lib.index]
 rw [if_neg]
 simpa using fun h' => h h'.symm
theorem splitK_ne_cons (b : UInt8) (h : b ≠ 47) (k : Nat) (l : List UInt8) : Lib.splitK [47] 0 k (b :: l) = consH [b] (Lib.splitK [47] 0 k l) := by
 cases k with
 | zero => rfl
 | succ k =>
  have hge := Lib.index_ge l [47]
  unfold Lib.splitK
  rw [index_ne b l h]
  by_cases hi : Lib.index l [47] = -1
  ·simp [hi, consH]
  ·have e1 : (Lib.index l [47] == -1) = false := by simpa using hi
   have e2 : (Lib.index l [47] + 1 == -1) = false := by simp; omega
   have e3 : (Lib.index l [47] + 1).toNat = (Lib.index l [47]).toNat + 1 := by omega
   simp only [e1, e2, e3, Bool.false_eq_true, if_false, consH, Nat.add_zero, List.length_singleton]
   rw [show (Lib.index l [47]).toNat + 1 + 1 = ((Lib.index l [47]).toNat + 1) + 1 from rfl, List.drop_succ_cons, List.take_succ_cons]
   rfl
theorem lvL_split : ∀ (l cur : List UInt8), lvL cur l = consH cur (Lib.splitK [47] 0 (Lib.count l [47]) l)
 | [], cur => by
  have e : Lib.count [] [47] = 0 := by rw [Lib.count_one]; rfl
  rw [e]
  simp [lvL, Lib.splitK, consH]
 | b :: l, cur => by
  rw [lvL]
  by_cases h : b = 47
  ·subst h
   rw [if_pos rfl, lvL_split l [], Lib.count_cons_eq, Nat.add_comm, Lib.splitK, index_at]
   rw [consH_nil (splitK_ne _ _ _)]
   simp [consH]
  ·rw [if_neg h, lvL_split l (cur ++ [b]), Lib.count_cons_ne _ _ _ h, splitK_ne_cons b h, consH_consH _ _ (splitK_ne _ _ _)]
theorem ofL_data (s : ByteArray) : ofL s.data.toList = s := by
 cases s
 rfl
theorem map_ofL (l : List ByteArray) : (l.map (·.data.toList)).map ofL = l := by
 rw [List.map_map]
 conv => rhs; rw [← List.map_id l]
 exact List.map_congr_left fun s _ => ofL_data s
theorem split_levels (s : ByteArray) : Lib.splitB sepB 0 (Lib.countB s sepB) s = vLevels s := by
 have h := Lib.splitB_data sepB 0 (Lib.countB s sepB) s
 rw [← map_ofL (Lib.splitB sepB 0 (Lib.countB s sepB) s), h, vLevels, lvL_split, consH_nil (splitK_ne _ _ _)]
 rfl
theorem levels_len (s : ByteArray) : (vLevels s).length = Lib.countB s sepB + 1 := by
 rw [← split_levels]
 exact Lib.splitB_all sepB (Nat.le_refl _) 0 _ s rfl
theorem indexAny_any (chars : List UInt8) : ∀ l : List UInt8, decide (0 ≤ Lib.indexAny l chars) = l.any fun c => chars.contains c
 | [] => rfl
 | b :: l => by
  have ih := indexAny_any chars l
  have hge := Lib.indexAny_ge chars l
  rw [Lib.indexAny, List.any_cons, ← ih]
  by_cases h : chars.contains b = true
  ·rw [if_pos h, h]
   simp
  ·rw [if_neg h]
   have h' : chars.contains b = false := by simpa using h
   rw [h', Bool.false_or]
   by_cases hi : Lib.indexAny l chars = -1
   ·rw [hi]
    rfl
   ·rw [if_neg (by simpa using hi)]
    congr 1
    simp
    omega
theorem any_or {α : Type} (p q : α → Bool) : ∀ l : List α, (l.any fun c => p c || q c) = (l.any p || l.any q)
 | [] => rfl
 | x :: l => by
  rw [List.any_cons, List.any_cons, List.any_cons, any_or p q l]
  cases p x <;> cases q x <;> simp
theorem has_ph (s : ByteArray) : Lib.containsAny s.data.toList phB.data.toList = vPH s := by
 unfold Lib.containsAny vPH vHas
 rw [indexAny_any, ← any_or]
 congr 1
 funext c
 simp [phB]
 rfl
end Go.Proofs.YtejjggnchdldoaaDoor.Abs
set_option linter.unusedVariables false
namespace Go.Proofs.YtejjggnchdldoaaDoor.Abs
open Go
def textGo : Nat → List UInt8 → Bool
 | 0, _ => true
 | n + 1, l => if l = [] then true else if (Lib.decodeL l).1 = 65533 ∧ (Lib.decodeL l).2 = 1 then false else if (Lib.decodeL l).1 = 0 then false else textGo n (l.drop (Lib.decodeL l).2)
def vTextOk (s : ByteArray) : Bool := decide (s.size ≤ 60) && textGo s.size s.data.toList
def ext71 (ty : Nat) (vs : List AV) : Option AV :=
 match vs with
 | [.sc (.string s)] => if s.size ≤ maxLen then some (.sc (.bool (vTextOk s))) else none
 | _ => none
def ext72 (ty : Nat) (vs : List AV) : Option AV :=
 match vs with
 | [.sc (.string s), .sc (.string c)] => if c.data.toList = [43, 35] ∧ s.size < 4294967281 then some (.sc (.bool (vPH s))) else none
 | _ => none
def ext91 (ty : Nat) (vs : List AV) : Option AV :=
 match vs with
 | [.sc (.string s), .sc (.string c)] => if ty = 25 ∧ c.data.toList = [47] ∧ s.size < 4294967281 then some (.ro (vLevels s).length ((vLevels s).map fun x => .sc (.string x))) else none
 | _ => none
end Go.Proofs.YtejjggnchdldoaaDoor.Abs
set_option linter.unusedVariables false
set_option linter.unusedSimpArgs false
set_option maxRecDepth 100000
namespace Go.Proofs.YtejjggnchdldoaaDoor.Abs
open Go
variable {β : Type}
noncomputable def tis : List (Option TI) := [none,
 none,
 some ⟨false, false, 1, 8, [(.int .i64 0)], 0, [], some .i64, false, false, [2], false⟩,
 some ⟨false, false, 1, 8, [(.int .i64 0)], 0, [], some .i64, false, false, [3], false⟩,
 some ⟨false, false, 1, 1, [(.bool false)], 0, [], none, false, true, [4], false⟩,
 some ⟨false, false, 1, 1, [(.int .u8 0)], 0, [], some .u8, false, false, [5], false⟩,
 some ⟨false, false, 1, 1, [(.int .u8 0)], 0, [], some .u8, false, false, [6], false⟩,
 none,
 none,
 some ⟨false, false, 1, 16, [(.string ⟨#[]⟩)], 0, [], none, true, false, [9], false⟩,
 some ⟨false, false, 1, 16, [(.string ⟨#[]⟩)], 0, [], none, true, false, [10], false⟩,
 some ⟨false, false, 1, 16, [(.string ⟨#[]⟩)], 0, [], none, true, false, [11], false⟩,
 some ⟨false, false, 1, 8, [(.int .u64 0)], 0, [], some .u64, false, false, [12], false⟩,
 none,
 none,
 none,
 none,
 none,
 none,
 none,
 none,
 some ⟨false, false, 1, 4, [(.int .i32 0)], 0, [], some .i32, false, false, [21], false⟩,
 some ⟨false, true, 1, 24, [(.slice none 0 0)], 3, [], none, false, false, [22], false⟩,
 some ⟨false, true, 1, 24, [(.slice none 0 0)], 5, [], none, false, false, [23], false⟩,
 none,
 some ⟨false, true, 1, 24, [(.slice none 0 0)], 9, [], none, false, false, [25], false⟩,
 none,
 none,
 none,
 none,
 none,
 none,
 none,
 none,
 none,
 none,
 none,
 some ⟨false, true, 1, 24, [(.slice none 0 0)], 39, [], none, false, false, [37], false⟩,
 none,
 some ⟨true, false, 4, 56, [(.string ⟨#[]⟩), (.slice none 0 0), (.int .i64 0), (.bool false)], 0, [(0, 9), (1, 23), (2, 3), (3, 4)], none, false, false, [9, 23, 3, 4], false⟩,
 none,
 none,
 none,
 none,
 none,
 none,
 none,
 none,
 none,
 none,
 none,
 none,
 none,
 none,
 none,
 none,
 none,
 none,
 none,
 none,
 some ⟨false, false, 1, 8, [(.pointer none)], 0, [], none, false, false, [60], false⟩,
 none,
 none,
 none,
 none,
 none,
 none,
 none,
 none,
 none,
 none,
 none,
 none,
 none,
 none,
 some ⟨true, false, 3, 40, [(.slice none 0 0), (.int .i64 0), (.int .i64 0)], 0, [(0, 23), (1, 3), (2, 3)], none, false, false, [23, 3, 3], false⟩,
 none,
 none,
 none,
 none,
 none,
 none,
 none,
 none,
 none,
 none,
 none,
 none,
 none,
 none,
 some ⟨false, true, 1, 24, [(.slice none 0 0)], 23, [], none, false, false, [90], false⟩]
noncomputable def bodyOf (f : Func) : Code := match f.body with | some c => c | none => .skip
noncomputable def c14 : Code := bodyOf Go.Proofs.Tryd.f14
noncomputable def c42 : Code := bodyOf Go.Proofs.Tryd.f42
noncomputable def c86 : Code := bodyOf Go.Proofs.Tryd.f86
noncomputable def c66 : Code := bodyOf Go.Proofs.Tryd.f66
noncomputable def c88 : Code := bodyOf Go.Proofs.Tryd.f88
noncomputable def c85 : Code := bodyOf Go.Proofs.Tryd.f85
noncomputable def c68 : Code := bodyOf Go.Proofs.Tryd.f68
noncomputable def c64 : Code := bodyOf Go.Proofs.Tryd.f64
noncomputable def c65 : Code := bodyOf Go.Proofs.Tryd.f65
noncomputable def c63 : Code := bodyOf Go.Proofs.Tryd.f63
noncomputable def c87 : Code := bodyOf Go.Proofs.Tryd.f87
noncomputable def c67 : Code := bodyOf Go.Proofs.Tryd.f67
noncomputable def c69 : Code := bodyOf Go.Proofs.Tryd.f69
noncomputable def c44 : Code := bodyOf Go.Proofs.Tryd.f44
noncomputable def c43 : Code := bodyOf Go.Proofs.Tryd.f43
noncomputable def c15 : Code := bodyOf Go.Proofs.Tryd.f15
noncomputable def c70 : Code := bodyOf Go.Proofs.Tryd.f70
noncomputable def c46 : Code := bodyOf Go.Proofs.Tryd.f46
noncomputable def c45 : Code := bodyOf Go.Proofs.Tryd.f45
noncomputable def c73 : Code := bodyOf Go.Proofs.Tryd.f73
noncomputable def c50 : Code := bodyOf Go.Proofs.Tryd.f50
noncomputable def c59 : Code := bodyOf Go.Proofs.Tryd.f59
noncomputable def c51 : Code := bodyOf Go.Proofs.Tryd.f51
noncomputable def c20 : Code := bodyOf Go.Proofs.Tryd.f20
noncomputable def c49 : Code := bodyOf Go.Proofs.Tryd.f49
noncomputable def c18 : Code := bodyOf Go.Proofs.Tryd.f18
noncomputable def c16 : Code := bodyOf Go.Proofs.Tryd.f16
noncomputable def c48 : Code := bodyOf Go.Proofs.Tryd.f48
noncomputable def c47 : Code := bodyOf Go.Proofs.Tryd.f47
noncomputable def c53 : Code := bodyOf Go.Proofs.Tryd.f53
noncomputable def c105 : Code := bodyOf Go.Proofs.Tryd.f105
noncomputable def c92 : Code := bodyOf Go.Proofs.Tryd.f92
noncomputable def c74 : Code := bodyOf Go.Proofs.Tryd.f74
noncomputable def c75 : Code := bodyOf Go.Proofs.Tryd.f75
noncomputable def c76 : Code := bodyOf Go.Proofs.Tryd.f76
noncomputable def c52 : Code := bodyOf Go.Proofs.Tryd.f52
noncomputable def c21 : Code := bodyOf Go.Proofs.Tryd.f21
noncomputable def c19 : Code := bodyOf Go.Proofs.Tryd.f19
noncomputable def c17 : Code := bodyOf Go.Proofs.Tryd.f17
noncomputable def c77 : Code := bodyOf Go.Proofs.Tryd.f77
noncomputable def c54 : Code := bodyOf Go.Proofs.Tryd.f54
noncomputable def c24 : Code := bodyOf Go.Proofs.Tryd.f24
noncomputable def c55 : Code := bodyOf Go.Proofs.Tryd.f55
noncomputable def c25 : Code := bodyOf Go.Proofs.Tryd.f25
noncomputable def c22 : Code := bodyOf Go.Proofs.Tryd.f22
noncomputable def c23 : Code := bodyOf Go.Proofs.Tryd.f23
noncomputable def c4 : Code := bodyOf Go.Proofs.Tryd.f4
noncomputable def o14 : List (Nat × PI) := []
noncomputable def o42 : List (Nat × PI) := []
noncomputable def o86 : List (Nat × PI) := [(2, PI.of [0, 1, 2, 3, 4, 5, 6, 7, 8, 9, 10, 11, 12]), (3, PI.of [0, 1, 2, 3, 4, 5, 6, 7, 8, 9]), (4, PI.of [0, 1, 2, 3, 4, 5, 6, 7, 8, 9, 10, 11, 12, 13, 14])]
noncomputable def o66 : List (Nat × PI) := []
noncomputable def o88 : List (Nat × PI) := []
noncomputable def o85 : List (Nat × PI) := []
noncomputable def o68 : List (Nat × PI) := []
noncomputable def o64 : List (Nat × PI) := []
noncomputable def o65 : List (Nat × PI) := []
noncomputable def o63 : List (Nat × PI) := []
noncomputable def o87 : List (Nat × PI) := []
noncomputable def o67 : List (Nat × PI) := []
noncomputable def o69 : List (Nat × PI) := []
noncomputable def o44 : List (Nat × PI) := []
noncomputable def o43 : List (Nat × PI) := []
noncomputable def o15 : List (Nat × PI) := []
noncomputable def o70 : List (Nat × PI) := []
noncomputable def o46 : List (Nat × PI) := []
noncomputable def o45 : List (Nat × PI) := []
noncomputable def o73 : List (Nat × PI) := []
noncomputable def o50 : List (Nat × PI) := []
noncomputable def o59 : List (Nat × PI) := []
noncomputable def o51 : List (Nat × PI) := []
noncomputable def o20 : List (Nat × PI) := []
noncomputable def o49 : List (Nat × PI) := []
noncomputable def o18 : List (Nat × PI) := []
noncomputable def o16 : List (Nat × PI) := []
noncomputable def o48 : List (Nat × PI) := [(1, PI.of [0, 1, 3, 4, 6, 7, 8, 9, 2, 5, 10, 11])]
noncomputable def o47 : List (Nat × PI) := []
noncomputable def o53 : List (Nat × PI) := []
noncomputable def o105 : List (Nat × PI) := []
noncomputable def o92 : List (Nat × PI) := []
noncomputable def o74 : List (Nat × PI) := []
noncomputable def o75 : List (Nat × PI) := []
noncomputable def o76 : List (Nat × PI) := []
noncomputable def o52 : List (Nat × PI) := []
noncomputable def o21 : List (Nat × PI) := []
noncomputable def o19 : List (Nat × PI) := []
noncomputable def o17 : List (Nat × PI) := []
noncomputable def o77 : List (Nat × PI) := []
noncomputable def o54 : List (Nat × PI) := []
noncomputable def o24 : List (Nat × PI) := []
noncomputable def o55 : List (Nat × PI) := []
noncomputable def o25 : List (Nat × PI) := []
noncomputable def o22 : List (Nat × PI) := []
noncomputable def o23 : List (Nat × PI) := [(4, PI.of [0, 1, 2, 3, 4, 5, 6, 7])]
noncomputable def o4 : List (Nat × PI) := [(6, PI.of [0, 1, 2, 3, 4, 6, 5, 7, 8, 9, 10, 11, 13, 12, 14, 15, 16]), (15, PI.of [0, 1, 2, 3, 4, 5, 6, 7, 8, 9, 10, 11, 12, 13, 14, 15, 16])]
abbrev uu : AV := .sc undef
noncomputable def tzG : Nat → List AV → Tm
 | _, [] => []
 | i, x :: l => (i, x) :: tzG (i + 1) l
noncomputable def tz (l : List AV) : Tm := tzG 0 l
noncomputable def tf : Nat → Nat → (Nat → AV) → Tm
 | 0, _, _ => []
 | n + 1, i, t => (i, t i) :: tf n (i + 1) t
noncomputable def ut : Nat → AV := fun _ => uu
noncomputable def ud : List (Nat × AV) → (Nat → AV) → Nat → AV
 | [], t, i => t i
 | (j, v) :: r, t, i => match Nat.beq j i with
  | true => v
  | false => ud r t i
noncomputable def ti0 (t : Nat) : Option TI := (tis[t]?).getD none
noncomputable def cd : Code → List Nat → Code
 | c, [] => c
 | .seq a b, i :: p => cd (if i = 0 then a else b) p
 | .cond _ a b, i :: p => cd (if i = 1 then a else b) p
 | .block _ a, _ :: p => cd a p
 | .loop a, _ :: p => cd a p
 | c, _ => c
noncomputable def f14 (p : Pr β) (n : Nat) (a0 : AV) (H : Heap) (k : AV → Heap → Option β) : Option β :=
 p.len a0 fun t4 =>
 p.bin .gtr t4 (.sc (.int .i64 1048576)) fun t5 =>
 k t5 H
theorem f14_body (p : Pr β) (n : Nat) (a0 : AV) (H : Heap) (k : AV → Heap → Option β) : evalBody ti0 p n ⟨c14, 6, Go.Proofs.Tryd.f14.results.toList, o14⟩ [a0] H k = f14 p n a0 H k := by kernel_rfl
noncomputable def f42_l0 (p : Pr β) (n : Nat)  (k : AV → Heap → Option β) : Nat → AV → AV → AV → Heap → Option β
 | 0, _, _, _, _ => none
 | m + 1, t0, t3, t4, H => p.len t0 fun t10 =>
   p.bin .lss t4 t10 fun t11 =>
   p.guard t11 true H (fun k' => k' t4 H) fun t13 H =>
   p.guard t11 true H (fun k' => p.bin .lss t13 (.sc (.int .i64 4000)) fun t' => k' t' H) fun t14 H =>
   p.pick t11 t14 (.sc (.bool false)) fun t15 =>
   p.cond t15
   (p.bin .mul t3 (.sc (.int .i64 137)) fun t19 =>
   p.iadr 1 t0 t4 fun t22 =>
   p.load false 1 t22 H fun t23 =>
   p.cvI .i64 t23 fun t24 =>
   p.bin .add t19 t24 fun t25 =>
   p.bin .add t25 (.sc (.int .i64 11)) fun t26 =>
   p.bin .and t26 (.sc (.int .i64 1073741823)) fun t27 =>
   p.bin .add t4 (.sc (.int .i64 1)) fun t17 =>
   f42_l0 p n  k m t0 t27 t17 H)
   (p.fill [.nl, (.sc (.int .i64 0)), (.sc (.int .i64 0))] [(0, 1, t0), (2, 1, t3)] fun ct30 =>
   p.box (.agg ct30) H fun t31 H =>
   k t31 H)
noncomputable def f42 (p : Pr β) (n : Nat) (a0 : AV) (H : Heap) (k : AV → Heap → Option β) : Option β :=
 p.len a0 fun t6 =>
 p.bin .add (.sc (.int .i64 128361)) t6 fun t7 =>
 f42_l0 p n  k n a0 t7 (.sc (.int .i64 0)) H
noncomputable def f42_L0 (p : Pr β) (n : Nat)  (k : AV → Heap → Option β) (m : Nat) (tm : Tm) (H : Heap) : Option β :=
 iterC 32 (fun tm H k => evalCode ti0 p o42 32 n (cd c42 [1, 1, 0, 1, 0, 0]) tm H k) (blkK 0 (seqK (fun tm H => evalCode ti0 p o42 32 n (cd c42 [1, 1, 1]) tm H (endK ti0 p Go.Proofs.Tryd.f42.results.toList k)) (endK ti0 p Go.Proofs.Tryd.f42.results.toList k))) m tm H
theorem f42_L0_step (p : Pr β) (n : Nat)  (k : AV → Heap → Option β) (m0 : Nat) (t : Nat → AV) (H : Heap) : f42_L0 p n  k (m0 + 1) (tf 32 0 t) H =
 p.len (t 0) fun t10 =>
 p.bin .lss (t 4) t10 fun t11 =>
 p.guard t11 true H (fun k' => k' (t 4) H) fun t13 H =>
 p.guard t11 true H (fun k' => p.bin .lss t13 (.sc (.int .i64 4000)) fun t' => k' t' H) fun t14 H =>
 p.pick t11 t14 (.sc (.bool false)) fun t15 =>
 p.cond t15
 (p.bin .mul (t 3) (.sc (.int .i64 137)) fun t19 =>
 p.iadr 1 (t 0) (t 4) fun t22 =>
 p.load false 1 t22 H fun t23 =>
 p.cvI .i64 t23 fun t24 =>
 p.bin .add t19 t24 fun t25 =>
 p.bin .add t25 (.sc (.int .i64 11)) fun t26 =>
 p.bin .and t26 (.sc (.int .i64 1073741823)) fun t27 =>
 p.bin .add (t 4) (.sc (.int .i64 1)) fun t17 =>
 f42_L0 p n  k m0 (tf 32 0 (ud [(3, t27), (4, t17), (8, (t 4)), (9, (t 0)), (10, t10), (11, t11), (12, t11), (13, t13), (14, t14), (15, t15), (16, (t 4)), (17, t17), (18, (t 3)), (19, t19), (20, (t 0)), (21, (t 4)), (22, t22), (23, t23), (24, t24), (25, t25), (26, t26), (27, t27)] t)) H)
 (p.fill [.nl, (.sc (.int .i64 0)), (.sc (.int .i64 0))] [(0, 1, (t 0)), (2, 1, (t 3))] fun ct30 =>
 p.box (.agg ct30) H fun t31 H =>
 k t31 H) := by kernel_rfl
theorem f42_l0_eq (p : Pr β) (n : Nat)  (k : AV → Heap → Option β)   (m0 : Nat) : ∀ (t : Nat → AV) (H : Heap), f42_L0 p n  k m0 (tf 32 0 t) H = f42_l0 p n  k m0 (t 0) (t 3) (t 4) H := by
 induction m0 with
 | zero => intros; rfl
 | succ m0 ih =>
  intro t H
  rw [f42_L0_step]
  simp only [ih]
  kernel_rfl
theorem f42_raw (p : Pr β) (n : Nat) (a0 : AV) (H : Heap) (k : AV → Heap → Option β) : evalBody ti0 p n ⟨c42, 32, Go.Proofs.Tryd.f42.results.toList, o42⟩ [a0] H k =
 p.len a0 fun t6 =>
 p.bin .add (.sc (.int .i64 128361)) t6 fun t7 =>
 f42_L0 p n  k n (tf 32 0 (ud [(0, a0), (2, (.sc (.pointer none))), (3, t7), (4, (.sc (.int .i64 0))), (5, a0), (6, t6), (7, t7)] ut)) H := by kernel_rfl
theorem f42_body (p : Pr β) (n : Nat) (a0 : AV) (H : Heap) (k : AV → Heap → Option β) : evalBody ti0 p n ⟨c42, 32, Go.Proofs.Tryd.f42.results.toList, o42⟩ [a0] H k = f42 p n a0 H k := by
 rw [f42_raw]
 simp only [f42_l0_eq]
 kernel_rfl
noncomputable def f86 (p : Pr β) (n : Nat) (a0 : AV) (H : Heap) (k : AV → Heap → Option β) : Option β :=
 p.nil a0 fun t6 =>
 p.fadr 2 t6 fun t7 =>
 p.load false 1 t7 H fun t8 =>
 p.bin .mul t8 (.sc (.int .i64 6364136223846793005)) fun t9 =>
 p.bin .add t9 (.sc (.int .i64 1442695040888963407)) fun t10 =>
 p.nil a0 fun t11 =>
 p.fadr 2 t11 fun t12 =>
 p.store 1 t12 t10 H fun H =>
 p.nil a0 fun t14 =>
 p.fadr 2 t14 fun t15 =>
 p.load false 1 t15 H fun t16 =>
 p.bin .shr t16 (.sc (.int .u64 33)) fun t17 =>
 p.nil a0 fun t19 =>
 p.fadr 2 t19 fun t20 =>
 p.load false 1 t20 H fun t21 =>
 p.bin .shr t21 (.sc (.int .u64 47)) fun t22 =>
 p.bin .xor t17 t22 fun t23 =>
 p.bin .and t23 (.sc (.int .i64 255)) fun t24 =>
 p.nil a0 fun t26 =>
 p.fadr 1 t26 fun t27 =>
 p.load false 1 t27 H fun t28 =>
 p.nil a0 fun t30 =>
 p.fadr 0 t30 fun t31 =>
 p.load false 1 t31 H fun t32 =>
 p.len t32 fun t33 =>
 p.bin .lss t28 t33 fun t34 =>
 letJ (fun (t3 : AV) (H : Heap) => k t3 H) fun j1 =>
 p.cond t34
 (p.nil a0 fun t37 =>
 p.fadr 0 t37 fun t38 =>
 p.load false 1 t38 H fun t39 =>
 p.nil a0 fun t41 =>
 p.fadr 1 t41 fun t42 =>
 p.load false 1 t42 H fun t43 =>
 p.iadr 1 t39 t43 fun t44 =>
 p.load false 1 t44 H fun t45 =>
 p.cvI .i64 t45 fun t46 =>
 p.bin .add t24 t46 fun t47 =>
 p.bin .and t47 (.sc (.int .i64 255)) fun t48 =>
 p.nil a0 fun t51 =>
 p.fadr 1 t51 fun t52 =>
 p.load false 1 t52 H fun t53 =>
 p.bin .add t53 (.sc (.int .i64 1)) fun t54 =>
 p.nil a0 fun t55 =>
 p.fadr 1 t55 fun t56 =>
 p.store 1 t56 t54 H fun H =>
 j1 t48 H)
 (j1 t24 H)
theorem f86_body (p : Pr β) (n : Nat) (a0 : AV) (H : Heap) (k : AV → Heap → Option β) : evalBody ti0 p n ⟨c86, 58, Go.Proofs.Tryd.f86.results.toList, o86⟩ [a0] H k = f86 p n a0 H k := by kernel_rfl
noncomputable def f66 (p : Pr β) (n : Nat) (a0 a1 : AV) (H : Heap) (k : AV → Heap → Option β) : Option β :=
 p.bin .leq a1 (.sc (.int .i64 0)) fun t9 =>
 p.cond t9
 (k (.sc (.int .i64 0)) H)
 (p.bin .leq a1 (.sc (.int .i64 256)) fun t11 =>
 p.cond t11
 (p.call 3 (.fn 86 [] []) [a0] H fun t13 H =>
 p.bin .rem t13 a1 fun t15 =>
 k t15 H)
 (p.call 3 (.fn 86 [] []) [a0] H fun t17 H =>
 p.call 3 (.fn 86 [] []) [a0] H fun t19 H =>
 p.call 3 (.fn 86 [] []) [a0] H fun t21 H =>
 p.bin .mul t17 (.sc (.int .i64 65536)) fun t23 =>
 p.bin .mul t19 (.sc (.int .i64 256)) fun t25 =>
 p.bin .add t23 t25 fun t26 =>
 p.bin .add t26 t21 fun t28 =>
 p.bin .rem t28 a1 fun t30 =>
 k t30 H))
theorem f66_body (p : Pr β) (n : Nat) (a0 a1 : AV) (H : Heap) (k : AV → Heap → Option β) : evalBody ti0 p n ⟨c66, 31, Go.Proofs.Tryd.f66.results.toList, o66⟩ [a0, a1] H k = f66 p n a0 a1 H k := by kernel_rfl
noncomputable def f88 (p : Pr β) (n : Nat) (a0 a1 : AV) (H : Heap) (k : AV → Heap → Option β) : Option β :=
 p.len a1 fun t8 =>
 p.call 3 (.fn 66 [] []) [a0, t8] H fun t9 H =>
 p.iadr 1 a1 t9 fun t10 =>
 p.load false 1 t10 H fun t11 =>
 k t11 H
theorem f88_body (p : Pr β) (n : Nat) (a0 a1 : AV) (H : Heap) (k : AV → Heap → Option β) : evalBody ti0 p n ⟨c88, 12, Go.Proofs.Tryd.f88.results.toList, o88⟩ [a0, a1] H k = f88 p n a0 a1 H k := by kernel_rfl
noncomputable def f85 (p : Pr β) (n : Nat) (a0 : AV) (H : Heap) (k : AV → Heap → Option β) : Option β :=
 p.fill [(.sc (.string ⟨#[]⟩)), (.sc (.string ⟨#[]⟩)), (.sc (.string ⟨#[]⟩)), (.sc (.string ⟨#[]⟩)), (.sc (.string ⟨#[]⟩)), (.sc (.string ⟨#[]⟩)), (.sc (.string ⟨#[]⟩)), (.sc (.string ⟨#[]⟩)), (.sc (.string ⟨#[]⟩)), (.sc (.string ⟨#[]⟩)), (.sc (.string ⟨#[]⟩)), (.sc (.string ⟨#[]⟩)), (.sc (.string ⟨#[]⟩))] [(0, 1, (.sc (.string ⟨#[97]⟩))), (1, 1, (.sc (.string ⟨#[98]⟩))), (2, 1, (.sc (.string ⟨#[97, 47, 98]⟩))), (3, 1, (.sc (.string ⟨#[97, 47, 99]⟩))), (4, 1, (.sc (.string ⟨#[97, 47, 98, 47, 99]⟩))), (5, 1, (.sc (.string ⟨#[97, 47, 98, 47, 99, 47, 100]⟩))), (6, 1, (.sc (.string ⟨#[36, 115]⟩))), (7, 1, (.sc (.string ⟨#[36, 115, 47, 97]⟩))), (8, 1, (.sc (.string ⟨#[47]⟩))), (9, 1, (.sc (.string ⟨#[97, 47]⟩))), (10, 1, (.sc (.string ⟨#[47, 97]⟩))), (11, 1, (.sc (.string ⟨#[98, 47, 98]⟩))), (12, 1, (.sc (.string ⟨#[195, 169, 47, 97]⟩)))] fun ct4 => p.newSl 13 1 ct4 true H fun t4 H =>
 p.call 9 (.fn 88 [] []) [a0, t4] H fun t5 H =>
 k t5 H
theorem f85_body (p : Pr β) (n : Nat) (a0 : AV) (H : Heap) (k : AV → Heap → Option β) : evalBody ti0 p n ⟨c85, 6, Go.Proofs.Tryd.f85.results.toList, o85⟩ [a0] H k = f85 p n a0 H k := by kernel_rfl
noncomputable def f68_l0 (p : Pr β) (n : Nat)  (k : AV → Heap → Option β) : Nat → AV → AV → AV → AV → Heap → Option β
 | 0, _, _, _, _, _ => none
 | m + 1, t0, t1, t5, t6, H => p.bin .lss t6 t1 fun t10 =>
   p.cond t10
   (p.call 3 (.fn 86 [] []) [t0] H fun t15 H =>
   p.cvI .u8 t15 fun t16 =>
   p.fill [(.sc (.int .u8 0))] [(0, 1, t16)] fun ct17 => p.newSl 1 1 ct17 true H fun t17 H =>
   p.app 1 1 t5 t17 H fun t18 H =>
   p.bin .add t6 (.sc (.int .i64 1)) fun t12 =>
   f68_l0 p n  k m t0 t1 t18 t12 H)
   (k t5 H)
noncomputable def f68 (p : Pr β) (n : Nat) (a0 a1 : AV) (H : Heap) (k : AV → Heap → Option β) : Option β :=
 f68_l0 p n  k n a0 a1 .nl (.sc (.int .i64 0)) H
noncomputable def f68_L0 (p : Pr β) (n : Nat)  (k : AV → Heap → Option β) (m : Nat) (tm : Tm) (H : Heap) : Option β :=
 iterC 20 (fun tm H k => evalCode ti0 p o68 20 n (cd c68 [1, 1, 0, 1, 0, 0]) tm H k) (blkK 0 (seqK (fun tm H => evalCode ti0 p o68 20 n (cd c68 [1, 1, 1]) tm H (endK ti0 p Go.Proofs.Tryd.f68.results.toList k)) (endK ti0 p Go.Proofs.Tryd.f68.results.toList k))) m tm H
theorem f68_L0_step (p : Pr β) (n : Nat)  (k : AV → Heap → Option β) (m0 : Nat) (t : Nat → AV) (H : Heap) : f68_L0 p n  k (m0 + 1) (tf 20 0 t) H =
 p.bin .lss (t 6) (t 1) fun t10 =>
 p.cond t10
 (p.call 3 (.fn 86 [] []) [(t 0)] H fun t15 H =>
 p.cvI .u8 t15 fun t16 =>
 p.fill [(.sc (.int .u8 0))] [(0, 1, t16)] fun ct17 => p.newSl 1 1 ct17 true H fun t17 H =>
 p.app 1 1 (t 5) t17 H fun t18 H =>
 p.bin .add (t 6) (.sc (.int .i64 1)) fun t12 =>
 f68_L0 p n  k m0 (tf 20 0 (ud [(5, t18), (6, t12), (8, (t 6)), (9, (t 1)), (10, t10), (11, (t 6)), (12, t12), (13, (t 5)), (14, (t 0)), (15, t15), (16, t16), (17, t17), (18, t18)] t)) H)
 (k (t 5) H) := by kernel_rfl
theorem f68_l0_eq (p : Pr β) (n : Nat)  (k : AV → Heap → Option β)   (m0 : Nat) : ∀ (t : Nat → AV) (H : Heap), f68_L0 p n  k m0 (tf 20 0 t) H = f68_l0 p n  k m0 (t 0) (t 1) (t 5) (t 6) H := by
 induction m0 with
 | zero => intros; rfl
 | succ m0 ih =>
  intro t H
  rw [f68_L0_step]
  simp only [ih]
  kernel_rfl
theorem f68_raw (p : Pr β) (n : Nat) (a0 a1 : AV) (H : Heap) (k : AV → Heap → Option β) : evalBody ti0 p n ⟨c68, 20, Go.Proofs.Tryd.f68.results.toList, o68⟩ [a0, a1] H k =
 f68_L0 p n  k n (tf 20 0 (ud [(0, a0), (1, a1), (4, .nl), (5, .nl), (6, (.sc (.int .i64 0))), (7, .nl)] ut)) H := by kernel_rfl
theorem f68_body (p : Pr β) (n : Nat) (a0 a1 : AV) (H : Heap) (k : AV → Heap → Option β) : evalBody ti0 p n ⟨c68, 20, Go.Proofs.Tryd.f68.results.toList, o68⟩ [a0, a1] H k = f68 p n a0 a1 H k := by
 rw [f68_raw]
 simp only [f68_l0_eq]
 kernel_rfl
noncomputable def f64 (p : Pr β) (n : Nat) (a0 a1 : AV) (H : Heap) (k : AV → Heap → Option β) : Option β :=
 p.call 3 (.fn 66 [] []) [a0, a1] H fun t7 H =>
 p.bin .eql t7 (.sc (.int .i64 0)) fun t8 =>
 k t8 H
theorem f64_body (p : Pr β) (n : Nat) (a0 a1 : AV) (H : Heap) (k : AV → Heap → Option β) : evalBody ti0 p n ⟨c64, 9, Go.Proofs.Tryd.f64.results.toList, o64⟩ [a0, a1] H k = f64 p n a0 a1 H k := by kernel_rfl
noncomputable def f65 (p : Pr β) (n : Nat) (a0 : AV) (H : Heap) (k : AV → Heap → Option β) : Option β :=
 p.new [(.sc (.string ⟨#[]⟩)), .nl, (.sc (.int .i64 0)), (.sc (.bool false))] H fun t2 H =>
 p.call 9 (.fn 85 [] []) [a0] H fun t4 H =>
 p.call 3 (.fn 66 [] []) [a0, (.sc (.int .i64 3))] H fun t7 H =>
 p.call 23 (.fn 68 [] []) [a0, t7] H fun t8 H =>
 p.call 3 (.fn 66 [] []) [a0, (.sc (.int .i64 3))] H fun t10 H =>
 p.call 4 (.fn 64 [] []) [a0, (.sc (.int .i64 4))] H fun t12 H =>
 p.fill [(.sc (.string ⟨#[]⟩)), .nl, (.sc (.int .i64 0)), (.sc (.bool false))] [(0, 1, t4), (1, 1, t8), (2, 1, t10), (3, 1, t12)] fun ct13 =>
 p.store 4 t2 (.agg ct13) H fun H =>
 p.load true 4 t2 H fun r0 =>
 k r0 H
theorem f65_body (p : Pr β) (n : Nat) (a0 : AV) (H : Heap) (k : AV → Heap → Option β) : evalBody ti0 p n ⟨c65, 14, Go.Proofs.Tryd.f65.results.toList, o65⟩ [a0] H k = f65 p n a0 H k := by kernel_rfl
noncomputable def f63_l0 (p : Pr β) (n : Nat)  (k : AV → Heap → Option β) : Nat → AV → AV → AV → Heap → Option β
 | 0, _, _, _, _ => none
 | m + 1, t0, t5, t6, H => p.bin .gtr t6 (.sc (.int .i64 0)) fun t13 =>
   p.cond t13
   (p.call 39 (.fn 65 [] []) [t0] H fun t18 H =>
   p.fill [(.sc (.string ⟨#[]⟩)), .nl, (.sc (.int .i64 0)), (.sc (.bool false))] [(0, 4, t18)] fun ct19 => p.newSl 1 4 ct19 true H fun t19 H =>
   p.app 4 56 t5 t19 H fun t20 H =>
   p.bin .sub t6 (.sc (.int .i64 1)) fun t15 =>
   f63_l0 p n  k m t0 t20 t15 H)
   (k t5 H)
noncomputable def f63 (p : Pr β) (n : Nat) (a0 a1 : AV) (H : Heap) (k : AV → Heap → Option β) : Option β :=
 p.bin .add a1 (.sc (.int .i64 1)) fun t10 =>
 p.call 3 (.fn 66 [] []) [a0, t10] H fun t11 H =>
 f63_l0 p n  k n a0 .nl t11 H
noncomputable def f63_L0 (p : Pr β) (n : Nat)  (k : AV → Heap → Option β) (m : Nat) (tm : Tm) (H : Heap) : Option β :=
 iterC 22 (fun tm H k => evalCode ti0 p o63 22 n (cd c63 [1, 1, 0, 1, 0, 0]) tm H k) (blkK 0 (seqK (fun tm H => evalCode ti0 p o63 22 n (cd c63 [1, 1, 1]) tm H (endK ti0 p Go.Proofs.Tryd.f63.results.toList k)) (endK ti0 p Go.Proofs.Tryd.f63.results.toList k))) m tm H
theorem f63_L0_step (p : Pr β) (n : Nat)  (k : AV → Heap → Option β) (m0 : Nat) (t : Nat → AV) (H : Heap) : f63_L0 p n  k (m0 + 1) (tf 22 0 t) H =
 p.bin .gtr (t 6) (.sc (.int .i64 0)) fun t13 =>
 p.cond t13
 (p.call 39 (.fn 65 [] []) [(t 0)] H fun t18 H =>
 p.fill [(.sc (.string ⟨#[]⟩)), .nl, (.sc (.int .i64 0)), (.sc (.bool false))] [(0, 4, t18)] fun ct19 => p.newSl 1 4 ct19 true H fun t19 H =>
 p.app 4 56 (t 5) t19 H fun t20 H =>
 p.bin .sub (t 6) (.sc (.int .i64 1)) fun t15 =>
 f63_L0 p n  k m0 (tf 22 0 (ud [(5, t20), (6, t15), (12, (t 6)), (13, t13), (14, (t 6)), (15, t15), (16, (t 5)), (17, (t 0)), (18, t18), (19, t19), (20, t20)] t)) H)
 (k (t 5) H) := by kernel_rfl
theorem f63_l0_eq (p : Pr β) (n : Nat)  (k : AV → Heap → Option β)   (m0 : Nat) : ∀ (t : Nat → AV) (H : Heap), f63_L0 p n  k m0 (tf 22 0 t) H = f63_l0 p n  k m0 (t 0) (t 5) (t 6) H := by
 induction m0 with
 | zero => intros; rfl
 | succ m0 ih =>
  intro t H
  rw [f63_L0_step]
  simp only [ih]
  kernel_rfl
theorem f63_raw (p : Pr β) (n : Nat) (a0 a1 : AV) (H : Heap) (k : AV → Heap → Option β) : evalBody ti0 p n ⟨c63, 22, Go.Proofs.Tryd.f63.results.toList, o63⟩ [a0, a1] H k =
 p.bin .add a1 (.sc (.int .i64 1)) fun t10 =>
 p.call 3 (.fn 66 [] []) [a0, t10] H fun t11 H =>
 f63_L0 p n  k n (tf 22 0 (ud [(0, a0), (1, a1), (4, .nl), (5, .nl), (6, t11), (7, .nl), (8, a0), (9, a1), (10, t10), (11, t11)] ut)) H := by kernel_rfl
theorem f63_body (p : Pr β) (n : Nat) (a0 a1 : AV) (H : Heap) (k : AV → Heap → Option β) : evalBody ti0 p n ⟨c63, 22, Go.Proofs.Tryd.f63.results.toList, o63⟩ [a0, a1] H k = f63 p n a0 a1 H k := by
 rw [f63_raw]
 simp only [f63_l0_eq]
 kernel_rfl
noncomputable def f87 (p : Pr β) (n : Nat) (a0 : AV) (H : Heap) (k : AV → Heap → Option β) : Option β :=
 p.call 4 (.fn 64 [] []) [a0, (.sc (.int .i64 3))] H fun t4 H =>
 p.cond t4
 (p.call 9 (.fn 85 [] []) [a0] H fun t6 H =>
 k t6 H)
 (p.fill [(.sc (.string ⟨#[]⟩)), (.sc (.string ⟨#[]⟩)), (.sc (.string ⟨#[]⟩)), (.sc (.string ⟨#[]⟩)), (.sc (.string ⟨#[]⟩)), (.sc (.string ⟨#[]⟩)), (.sc (.string ⟨#[]⟩)), (.sc (.string ⟨#[]⟩)), (.sc (.string ⟨#[]⟩)), (.sc (.string ⟨#[]⟩)), (.sc (.string ⟨#[]⟩)), (.sc (.string ⟨#[]⟩)), (.sc (.string ⟨#[]⟩)), (.sc (.string ⟨#[]⟩)), (.sc (.string ⟨#[]⟩)), (.sc (.string ⟨#[]⟩))] [(0, 1, (.sc (.string ⟨#[35]⟩))), (1, 1, (.sc (.string ⟨#[43]⟩))), (2, 1, (.sc (.string ⟨#[97, 47, 35]⟩))), (3, 1, (.sc (.string ⟨#[97, 47, 43]⟩))), (4, 1, (.sc (.string ⟨#[43, 47, 98]⟩))), (5, 1, (.sc (.string ⟨#[43, 47, 43]⟩))), (6, 1, (.sc (.string ⟨#[97, 47, 43, 47, 99]⟩))), (7, 1, (.sc (.string ⟨#[97, 47, 98, 47, 35]⟩))), (8, 1, (.sc (.string ⟨#[36, 115, 47, 35]⟩))), (9, 1, (.sc (.string ⟨#[36, 115, 47, 43]⟩))), (10, 1, (.sc (.string ⟨#[43, 47, 35]⟩))), (11, 1, (.sc (.string ⟨#[47, 43]⟩))), (12, 1, (.sc (.string ⟨#[47, 35]⟩))), (13, 1, (.sc (.string ⟨#[97, 47, 43, 47, 35]⟩))), (14, 1, (.sc (.string ⟨#[98, 47, 35]⟩))), (15, 1, (.sc (.string ⟨#[43, 47, 98, 47, 43]⟩)))] fun ct8 => p.newSl 16 1 ct8 true H fun t8 H =>
 p.call 9 (.fn 88 [] []) [a0, t8] H fun t9 H =>
 k t9 H)
theorem f87_body (p : Pr β) (n : Nat) (a0 : AV) (H : Heap) (k : AV → Heap → Option β) : evalBody ti0 p n ⟨c87, 10, Go.Proofs.Tryd.f87.results.toList, o87⟩ [a0] H k = f87 p n a0 H k := by kernel_rfl
noncomputable def f67 (p : Pr β) (n : Nat) (a0 : AV) (H : Heap) (k : AV → Heap → Option β) : Option β :=
 p.call 3 (.fn 66 [] []) [a0, (.sc (.int .i64 3))] H fun t4 H =>
 p.bin .eql t4 (.sc (.int .i64 0)) fun t6 =>
 p.cond t6
 (p.call 9 (.fn 85 [] []) [a0] H fun t8 H =>
 k t8 H)
 (p.bin .eql t4 (.sc (.int .i64 1)) fun t10 =>
 p.cond t10
 (p.call 9 (.fn 87 [] []) [a0] H fun t12 H =>
 k t12 H)
 (p.fill [(.sc (.string ⟨#[]⟩)), (.sc (.string ⟨#[]⟩)), (.sc (.string ⟨#[]⟩)), (.sc (.string ⟨#[]⟩)), (.sc (.string ⟨#[]⟩)), (.sc (.string ⟨#[]⟩)), (.sc (.string ⟨#[]⟩)), (.sc (.string ⟨#[]⟩)), (.sc (.string ⟨#[]⟩)), (.sc (.string ⟨#[]⟩)), (.sc (.string ⟨#[]⟩)), (.sc (.string ⟨#[]⟩)), (.sc (.string ⟨#[]⟩)), (.sc (.string ⟨#[]⟩)), (.sc (.string ⟨#[]⟩)), (.sc (.string ⟨#[]⟩))] [(0, 1, (.sc (.string ⟨#[]⟩))), (1, 1, (.sc (.string ⟨#[97, 43]⟩))), (2, 1, (.sc (.string ⟨#[97, 47, 98, 43]⟩))), (3, 1, (.sc (.string ⟨#[43, 97]⟩))), (4, 1, (.sc (.string ⟨#[35, 47, 97]⟩))), (5, 1, (.sc (.string ⟨#[97, 35]⟩))), (6, 1, (.sc (.string ⟨#[97, 47, 35, 47, 98]⟩))), (7, 1, (.sc (.string ⟨#[35, 35]⟩))), (8, 1, (.sc (.string ⟨#[43, 43]⟩))), (9, 1, (.sc (.string ⟨#[97, 47, 98, 47, 99, 47, 100, 47, 101, 47, 102]⟩))), (10, 1, (.sc (.string ⟨#[97, 47, 98, 47, 99, 47, 100, 47, 101, 47, 102, 47, 103]⟩))), (11, 1, (.sc (.string ⟨#[47, 47, 47, 47, 47]⟩))), (12, 1, (.sc (.string ⟨#[47, 47, 47, 47, 47, 47]⟩))), (13, 1, (.sc (.string ⟨#[0]⟩))), (14, 1, (.sc (.string ⟨#[255]⟩))), (15, 1, (.sc (.string ⟨#[49, 50, 51, 52, 53, 54, 55, 56, 57, 48, 49, 50, 51, 52, 53, 54, 55, 56, 57, 48, 49, 50, 51, 52, 53, 54, 55, 56, 57, 48, 49, 50, 51, 52, 53, 54, 55, 56, 57, 48, 49, 50, 51, 52, 53, 54, 55, 56, 57, 48, 49, 50, 51, 52, 53, 54, 55, 56, 57, 48, 49]⟩)))] fun ct14 => p.newSl 16 1 ct14 true H fun t14 H =>
 p.call 9 (.fn 88 [] []) [a0, t14] H fun t15 H =>
 k t15 H))
theorem f67_body (p : Pr β) (n : Nat) (a0 : AV) (H : Heap) (k : AV → Heap → Option β) : evalBody ti0 p n ⟨c67, 16, Go.Proofs.Tryd.f67.results.toList, o67⟩ [a0] H k = f67 p n a0 H k := by kernel_rfl
noncomputable def f69 (p : Pr β) (n : Nat) (a0 a1 : AV) (H : Heap) (k : AV → Heap → Option β) : Option β :=
 p.len a1 fun t8 =>
 p.call 3 (.fn 66 [] []) [a0, t8] H fun t9 H =>
 p.iadr 1 a1 t9 fun t10 =>
 p.load false 1 t10 H fun t11 =>
 k t11 H
theorem f69_body (p : Pr β) (n : Nat) (a0 a1 : AV) (H : Heap) (k : AV → Heap → Option β) : evalBody ti0 p n ⟨c69, 12, Go.Proofs.Tryd.f69.results.toList, o69⟩ [a0, a1] H k = f69 p n a0 a1 H k := by kernel_rfl
noncomputable def f44 (p : Pr β) (n : Nat) (a0 : AV) (H : Heap) (k : AV → Heap → Option β) : Option β :=
 p.new [(.sc (.string ⟨#[]⟩)), .nl, (.sc (.int .i64 0)), (.sc (.bool false))] H fun t2 H =>
 p.call 39 (.fn 65 [] []) [a0] H fun t5 H =>
 p.new [(.sc (.string ⟨#[]⟩)), .nl, (.sc (.int .i64 0)), (.sc (.bool false))] H fun t3 H =>
 p.store 4 t3 t5 H fun H =>
 p.call 3 (.fn 66 [] []) [a0, (.sc (.int .i64 12))] H fun t7 H =>
 p.bin .eql t7 (.sc (.int .i64 0)) fun t9 =>
 p.cond t9
 (p.call 9 (.fn 67 [] []) [a0] H fun t11 H =>
 p.fadr 0 t3 fun t12 =>
 p.store 1 t12 t11 H fun H =>
 p.load true 4 t3 H fun t27 =>
 p.store 4 t2 t27 H fun H =>
 p.load true 4 t2 H fun r0 =>
 k r0 H)
 (p.bin .eql t7 (.sc (.int .i64 1)) fun t14 =>
 p.cond t14
 (p.fill [(.sc (.int .i64 0)), (.sc (.int .i64 0))] [(0, 1, (.sc (.int .i64 40))), (1, 1, (.sc (.int .i64 41)))] fun ct17 => p.newSl 2 1 ct17 true H fun t17 H =>
 p.call 3 (.fn 69 [] []) [a0, t17] H fun t18 H =>
 p.call 23 (.fn 68 [] []) [a0, t18] H fun t19 H =>
 p.fadr 1 t3 fun t20 =>
 p.store 1 t20 t19 H fun H =>
 p.load true 4 t3 H fun t27 =>
 p.store 4 t2 t27 H fun H =>
 p.load true 4 t2 H fun r0 =>
 k r0 H)
 (p.bin .eql t7 (.sc (.int .i64 2)) fun t22 =>
 p.cond t22
 (p.fill [(.sc (.int .i64 0)), (.sc (.int .i64 0))] [(0, 1, (.sc (.int .i64 (-1)))), (1, 1, (.sc (.int .i64 3)))] fun ct24 => p.newSl 2 1 ct24 true H fun t24 H =>
 p.call 3 (.fn 69 [] []) [a0, t24] H fun t25 H =>
 p.fadr 2 t3 fun t26 =>
 p.store 1 t26 t25 H fun H =>
 p.load true 4 t3 H fun t27 =>
 p.store 4 t2 t27 H fun H =>
 p.load true 4 t2 H fun r0 =>
 k r0 H)
 (p.load true 4 t3 H fun t27 =>
 p.store 4 t2 t27 H fun H =>
 p.load true 4 t2 H fun r0 =>
 k r0 H)))
theorem f44_body (p : Pr β) (n : Nat) (a0 : AV) (H : Heap) (k : AV → Heap → Option β) : evalBody ti0 p n ⟨c44, 28, Go.Proofs.Tryd.f44.results.toList, o44⟩ [a0] H k = f44 p n a0 H k := by kernel_rfl
noncomputable def f43 (p : Pr β) (n : Nat) (a0 : AV) (H : Heap) (k : AV → Heap → Option β) : Option β :=
 p.call 37 (.fn 63 [] []) [a0, (.sc (.int .i64 8))] H fun t5 H =>
 p.call 4 (.fn 64 [] []) [a0, (.sc (.int .i64 4))] H fun t7 H =>
 letJ (fun (t3 : AV) (H : Heap) => k t3 H) fun j1 =>
 p.cond t7
 (p.call 39 (.fn 44 [] []) [a0] H fun t10 H =>
 p.fill [(.sc (.string ⟨#[]⟩)), .nl, (.sc (.int .i64 0)), (.sc (.bool false))] [(0, 4, t10)] fun ct11 => p.newSl 1 4 ct11 true H fun t11 H =>
 p.app 4 56 t5 t11 H fun t12 H =>
 j1 t12 H)
 (j1 t5 H)
theorem f43_body (p : Pr β) (n : Nat) (a0 : AV) (H : Heap) (k : AV → Heap → Option β) : evalBody ti0 p n ⟨c43, 14, Go.Proofs.Tryd.f43.results.toList, o43⟩ [a0] H k = f43 p n a0 H k := by kernel_rfl
noncomputable def f15 (p : Pr β) (n : Nat) (a0 : AV) (H : Heap) (k : AV → Heap → Option β) : Option β :=
 p.new [(.sc (.string ⟨#[]⟩)), .nl, (.sc (.int .i64 0)), (.sc (.bool false))] H fun t3 H =>
 p.call 60 (.fn 42 [] []) [a0] H fun t7 H =>
 p.call 37 (.fn 43 [] []) [t7] H fun t9 H =>
 p.call 39 (.fn 44 [] []) [t7] H fun t12 H =>
 p.store 4 t3 t12 H fun H =>
 p.load true 4 t3 H fun r1 =>
 k (packA [t9, r1]) H
theorem f15_body (p : Pr β) (n : Nat) (a0 : AV) (H : Heap) (k : AV → Heap → Option β) : evalBody ti0 p n ⟨c15, 13, Go.Proofs.Tryd.f15.results.toList, o15⟩ [a0] H k = f15 p n a0 H k := by kernel_rfl
noncomputable def f70_l0 (p : Pr β) (n : Nat)  (k : AV → Heap → Option β) : Nat → AV → AV → AV → AV → Heap → Option β
 | 0, _, _, _, _, _ => none
 | m + 1, t3, t7, t8, t9, H => p.bin .lss t9 t8 fun t10 =>
   p.cond t10
   (p.iadr 1 t7 t9 fun t11 =>
   p.load false 1 t11 H fun t12 =>
   p.app 1 1 t3 t12 H fun t15 H =>
   p.bin .add t9 (.sc (.int .i64 1)) fun t16 =>
   f70_l0 p n  k m t15 t7 t8 t16 H)
   (k t3 H)
noncomputable def f70 (p : Pr β) (n : Nat) (a0 : AV) (H : Heap) (k : AV → Heap → Option β) : Option β :=
 p.len a0 fun t8 =>
 f70_l0 p n  k n .nl a0 t8 (.sc (.int .i64 0)) H
noncomputable def f70_L0 (p : Pr β) (n : Nat)  (k : AV → Heap → Option β) (m : Nat) (tm : Tm) (H : Heap) : Option β :=
 iterC 18 (fun tm H k => evalCode ti0 p o70 18 n (cd c70 [1, 1, 0, 1, 0, 0]) tm H k) (blkK 0 (seqK (fun tm H => evalCode ti0 p o70 18 n (cd c70 [1, 1, 1]) tm H (endK ti0 p Go.Proofs.Tryd.f70.results.toList k)) (endK ti0 p Go.Proofs.Tryd.f70.results.toList k))) m tm H
theorem f70_L0_step (p : Pr β) (n : Nat)  (k : AV → Heap → Option β) (m0 : Nat) (t : Nat → AV) (H : Heap) : f70_L0 p n  k (m0 + 1) (tf 18 0 t) H =
 p.bin .lss (t 9) (t 8) fun t10 =>
 p.cond t10
 (p.iadr 1 (t 7) (t 9) fun t11 =>
 p.load false 1 t11 H fun t12 =>
 p.app 1 1 (t 3) t12 H fun t15 H =>
 p.bin .add (t 9) (.sc (.int .i64 1)) fun t16 =>
 f70_L0 p n  k m0 (tf 18 0 (ud [(3, t15), (5, t12), (9, t16), (10, t10), (11, t11), (12, t12), (13, (t 3)), (14, t12), (15, t15), (16, t16)] t)) H)
 (k (t 3) H) := by kernel_rfl
theorem f70_l0_eq (p : Pr β) (n : Nat)  (k : AV → Heap → Option β)   (m0 : Nat) : ∀ (t : Nat → AV) (H : Heap), f70_L0 p n  k m0 (tf 18 0 t) H = f70_l0 p n  k m0 (t 3) (t 7) (t 8) (t 9) H := by
 induction m0 with
 | zero => intros; rfl
 | succ m0 ih =>
  intro t H
  rw [f70_L0_step]
  simp only [ih]
  kernel_rfl
theorem f70_raw (p : Pr β) (n : Nat) (a0 : AV) (H : Heap) (k : AV → Heap → Option β) : evalBody ti0 p n ⟨c70, 18, Go.Proofs.Tryd.f70.results.toList, o70⟩ [a0] H k =
 p.len a0 fun t8 =>
 f70_L0 p n  k n (tf 18 0 (ud [(0, a0), (2, .nl), (3, .nl), (6, .nl), (7, a0), (8, t8), (9, (.sc (.int .i64 0)))] ut)) H := by kernel_rfl
theorem f70_body (p : Pr β) (n : Nat) (a0 : AV) (H : Heap) (k : AV → Heap → Option β) : evalBody ti0 p n ⟨c70, 18, Go.Proofs.Tryd.f70.results.toList, o70⟩ [a0] H k = f70 p n a0 H k := by
 rw [f70_raw]
 simp only [f70_l0_eq]
 kernel_rfl
noncomputable def f46 (p : Pr β) (n : Nat) (a0 : AV) (H : Heap) (k : AV → Heap → Option β) : Option β :=
 p.box a0 H fun t1 H =>
 p.new [(.sc (.string ⟨#[]⟩)), .nl, (.sc (.int .i64 0)), (.sc (.bool false))] H fun t2 H =>
 p.fadr 1 t1 fun t3 =>
 p.load false 1 t3 H fun t4 =>
 p.fill [.nl] [(0, 1, t4)] fun ct5 => p.newSl 1 1 ct5 true H fun t5 H =>
 p.call 23 (.fn 70 [] []) [t5] H fun t6 H =>
 p.fadr 1 t1 fun t7 =>
 p.store 1 t7 t6 H fun H =>
 p.load true 4 t1 H fun t8 =>
 p.store 4 t2 t8 H fun H =>
 p.load true 4 t2 H fun r0 =>
 k r0 H
theorem f46_body (p : Pr β) (n : Nat) (a0 : AV) (H : Heap) (k : AV → Heap → Option β) : evalBody ti0 p n ⟨c46, 9, Go.Proofs.Tryd.f46.results.toList, o46⟩ [a0] H k = f46 p n a0 H k := by kernel_rfl
noncomputable def f45_l0 (p : Pr β) (n : Nat)  (k : AV → Heap → Option β) : Nat → AV → AV → AV → AV → Heap → Option β
 | 0, _, _, _, _, _ => none
 | m + 1, t3, t7, t8, t9, H => p.bin .lss t9 t8 fun t10 =>
   p.cond t10
   (p.iadr 4 t7 t9 fun t11 =>
   p.load true 4 t11 H fun t12 =>
   p.new [(.sc (.string ⟨#[]⟩)), .nl, (.sc (.int .i64 0)), (.sc (.bool false))] H fun t5 H =>
   p.store 4 t5 t12 H fun H =>
   p.load true 4 t5 H fun t14 =>
   p.call 39 (.fn 46 [] []) [t14] H fun t15 H =>
   p.fill [(.sc (.string ⟨#[]⟩)), .nl, (.sc (.int .i64 0)), (.sc (.bool false))] [(0, 4, t15)] fun ct16 => p.newSl 1 4 ct16 true H fun t16 H =>
   p.app 4 56 t3 t16 H fun t17 H =>
   p.bin .add t9 (.sc (.int .i64 1)) fun t18 =>
   f45_l0 p n  k m t17 t7 t8 t18 H)
   (k t3 H)
noncomputable def f45 (p : Pr β) (n : Nat) (a0 : AV) (H : Heap) (k : AV → Heap → Option β) : Option β :=
 p.len a0 fun t8 =>
 f45_l0 p n  k n .nl a0 t8 (.sc (.int .i64 0)) H
noncomputable def f45_L0 (p : Pr β) (n : Nat)  (k : AV → Heap → Option β) (m : Nat) (tm : Tm) (H : Heap) : Option β :=
 iterC 20 (fun tm H k => evalCode ti0 p o45 20 n (cd c45 [1, 1, 0, 1, 0, 0]) tm H k) (blkK 0 (seqK (fun tm H => evalCode ti0 p o45 20 n (cd c45 [1, 1, 1]) tm H (endK ti0 p Go.Proofs.Tryd.f45.results.toList k)) (endK ti0 p Go.Proofs.Tryd.f45.results.toList k))) m tm H
theorem f45_L0_step (p : Pr β) (n : Nat)  (k : AV → Heap → Option β) (m0 : Nat) (t : Nat → AV) (H : Heap) : f45_L0 p n  k (m0 + 1) (tf 20 0 t) H =
 p.bin .lss (t 9) (t 8) fun t10 =>
 p.cond t10
 (p.iadr 4 (t 7) (t 9) fun t11 =>
 p.load true 4 t11 H fun t12 =>
 p.new [(.sc (.string ⟨#[]⟩)), .nl, (.sc (.int .i64 0)), (.sc (.bool false))] H fun t5 H =>
 p.store 4 t5 t12 H fun H =>
 p.load true 4 t5 H fun t14 =>
 p.call 39 (.fn 46 [] []) [t14] H fun t15 H =>
 p.fill [(.sc (.string ⟨#[]⟩)), .nl, (.sc (.int .i64 0)), (.sc (.bool false))] [(0, 4, t15)] fun ct16 => p.newSl 1 4 ct16 true H fun t16 H =>
 p.app 4 56 (t 3) t16 H fun t17 H =>
 p.bin .add (t 9) (.sc (.int .i64 1)) fun t18 =>
 f45_L0 p n  k m0 (tf 20 0 (ud [(3, t17), (5, t5), (9, t18), (10, t10), (11, t11), (12, t12), (13, (t 3)), (14, t14), (15, t15), (16, t16), (17, t17), (18, t18)] t)) H)
 (k (t 3) H) := by kernel_rfl
theorem f45_l0_eq (p : Pr β) (n : Nat)  (k : AV → Heap → Option β)   (m0 : Nat) : ∀ (t : Nat → AV) (H : Heap), f45_L0 p n  k m0 (tf 20 0 t) H = f45_l0 p n  k m0 (t 3) (t 7) (t 8) (t 9) H := by
 induction m0 with
 | zero => intros; rfl
 | succ m0 ih =>
  intro t H
  rw [f45_L0_step]
  simp only [ih]
  kernel_rfl
theorem f45_raw (p : Pr β) (n : Nat) (a0 : AV) (H : Heap) (k : AV → Heap → Option β) : evalBody ti0 p n ⟨c45, 20, Go.Proofs.Tryd.f45.results.toList, o45⟩ [a0] H k =
 p.len a0 fun t8 =>
 f45_L0 p n  k n (tf 20 0 (ud [(0, a0), (2, .nl), (3, .nl), (6, .nl), (7, a0), (8, t8), (9, (.sc (.int .i64 0)))] ut)) H := by kernel_rfl
theorem f45_body (p : Pr β) (n : Nat) (a0 : AV) (H : Heap) (k : AV → Heap → Option β) : evalBody ti0 p n ⟨c45, 20, Go.Proofs.Tryd.f45.results.toList, o45⟩ [a0] H k = f45 p n a0 H k := by
 rw [f45_raw]
 simp only [f45_l0_eq]
 kernel_rfl
noncomputable def f73 (p : Pr β) (n : Nat) (a0 : AV) (H : Heap) (k : AV → Heap → Option β) : Option β :=
 p.call 25 (.fn 91 [] []) [a0, (.sc (.string ⟨#[47]⟩))] H fun t4 H =>
 k t4 H
theorem f73_body (p : Pr β) (n : Nat) (a0 : AV) (H : Heap) (k : AV → Heap → Option β) : evalBody ti0 p n ⟨c73, 5, Go.Proofs.Tryd.f73.results.toList, o73⟩ [a0] H k = f73 p n a0 H k := by kernel_rfl
noncomputable def f50 (p : Pr β) (n : Nat) (a0 : AV) (H : Heap) (k : AV → Heap → Option β) : Option β :=
 p.call 4 (.fn 71 [] []) [a0] H fun t4 H =>
 p.guard t4 true H (fun k' => k' a0 H) fun t6 H =>
 p.guard t4 true H (fun k' => p.bin .neq t6 (.sc (.string ⟨#[]⟩)) fun t' => k' t' H) fun t7 H =>
 p.pick t4 t7 (.sc (.bool false)) fun t8 =>
 p.guard t8 true H (fun k' => k' a0 H) fun t10 H =>
 p.guard t8 true H (fun k' => p.call 4 (.fn 72 [] []) [t10, (.sc (.string ⟨#[43, 35]⟩))] H fun t' H => k' t' H) fun t11 H =>
 p.guard t8 true H (fun k' => p.un .not t11 fun t' => k' t' H) fun t12 H =>
 p.pick t8 t12 (.sc (.bool false)) fun t13 =>
 p.guard t13 true H (fun k' => k' a0 H) fun t15 H =>
 p.guard t13 true H (fun k' => p.call 25 (.fn 73 [] []) [t15] H fun t' H => k' t' H) fun t16 H =>
 p.guard t13 true H (fun k' => p.len t16 fun t' => k' t' H) fun t17 H =>
 p.guard t13 true H (fun k' => p.bin .leq t17 (.sc (.int .i64 6)) fun t' => k' t' H) fun t18 H =>
 p.pick t13 t18 (.sc (.bool false)) fun t19 =>
 k t19 H
theorem f50_body (p : Pr β) (n : Nat) (a0 : AV) (H : Heap) (k : AV → Heap → Option β) : evalBody ti0 p n ⟨c50, 20, Go.Proofs.Tryd.f50.results.toList, o50⟩ [a0] H k = f50 p n a0 H k := by kernel_rfl
noncomputable def f59 (p : Pr β) (n : Nat) (a0 a1 a2 : AV) (H : Heap) (k : AV → Heap → Option β) : Option β :=
 p.bin .geq a0 a1 fun t9 =>
 p.guard t9 true H (fun k' => k' a0 H) fun t11 H =>
 p.guard t9 true H (fun k' => k' a2 H) fun t12 H =>
 p.guard t9 true H (fun k' => p.bin .leq t11 t12 fun t' => k' t' H) fun t13 H =>
 p.pick t9 t13 (.sc (.bool false)) fun t14 =>
 k t14 H
theorem f59_body (p : Pr β) (n : Nat) (a0 a1 a2 : AV) (H : Heap) (k : AV → Heap → Option β) : evalBody ti0 p n ⟨c59, 15, Go.Proofs.Tryd.f59.results.toList, o59⟩ [a0, a1, a2] H k = f59 p n a0 a1 a2 H k := by kernel_rfl
noncomputable def f51 (p : Pr β) (n : Nat) (a0 : AV) (H : Heap) (k : AV → Heap → Option β) : Option β :=
 p.call 4 (.fn 59 [] []) [a0, (.sc (.int .i64 0)), (.sc (.int .i64 2))] H fun t4 H =>
 k t4 H
theorem f51_body (p : Pr β) (n : Nat) (a0 : AV) (H : Heap) (k : AV → Heap → Option β) : evalBody ti0 p n ⟨c51, 5, Go.Proofs.Tryd.f51.results.toList, o51⟩ [a0] H k = f51 p n a0 H k := by kernel_rfl
noncomputable def f20 (p : Pr β) (n : Nat) (a0 : AV) (H : Heap) (k : AV → Heap → Option β) : Option β :=
 p.box a0 H fun t1 H =>
 p.fadr 0 t1 fun t3 =>
 p.load false 1 t3 H fun t4 =>
 p.call 4 (.fn 50 [] []) [t4] H fun t5 H =>
 p.guard t5 true H (fun k' => p.fadr 1 t1 fun t' => k' t' H) fun t7 H =>
 p.guard t5 true H (fun k' => p.load false 1 t7 H fun t' => k' t' H) fun t8 H =>
 p.guard t5 true H (fun k' => p.len t8 fun t' => k' t' H) fun t9 H =>
 p.guard t5 true H (fun k' => p.bin .leq t9 (.sc (.int .i64 40)) fun t' => k' t' H) fun t10 H =>
 p.pick t5 t10 (.sc (.bool false)) fun t11 =>
 p.guard t11 true H (fun k' => p.fadr 2 t1 fun t' => k' t' H) fun t13 H =>
 p.guard t11 true H (fun k' => p.load false 1 t13 H fun t' => k' t' H) fun t14 H =>
 p.guard t11 true H (fun k' => p.call 4 (.fn 51 [] []) [t14] H fun t' H => k' t' H) fun t15 H =>
 p.pick t11 t15 (.sc (.bool false)) fun t16 =>
 k t16 H
theorem f20_body (p : Pr β) (n : Nat) (a0 : AV) (H : Heap) (k : AV → Heap → Option β) : evalBody ti0 p n ⟨c20, 17, Go.Proofs.Tryd.f20.results.toList, o20⟩ [a0] H k = f20 p n a0 H k := by kernel_rfl
noncomputable def f49_l0 (p : Pr β) (n : Nat)  (k : AV → Heap → Option β) : Nat → AV → AV → AV → Heap → Option β
 | 0, _, _, _, _ => none
 | m + 1, t5, t6, t7, H => p.bin .lss t7 t6 fun t8 =>
   p.cond t8
   (p.iadr 4 t5 t7 fun t9 =>
   p.load true 4 t9 H fun t10 =>
   p.new [(.sc (.string ⟨#[]⟩)), .nl, (.sc (.int .i64 0)), (.sc (.bool false))] H fun t4 H =>
   p.store 4 t4 t10 H fun H =>
   p.load true 4 t4 H fun t11 =>
   p.call 4 (.fn 20 [] []) [t11] H fun t12 H =>
   p.un .not t12 fun t13 =>
   p.cond t13
   (k (.sc (.bool false)) H)
   (p.bin .add t7 (.sc (.int .i64 1)) fun t14 =>
   f49_l0 p n  k m t5 t6 t14 H))
   (k (.sc (.bool true)) H)
noncomputable def f49 (p : Pr β) (n : Nat) (a0 : AV) (H : Heap) (k : AV → Heap → Option β) : Option β :=
 p.len a0 fun t6 =>
 f49_l0 p n  k n a0 t6 (.sc (.int .i64 0)) H
noncomputable def f49_L0 (p : Pr β) (n : Nat)  (k : AV → Heap → Option β) (m : Nat) (tm : Tm) (H : Heap) : Option β :=
 iterC 15 (fun tm H k => evalCode ti0 p o49 15 n (cd c49 [1, 0, 1, 0, 0]) tm H k) (blkK 0 (seqK (fun tm H => evalCode ti0 p o49 15 n (cd c49 [1, 1]) tm H (endK ti0 p Go.Proofs.Tryd.f49.results.toList k)) (endK ti0 p Go.Proofs.Tryd.f49.results.toList k))) m tm H
theorem f49_L0_step (p : Pr β) (n : Nat)  (k : AV → Heap → Option β) (m0 : Nat) (t : Nat → AV) (H : Heap) : f49_L0 p n  k (m0 + 1) (tf 15 0 t) H =
 p.bin .lss (t 7) (t 6) fun t8 =>
 p.cond t8
 (p.iadr 4 (t 5) (t 7) fun t9 =>
 p.load true 4 t9 H fun t10 =>
 p.new [(.sc (.string ⟨#[]⟩)), .nl, (.sc (.int .i64 0)), (.sc (.bool false))] H fun t4 H =>
 p.store 4 t4 t10 H fun H =>
 p.load true 4 t4 H fun t11 =>
 p.call 4 (.fn 20 [] []) [t11] H fun t12 H =>
 p.un .not t12 fun t13 =>
 p.cond t13
 (k (.sc (.bool false)) H)
 (p.bin .add (t 7) (.sc (.int .i64 1)) fun t14 =>
 f49_L0 p n  k m0 (tf 15 0 (ud [(4, t4), (7, t14), (8, t8), (9, t9), (10, t10), (11, t11), (12, t12), (13, t13), (14, t14)] t)) H))
 (k (.sc (.bool true)) H) := by kernel_rfl
theorem f49_l0_eq (p : Pr β) (n : Nat)  (k : AV → Heap → Option β)   (m0 : Nat) : ∀ (t : Nat → AV) (H : Heap), f49_L0 p n  k m0 (tf 15 0 t) H = f49_l0 p n  k m0 (t 5) (t 6) (t 7) H := by
 induction m0 with
 | zero => intros; rfl
 | succ m0 ih =>
  intro t H
  rw [f49_L0_step]
  simp only [ih]
  kernel_rfl
theorem f49_raw (p : Pr β) (n : Nat) (a0 : AV) (H : Heap) (k : AV → Heap → Option β) : evalBody ti0 p n ⟨c49, 15, Go.Proofs.Tryd.f49.results.toList, o49⟩ [a0] H k =
 p.len a0 fun t6 =>
 f49_L0 p n  k n (tf 15 0 (ud [(0, a0), (2, (.sc (.bool false))), (5, a0), (6, t6), (7, (.sc (.int .i64 0)))] ut)) H := by kernel_rfl
theorem f49_body (p : Pr β) (n : Nat) (a0 : AV) (H : Heap) (k : AV → Heap → Option β) : evalBody ti0 p n ⟨c49, 15, Go.Proofs.Tryd.f49.results.toList, o49⟩ [a0] H k = f49 p n a0 H k := by
 rw [f49_raw]
 simp only [f49_l0_eq]
 kernel_rfl
noncomputable def f18 (p : Pr β) (n : Nat) (a0 : AV) (H : Heap) (k : AV → Heap → Option β) : Option β :=
 p.len a0 fun t4 =>
 p.bin .leq t4 (.sc (.int .i64 6)) fun t5 =>
 p.guard t5 true H (fun k' => k' a0 H) fun t7 H =>
 p.guard t5 true H (fun k' => p.call 4 (.fn 49 [] []) [t7] H fun t' H => k' t' H) fun t8 H =>
 p.pick t5 t8 (.sc (.bool false)) fun t9 =>
 k t9 H
theorem f18_body (p : Pr β) (n : Nat) (a0 : AV) (H : Heap) (k : AV → Heap → Option β) : evalBody ti0 p n ⟨c18, 10, Go.Proofs.Tryd.f18.results.toList, o18⟩ [a0] H k = f18 p n a0 H k := by kernel_rfl
noncomputable def f16 (p : Pr β) (n : Nat) (a0 a1 : AV) (H : Heap) (k : AV → Heap → Option β) : Option β :=
 p.box a1 H fun t3 H =>
 p.call 37 (.fn 45 [] []) [a0] H fun t8 H =>
 p.call 4 (.fn 18 [] []) [a0] H fun t11 H =>
 p.un .not t11 fun t12 =>
 p.guard t12 false H (fun k' => p.load true 4 t3 H fun t' => k' t' H) fun t14 H =>
 p.guard t12 false H (fun k' => p.call 4 (.fn 20 [] []) [t14] H fun t' H => k' t' H) fun t15 H =>
 p.guard t12 false H (fun k' => p.un .not t15 fun t' => k' t' H) fun t16 H =>
 p.pick t12 (.sc (.bool true)) t16 fun t17 =>
 p.cond t17
 (k (packA [t8, (.sc (.int .i64 2))]) H)
 (p.len a0 fun t21 =>
 p.bin .lss t21 (.sc (.int .i64 6)) fun t22 =>
 p.cond t22
 (p.load true 4 t3 H fun t24 =>
 p.call 39 (.fn 46 [] []) [t24] H fun t25 H =>
 p.fill [(.sc (.string ⟨#[]⟩)), .nl, (.sc (.int .i64 0)), (.sc (.bool false))] [(0, 4, t25)] fun ct26 => p.newSl 1 4 ct26 true H fun t26 H =>
 p.app 4 56 t8 t26 H fun t27 H =>
 k (packA [t27, (.sc (.int .i64 0))]) H)
 (p.fadr 2 t3 fun t29 =>
 p.load false 1 t29 H fun t30 =>
 p.bin .eql t30 (.sc (.int .i64 0)) fun t31 =>
 p.cond t31
 (k (packA [t8, (.sc (.int .i64 1))]) H)
 (k (packA [t8, (.sc (.int .i64 2))]) H)))
theorem f16_body (p : Pr β) (n : Nat) (a0 a1 : AV) (H : Heap) (k : AV → Heap → Option β) : evalBody ti0 p n ⟨c16, 34, Go.Proofs.Tryd.f16.results.toList, o16⟩ [a0, a1] H k = f16 p n a0 a1 H k := by kernel_rfl
noncomputable def f48 (p : Pr β) (n : Nat) (a0 : AV) (H : Heap) (k : AV → Heap → Option β) : Option β :=
 p.box a0 H fun t1 H =>
 p.new [(.sc (.string ⟨#[]⟩)), .nl, (.sc (.int .i64 0)), (.sc (.bool false))] H fun t2 H =>
 p.fadr 0 t1 fun t3 =>
 p.load false 1 t3 H fun t4 =>
 p.fadr 1 t1 fun t6 =>
 p.load false 1 t6 H fun t7 =>
 p.fadr 2 t1 fun t9 =>
 p.load false 1 t9 H fun t10 =>
 p.fadr 3 t1 fun t11 =>
 p.load false 1 t11 H fun t12 =>
 p.app 1 1 .nl t7 H fun t8 H =>
 p.fill [(.sc (.string ⟨#[]⟩)), .nl, (.sc (.int .i64 0)), (.sc (.bool false))] [(0, 1, t4), (1, 1, t8), (2, 1, t10), (3, 1, t12)] fun ct13 =>
 p.store 4 t2 (.agg ct13) H fun H =>
 p.load true 4 t2 H fun r0 =>
 k r0 H
theorem f48_body (p : Pr β) (n : Nat) (a0 : AV) (H : Heap) (k : AV → Heap → Option β) : evalBody ti0 p n ⟨c48, 14, Go.Proofs.Tryd.f48.results.toList, o48⟩ [a0] H k = f48 p n a0 H k := by kernel_rfl
noncomputable def f47_l0 (p : Pr β) (n : Nat)  (k : AV → Heap → Option β) : Nat → AV → AV → AV → Heap → Option β
 | 0, _, _, _, _ => none
 | m + 1, t0, t3, t4, H => p.len t0 fun t8 =>
   p.bin .lss t4 t8 fun t9 =>
   p.cond t9
   (p.iadr 4 t0 t4 fun t15 =>
   p.load true 4 t15 H fun t16 =>
   p.call 39 (.fn 48 [] []) [t16] H fun t17 H =>
   p.fill [(.sc (.string ⟨#[]⟩)), .nl, (.sc (.int .i64 0)), (.sc (.bool false))] [(0, 4, t17)] fun ct18 => p.newSl 1 4 ct18 true H fun t18 H =>
   p.app 4 56 t3 t18 H fun t19 H =>
   p.bin .add t4 (.sc (.int .i64 1)) fun t11 =>
   f47_l0 p n  k m t0 t19 t11 H)
   (k t3 H)
noncomputable def f47 (p : Pr β) (n : Nat) (a0 : AV) (H : Heap) (k : AV → Heap → Option β) : Option β :=
 f47_l0 p n  k n a0 .nl (.sc (.int .i64 0)) H
noncomputable def f47_L0 (p : Pr β) (n : Nat)  (k : AV → Heap → Option β) (m : Nat) (tm : Tm) (H : Heap) : Option β :=
 iterC 21 (fun tm H k => evalCode ti0 p o47 21 n (cd c47 [1, 1, 0, 1, 0, 0]) tm H k) (blkK 0 (seqK (fun tm H => evalCode ti0 p o47 21 n (cd c47 [1, 1, 1]) tm H (endK ti0 p Go.Proofs.Tryd.f47.results.toList k)) (endK ti0 p Go.Proofs.Tryd.f47.results.toList k))) m tm H
theorem f47_L0_step (p : Pr β) (n : Nat)  (k : AV → Heap → Option β) (m0 : Nat) (t : Nat → AV) (H : Heap) : f47_L0 p n  k (m0 + 1) (tf 21 0 t) H =
 p.len (t 0) fun t8 =>
 p.bin .lss (t 4) t8 fun t9 =>
 p.cond t9
 (p.iadr 4 (t 0) (t 4) fun t15 =>
 p.load true 4 t15 H fun t16 =>
 p.call 39 (.fn 48 [] []) [t16] H fun t17 H =>
 p.fill [(.sc (.string ⟨#[]⟩)), .nl, (.sc (.int .i64 0)), (.sc (.bool false))] [(0, 4, t17)] fun ct18 => p.newSl 1 4 ct18 true H fun t18 H =>
 p.app 4 56 (t 3) t18 H fun t19 H =>
 p.bin .add (t 4) (.sc (.int .i64 1)) fun t11 =>
 f47_L0 p n  k m0 (tf 21 0 (ud [(3, t19), (4, t11), (6, (t 4)), (7, (t 0)), (8, t8), (9, t9), (10, (t 4)), (11, t11), (12, (t 3)), (13, (t 0)), (14, (t 4)), (15, t15), (16, t16), (17, t17), (18, t18), (19, t19)] t)) H)
 (k (t 3) H) := by kernel_rfl
theorem f47_l0_eq (p : Pr β) (n : Nat)  (k : AV → Heap → Option β)   (m0 : Nat) : ∀ (t : Nat → AV) (H : Heap), f47_L0 p n  k m0 (tf 21 0 t) H = f47_l0 p n  k m0 (t 0) (t 3) (t 4) H := by
 induction m0 with
 | zero => intros; rfl
 | succ m0 ih =>
  intro t H
  rw [f47_L0_step]
  simp only [ih]
  kernel_rfl
theorem f47_raw (p : Pr β) (n : Nat) (a0 : AV) (H : Heap) (k : AV → Heap → Option β) : evalBody ti0 p n ⟨c47, 21, Go.Proofs.Tryd.f47.results.toList, o47⟩ [a0] H k =
 f47_L0 p n  k n (tf 21 0 (ud [(0, a0), (2, .nl), (3, .nl), (4, (.sc (.int .i64 0))), (5, .nl)] ut)) H := by kernel_rfl
theorem f47_body (p : Pr β) (n : Nat) (a0 : AV) (H : Heap) (k : AV → Heap → Option β) : evalBody ti0 p n ⟨c47, 21, Go.Proofs.Tryd.f47.results.toList, o47⟩ [a0] H k = f47 p n a0 H k := by
 rw [f47_raw]
 simp only [f47_l0_eq]
 kernel_rfl
noncomputable def f53 (p : Pr β) (n : Nat) (a0 a1 a2 : AV) (H : Heap) (k : AV → Heap → Option β) : Option β :=
 p.bin .geq a0 a1 fun t9 =>
 p.guard t9 true H (fun k' => k' a0 H) fun t11 H =>
 p.guard t9 true H (fun k' => k' a2 H) fun t12 H =>
 p.guard t9 true H (fun k' => p.bin .leq t11 t12 fun t' => k' t' H) fun t13 H =>
 p.pick t9 t13 (.sc (.bool false)) fun t14 =>
 k t14 H
theorem f53_body (p : Pr β) (n : Nat) (a0 a1 a2 : AV) (H : Heap) (k : AV → Heap → Option β) : evalBody ti0 p n ⟨c53, 15, Go.Proofs.Tryd.f53.results.toList, o53⟩ [a0, a1, a2] H k = f53 p n a0 a1 a2 H k := by kernel_rfl
noncomputable def f105_l0 (p : Pr β) (n : Nat)  (k : AV → Heap → Option β) : Nat → AV → AV → AV → AV → AV → AV → Heap → Option β
 | 0, _, _, _, _, _, _, _ => none
 | m + 1, t0, t1, t8, t9, t10, t11, H => p.bin .leq t11 t8 fun t67 =>
   p.cond t67
   (p.bin .add t1 t11 fun t73 =>
   p.iadr 1 t0 t73 fun t74 =>
   p.load false 1 t74 H fun t75 =>
   p.cvI .i64 t75 fun t76 =>
   p.bin .lss t76 (.sc (.int .i64 128)) fun t78 =>
   p.guard t78 false H (fun k' => k' t76 H) fun t80 H =>
   p.guard t78 false H (fun k' => p.bin .gtr t80 (.sc (.int .i64 191)) fun t' => k' t' H) fun t81 H =>
   p.pick t78 (.sc (.bool true)) t81 fun t82 =>
   p.cond t82
   (k (packA [(.sc (.int .i64 0)), (.sc (.int .i64 0)), (.sc (.bool false))]) H)
   (p.bin .mul t10 (.sc (.int .i64 64)) fun t84 =>
   p.bin .add t84 t76 fun t86 =>
   p.bin .sub t86 (.sc (.int .i64 128)) fun t87 =>
   p.bin .add t11 (.sc (.int .i64 1)) fun t69 =>
   f105_l0 p n  k m t0 t1 t8 t9 t87 t69 H))
   (p.bin .lss t10 t9 fun t90 =>
   p.guard t90 false H (fun k' => k' t10 H) fun t92 H =>
   p.guard t90 false H (fun k' => p.bin .gtr t92 (.sc (.int .i64 1114111)) fun t' => k' t' H) fun t93 H =>
   p.pick t90 (.sc (.bool true)) t93 fun t94 =>
   p.guard t94 false H (fun k' => k' t10 H) fun t96 H =>
   p.guard t94 false H (fun k' => p.call 4 (.fn 53 [] []) [t96, (.sc (.int .i64 55296)), (.sc (.int .i64 57343))] H fun t' H => k' t' H) fun t97 H =>
   p.pick t94 (.sc (.bool true)) t97 fun t98 =>
   p.cond t98
   (k (packA [(.sc (.int .i64 0)), (.sc (.int .i64 0)), (.sc (.bool false))]) H)
   (p.bin .add t1 (.sc (.int .i64 1)) fun t101 =>
   p.bin .add t101 t8 fun t103 =>
   k (packA [t10, t103, (.sc (.bool true))]) H))
noncomputable def f105 (p : Pr β) (n : Nat) (a0 a1 : AV) (H : Heap) (k : AV → Heap → Option β) : Option β :=
 p.bin .lss a1 (.sc (.int .i64 0)) fun t14 =>
 p.guard t14 false H (fun k' => k' a1 H) fun t16 H =>
 p.guard t14 false H (fun k' => k' a0 H) fun t17 H =>
 p.guard t14 false H (fun k' => p.len t17 fun t' => k' t' H) fun t18 H =>
 p.guard t14 false H (fun k' => p.bin .geq t16 t18 fun t' => k' t' H) fun t19 H =>
 p.pick t14 (.sc (.bool true)) t19 fun t20 =>
 p.cond t20
 (k (packA [(.sc (.int .i64 0)), (.sc (.int .i64 0)), (.sc (.bool false))]) H)
 (p.iadr 1 a0 a1 fun t23 =>
 p.load false 1 t23 H fun t24 =>
 p.cvI .i64 t24 fun t25 =>
 p.bin .lss t25 (.sc (.int .i64 128)) fun t27 =>
 p.cond t27
 (p.bin .add a1 (.sc (.int .i64 1)) fun t30 =>
 k (packA [t25, t30, (.sc (.bool true))]) H)
 (p.bin .geq t25 (.sc (.int .i64 192)) fun t33 =>
 p.guard t33 true H (fun k' => k' t25 H) fun t35 H =>
 p.guard t33 true H (fun k' => p.bin .lss t35 (.sc (.int .i64 224)) fun t' => k' t' H) fun t36 H =>
 p.pick t33 t36 (.sc (.bool false)) fun t37 =>
 p.cond t37
 (p.bin .and t25 (.sc (.int .i64 31)) fun t39 =>
 p.len a0 fun t60 =>
 p.bin .sub t60 (.sc (.int .i64 1)) fun t61 =>
 p.bin .sub t61 (.sc (.int .i64 1)) fun t63 =>
 p.bin .gtr a1 t63 fun t64 =>
 p.cond t64
 (k (packA [(.sc (.int .i64 0)), (.sc (.int .i64 0)), (.sc (.bool false))]) H)
 (f105_l0 p n  k n a0 a1 (.sc (.int .i64 1)) (.sc (.int .i64 128)) t39 (.sc (.int .i64 1)) H))
 (p.bin .geq t25 (.sc (.int .i64 224)) fun t42 =>
 p.guard t42 true H (fun k' => k' t25 H) fun t44 H =>
 p.guard t42 true H (fun k' => p.bin .lss t44 (.sc (.int .i64 240)) fun t' => k' t' H) fun t45 H =>
 p.pick t42 t45 (.sc (.bool false)) fun t46 =>
 p.cond t46
 (p.bin .and t25 (.sc (.int .i64 15)) fun t48 =>
 p.len a0 fun t60 =>
 p.bin .sub t60 (.sc (.int .i64 1)) fun t61 =>
 p.bin .sub t61 (.sc (.int .i64 2)) fun t63 =>
 p.bin .gtr a1 t63 fun t64 =>
 p.cond t64
 (k (packA [(.sc (.int .i64 0)), (.sc (.int .i64 0)), (.sc (.bool false))]) H)
 (f105_l0 p n  k n a0 a1 (.sc (.int .i64 2)) (.sc (.int .i64 2048)) t48 (.sc (.int .i64 1)) H))
 (p.bin .geq t25 (.sc (.int .i64 240)) fun t51 =>
 p.guard t51 true H (fun k' => k' t25 H) fun t53 H =>
 p.guard t51 true H (fun k' => p.bin .lss t53 (.sc (.int .i64 248)) fun t' => k' t' H) fun t54 H =>
 p.pick t51 t54 (.sc (.bool false)) fun t55 =>
 p.cond t55
 (p.bin .and t25 (.sc (.int .i64 7)) fun t57 =>
 p.len a0 fun t60 =>
 p.bin .sub t60 (.sc (.int .i64 1)) fun t61 =>
 p.bin .sub t61 (.sc (.int .i64 3)) fun t63 =>
 p.bin .gtr a1 t63 fun t64 =>
 p.cond t64
 (k (packA [(.sc (.int .i64 0)), (.sc (.int .i64 0)), (.sc (.bool false))]) H)
 (f105_l0 p n  k n a0 a1 (.sc (.int .i64 3)) (.sc (.int .i64 65536)) t57 (.sc (.int .i64 1)) H))
 (k (packA [(.sc (.int .i64 0)), (.sc (.int .i64 0)), (.sc (.bool false))]) H)))))
noncomputable def f105_L0 (p : Pr β) (n : Nat)  (k : AV → Heap → Option β) (m : Nat) (tm : Tm) (H : Heap) : Option β :=
 iterC 104 (fun tm H k => evalCode ti0 p o105 104 n (cd c105 [1, 1, 1, 1, 1, 1, 1, 1, 1, 0, 1, 0, 0]) tm H k) (blkK 1 (seqK (fun tm H => evalCode ti0 p o105 104 n (cd c105 [1, 1, 1, 1, 1, 1, 1, 1, 1, 1]) tm H (endK ti0 p Go.Proofs.Tryd.f105.results.toList k)) (endK ti0 p Go.Proofs.Tryd.f105.results.toList k))) m tm H
theorem f105_L0_step (p : Pr β) (n : Nat)  (k : AV → Heap → Option β) (m0 : Nat) (t : Nat → AV) (H : Heap) : f105_L0 p n  k (m0 + 1) (tf 104 0 t) H =
 p.bin .leq (t 11) (t 8) fun t67 =>
 p.cond t67
 (p.bin .add (t 1) (t 11) fun t73 =>
 p.iadr 1 (t 0) t73 fun t74 =>
 p.load false 1 t74 H fun t75 =>
 p.cvI .i64 t75 fun t76 =>
 p.bin .lss t76 (.sc (.int .i64 128)) fun t78 =>
 p.guard t78 false H (fun k' => k' t76 H) fun t80 H =>
 p.guard t78 false H (fun k' => p.bin .gtr t80 (.sc (.int .i64 191)) fun t' => k' t' H) fun t81 H =>
 p.pick t78 (.sc (.bool true)) t81 fun t82 =>
 p.cond t82
 (k (packA [(.sc (.int .i64 0)), (.sc (.int .i64 0)), (.sc (.bool false))]) H)
 (p.bin .mul (t 10) (.sc (.int .i64 64)) fun t84 =>
 p.bin .add t84 t76 fun t86 =>
 p.bin .sub t86 (.sc (.int .i64 128)) fun t87 =>
 p.bin .add (t 11) (.sc (.int .i64 1)) fun t69 =>
 f105_L0 p n  k m0 (tf 104 0 (ud [(10, t87), (11, t69), (12, t76), (65, (t 11)), (66, (t 8)), (67, t67), (68, (t 11)), (69, t69), (70, (t 0)), (71, (t 1)), (72, (t 11)), (73, t73), (74, t74), (75, t75), (76, t76), (77, t76), (78, t78), (79, t78), (80, t80), (81, t81), (82, t82), (83, (t 10)), (84, t84), (85, t76), (86, t86), (87, t87)] t)) H))
 (p.bin .lss (t 10) (t 9) fun t90 =>
 p.guard t90 false H (fun k' => k' (t 10) H) fun t92 H =>
 p.guard t90 false H (fun k' => p.bin .gtr t92 (.sc (.int .i64 1114111)) fun t' => k' t' H) fun t93 H =>
 p.pick t90 (.sc (.bool true)) t93 fun t94 =>
 p.guard t94 false H (fun k' => k' (t 10) H) fun t96 H =>
 p.guard t94 false H (fun k' => p.call 4 (.fn 53 [] []) [t96, (.sc (.int .i64 55296)), (.sc (.int .i64 57343))] H fun t' H => k' t' H) fun t97 H =>
 p.pick t94 (.sc (.bool true)) t97 fun t98 =>
 p.cond t98
 (k (packA [(.sc (.int .i64 0)), (.sc (.int .i64 0)), (.sc (.bool false))]) H)
 (p.bin .add (t 1) (.sc (.int .i64 1)) fun t101 =>
 p.bin .add t101 (t 8) fun t103 =>
 k (packA [(t 10), t103, (.sc (.bool true))]) H)) := by kernel_rfl
theorem f105_l0_eq (p : Pr β) (n : Nat)  (k : AV → Heap → Option β)   (m0 : Nat) : ∀ (t : Nat → AV) (H : Heap), f105_L0 p n  k m0 (tf 104 0 t) H = f105_l0 p n  k m0 (t 0) (t 1) (t 8) (t 9) (t 10) (t 11) H := by
 induction m0 with
 | zero => intros; rfl
 | succ m0 ih =>
  intro t H
  rw [f105_L0_step]
  simp only [ih]
  kernel_rfl
theorem f105_raw (p : Pr β) (n : Nat) (a0 a1 : AV) (H : Heap) (k : AV → Heap → Option β) : evalBody ti0 p n ⟨c105, 104, Go.Proofs.Tryd.f105.results.toList, o105⟩ [a0, a1] H k =
 p.bin .lss a1 (.sc (.int .i64 0)) fun t14 =>
 p.guard t14 false H (fun k' => k' a1 H) fun t16 H =>
 p.guard t14 false H (fun k' => k' a0 H) fun t17 H =>
 p.guard t14 false H (fun k' => p.len t17 fun t' => k' t' H) fun t18 H =>
 p.guard t14 false H (fun k' => p.bin .geq t16 t18 fun t' => k' t' H) fun t19 H =>
 p.pick t14 (.sc (.bool true)) t19 fun t20 =>
 p.cond t20
 (k (packA [(.sc (.int .i64 0)), (.sc (.int .i64 0)), (.sc (.bool false))]) H)
 (p.iadr 1 a0 a1 fun t23 =>
 p.load false 1 t23 H fun t24 =>
 p.cvI .i64 t24 fun t25 =>
 p.bin .lss t25 (.sc (.int .i64 128)) fun t27 =>
 p.cond t27
 (p.bin .add a1 (.sc (.int .i64 1)) fun t30 =>
 k (packA [t25, t30, (.sc (.bool true))]) H)
 (p.bin .geq t25 (.sc (.int .i64 192)) fun t33 =>
 p.guard t33 true H (fun k' => k' t25 H) fun t35 H =>
 p.guard t33 true H (fun k' => p.bin .lss t35 (.sc (.int .i64 224)) fun t' => k' t' H) fun t36 H =>
 p.pick t33 t36 (.sc (.bool false)) fun t37 =>
 p.cond t37
 (p.bin .and t25 (.sc (.int .i64 31)) fun t39 =>
 p.len a0 fun t60 =>
 p.bin .sub t60 (.sc (.int .i64 1)) fun t61 =>
 p.bin .sub t61 (.sc (.int .i64 1)) fun t63 =>
 p.bin .gtr a1 t63 fun t64 =>
 p.cond t64
 (k (packA [(.sc (.int .i64 0)), (.sc (.int .i64 0)), (.sc (.bool false))]) H)
 (f105_L0 p n  k n (tf 104 0 (ud [(0, a0), (1, a1), (4, (.sc (.int .i64 0))), (5, (.sc (.int .i64 0))), (6, (.sc (.bool false))), (7, t25), (8, (.sc (.int .i64 1))), (9, (.sc (.int .i64 128))), (10, t39), (11, (.sc (.int .i64 1))), (13, a1), (14, t14), (15, t14), (16, t16), (17, t17), (18, t18), (19, t19), (20, t20), (21, a0), (22, a1), (23, t23), (24, t24), (25, t25), (26, t25), (27, t27), (31, t37), (32, t25), (33, t33), (34, t33), (35, t35), (36, t36), (37, t37), (38, t25), (39, t39), (58, a1), (59, a0), (60, t60), (61, t61), (62, (.sc (.int .i64 1))), (63, t63), (64, t64)] ut)) H))
 (p.bin .geq t25 (.sc (.int .i64 224)) fun t42 =>
 p.guard t42 true H (fun k' => k' t25 H) fun t44 H =>
 p.guard t42 true H (fun k' => p.bin .lss t44 (.sc (.int .i64 240)) fun t' => k' t' H) fun t45 H =>
 p.pick t42 t45 (.sc (.bool false)) fun t46 =>
 p.cond t46
 (p.bin .and t25 (.sc (.int .i64 15)) fun t48 =>
 p.len a0 fun t60 =>
 p.bin .sub t60 (.sc (.int .i64 1)) fun t61 =>
 p.bin .sub t61 (.sc (.int .i64 2)) fun t63 =>
 p.bin .gtr a1 t63 fun t64 =>
 p.cond t64
 (k (packA [(.sc (.int .i64 0)), (.sc (.int .i64 0)), (.sc (.bool false))]) H)
 (f105_L0 p n  k n (tf 104 0 (ud [(0, a0), (1, a1), (4, (.sc (.int .i64 0))), (5, (.sc (.int .i64 0))), (6, (.sc (.bool false))), (7, t25), (8, (.sc (.int .i64 2))), (9, (.sc (.int .i64 2048))), (10, t48), (11, (.sc (.int .i64 1))), (13, a1), (14, t14), (15, t14), (16, t16), (17, t17), (18, t18), (19, t19), (20, t20), (21, a0), (22, a1), (23, t23), (24, t24), (25, t25), (26, t25), (27, t27), (31, t37), (32, t25), (33, t33), (34, t33), (35, t35), (36, t36), (37, t37), (40, t46), (41, t25), (42, t42), (43, t42), (44, t44), (45, t45), (46, t46), (47, t25), (48, t48), (58, a1), (59, a0), (60, t60), (61, t61), (62, (.sc (.int .i64 2))), (63, t63), (64, t64)] ut)) H))
 (p.bin .geq t25 (.sc (.int .i64 240)) fun t51 =>
 p.guard t51 true H (fun k' => k' t25 H) fun t53 H =>
 p.guard t51 true H (fun k' => p.bin .lss t53 (.sc (.int .i64 248)) fun t' => k' t' H) fun t54 H =>
 p.pick t51 t54 (.sc (.bool false)) fun t55 =>
 p.cond t55
 (p.bin .and t25 (.sc (.int .i64 7)) fun t57 =>
 p.len a0 fun t60 =>
 p.bin .sub t60 (.sc (.int .i64 1)) fun t61 =>
 p.bin .sub t61 (.sc (.int .i64 3)) fun t63 =>
 p.bin .gtr a1 t63 fun t64 =>
 p.cond t64
 (k (packA [(.sc (.int .i64 0)), (.sc (.int .i64 0)), (.sc (.bool false))]) H)
 (f105_L0 p n  k n (tf 104 0 (ud [(0, a0), (1, a1), (4, (.sc (.int .i64 0))), (5, (.sc (.int .i64 0))), (6, (.sc (.bool false))), (7, t25), (8, (.sc (.int .i64 3))), (9, (.sc (.int .i64 65536))), (10, t57), (11, (.sc (.int .i64 1))), (13, a1), (14, t14), (15, t14), (16, t16), (17, t17), (18, t18), (19, t19), (20, t20), (21, a0), (22, a1), (23, t23), (24, t24), (25, t25), (26, t25), (27, t27), (31, t37), (32, t25), (33, t33), (34, t33), (35, t35), (36, t36), (37, t37), (40, t46), (41, t25), (42, t42), (43, t42), (44, t44), (45, t45), (46, t46), (49, t55), (50, t25), (51, t51), (52, t51), (53, t53), (54, t54), (55, t55), (56, t25), (57, t57), (58, a1), (59, a0), (60, t60), (61, t61), (62, (.sc (.int .i64 3))), (63, t63), (64, t64)] ut)) H))
 (k (packA [(.sc (.int .i64 0)), (.sc (.int .i64 0)), (.sc (.bool false))]) H))))) := by kernel_rfl
theorem f105_body (p : Pr β) (n : Nat) (a0 a1 : AV) (H : Heap) (k : AV → Heap → Option β) : evalBody ti0 p n ⟨c105, 104, Go.Proofs.Tryd.f105.results.toList, o105⟩ [a0, a1] H k = f105 p n a0 a1 H k := by
 rw [f105_raw]
 simp only [f105_l0_eq]
 kernel_rfl
noncomputable def f92_l0 (p : Pr β) (n : Nat)  (k : AV → Heap → Option β) : Nat → AV → AV → AV → Heap → Option β
 | 0, _, _, _, _ => none
 | m + 1, t3, t4, t5, H => p.len t3 fun t16 =>
   p.bin .lss t5 t16 fun t17 =>
   p.cond t17
   (p.call 107 (.fn 105 [] []) [t3, t5] H fun t21 H =>
   p.extr t21 0 fun t22 =>
   p.extr t21 1 fun t23 =>
   p.extr t21 2 fun t24 =>
   p.un .not t24 fun t26 =>
   p.guard t26 false H (fun k' => k' t22 H) fun t28 H =>
   p.guard t26 false H (fun k' => p.bin .eql t28 (.sc (.int .i64 0)) fun t' => k' t' H) fun t29 H =>
   p.pick t26 (.sc (.bool true)) t29 fun t30 =>
   p.cond t30
   (k (.sc (.int .i64 (-1))) H)
   (p.bin .add t4 (.sc (.int .i64 1)) fun t33 =>
   f92_l0 p n  k m t3 t33 t23 H))
   (k t4 H)
noncomputable def f92 (p : Pr β) (n : Nat) (a0 : AV) (H : Heap) (k : AV → Heap → Option β) : Option β :=
 p.lenS a0 fun t10 =>
 p.bin .gtr t10 (.sc (.int .i64 60)) fun t11 =>
 p.cond t11
 (k (.sc (.int .i64 (-1))) H)
 (p.cvSB a0 H fun t13 H =>
 f92_l0 p n  k n t13 (.sc (.int .i64 0)) (.sc (.int .i64 0)) H)
noncomputable def f92_L0 (p : Pr β) (n : Nat)  (k : AV → Heap → Option β) (m : Nat) (tm : Tm) (H : Heap) : Option β :=
 iterC 35 (fun tm H k => evalCode ti0 p o92 35 n (cd c92 [1, 1, 1, 1, 0, 1, 0, 0]) tm H k) (blkK 0 (seqK (fun tm H => evalCode ti0 p o92 35 n (cd c92 [1, 1, 1, 1, 1]) tm H (endK ti0 p Go.Proofs.Tryd.f92.results.toList k)) (endK ti0 p Go.Proofs.Tryd.f92.results.toList k))) m tm H
theorem f92_L0_step (p : Pr β) (n : Nat)  (k : AV → Heap → Option β) (m0 : Nat) (t : Nat → AV) (H : Heap) : f92_L0 p n  k (m0 + 1) (tf 35 0 t) H =
 p.len (t 3) fun t16 =>
 p.bin .lss (t 5) t16 fun t17 =>
 p.cond t17
 (p.call 107 (.fn 105 [] []) [(t 3), (t 5)] H fun t21 H =>
 p.extr t21 0 fun t22 =>
 p.extr t21 1 fun t23 =>
 p.extr t21 2 fun t24 =>
 p.un .not t24 fun t26 =>
 p.guard t26 false H (fun k' => k' t22 H) fun t28 H =>
 p.guard t26 false H (fun k' => p.bin .eql t28 (.sc (.int .i64 0)) fun t' => k' t' H) fun t29 H =>
 p.pick t26 (.sc (.bool true)) t29 fun t30 =>
 p.cond t30
 (k (.sc (.int .i64 (-1))) H)
 (p.bin .add (t 4) (.sc (.int .i64 1)) fun t33 =>
 f92_L0 p n  k m0 (tf 35 0 (ud [(4, t33), (5, t23), (6, t22), (7, t23), (8, t24), (14, (t 5)), (15, (t 3)), (16, t16), (17, t17), (18, t21), (19, (t 3)), (20, (t 5)), (21, t21), (22, t22), (23, t23), (24, t24), (25, t24), (26, t26), (27, t26), (28, t28), (29, t29), (30, t30), (31, t23), (32, (t 4)), (33, t33)] t)) H))
 (k (t 4) H) := by kernel_rfl
theorem f92_l0_eq (p : Pr β) (n : Nat)  (k : AV → Heap → Option β)   (m0 : Nat) : ∀ (t : Nat → AV) (H : Heap), f92_L0 p n  k m0 (tf 35 0 t) H = f92_l0 p n  k m0 (t 3) (t 4) (t 5) H := by
 induction m0 with
 | zero => intros; rfl
 | succ m0 ih =>
  intro t H
  rw [f92_L0_step]
  simp only [ih]
  kernel_rfl
theorem f92_raw (p : Pr β) (n : Nat) (a0 : AV) (H : Heap) (k : AV → Heap → Option β) : evalBody ti0 p n ⟨c92, 35, Go.Proofs.Tryd.f92.results.toList, o92⟩ [a0] H k =
 p.lenS a0 fun t10 =>
 p.bin .gtr t10 (.sc (.int .i64 60)) fun t11 =>
 p.cond t11
 (k (.sc (.int .i64 (-1))) H)
 (p.cvSB a0 H fun t13 H =>
 f92_L0 p n  k n (tf 35 0 (ud [(0, a0), (2, (.sc (.int .i64 0))), (3, t13), (4, (.sc (.int .i64 0))), (5, (.sc (.int .i64 0))), (9, a0), (10, t10), (11, t11), (12, a0), (13, t13)] ut)) H) := by kernel_rfl
theorem f92_body (p : Pr β) (n : Nat) (a0 : AV) (H : Heap) (k : AV → Heap → Option β) : evalBody ti0 p n ⟨c92, 35, Go.Proofs.Tryd.f92.results.toList, o92⟩ [a0] H k = f92 p n a0 H k := by
 rw [f92_raw]
 simp only [f92_l0_eq]
 kernel_rfl
noncomputable def f74 (p : Pr β) (n : Nat) (a0 : AV) (H : Heap) (k : AV → Heap → Option β) : Option β :=
 p.call 3 (.fn 92 [] []) [a0] H fun t4 H =>
 p.bin .geq t4 (.sc (.int .i64 0)) fun t5 =>
 k t5 H
theorem f74_body (p : Pr β) (n : Nat) (a0 : AV) (H : Heap) (k : AV → Heap → Option β) : evalBody ti0 p n ⟨c74, 6, Go.Proofs.Tryd.f74.results.toList, o74⟩ [a0] H k = f74 p n a0 H k := by kernel_rfl
noncomputable def f75_l0 (p : Pr β) (n : Nat)  (k : AV → Heap → Option β) : Nat → AV → AV → AV → Heap → Option β
 | 0, _, _, _, _ => none
 | m + 1, t0, t1, t5, H => p.lenS t0 fun t8 =>
   p.bin .lss t5 t8 fun t9 =>
   p.cond t9
   (p.idx t0 t5 fun t14 =>
   p.bin .eql t14 t1 fun t16 =>
   p.cond t16
   (k (.sc (.bool true)) H)
   (p.bin .add t5 (.sc (.int .i64 1)) fun t11 =>
   f75_l0 p n  k m t0 t1 t11 H))
   (k (.sc (.bool false)) H)
noncomputable def f75 (p : Pr β) (n : Nat) (a0 a1 : AV) (H : Heap) (k : AV → Heap → Option β) : Option β :=
 f75_l0 p n  k n a0 a1 (.sc (.int .i64 0)) H
noncomputable def f75_L0 (p : Pr β) (n : Nat)  (k : AV → Heap → Option β) (m : Nat) (tm : Tm) (H : Heap) : Option β :=
 iterC 17 (fun tm H k => evalCode ti0 p o75 17 n (cd c75 [1, 0, 1, 0, 0]) tm H k) (blkK 0 (seqK (fun tm H => evalCode ti0 p o75 17 n (cd c75 [1, 1]) tm H (endK ti0 p Go.Proofs.Tryd.f75.results.toList k)) (endK ti0 p Go.Proofs.Tryd.f75.results.toList k))) m tm H
theorem f75_L0_step (p : Pr β) (n : Nat)  (k : AV → Heap → Option β) (m0 : Nat) (t : Nat → AV) (H : Heap) : f75_L0 p n  k (m0 + 1) (tf 17 0 t) H =
 p.lenS (t 0) fun t8 =>
 p.bin .lss (t 5) t8 fun t9 =>
 p.cond t9
 (p.idx (t 0) (t 5) fun t14 =>
 p.bin .eql t14 (t 1) fun t16 =>
 p.cond t16
 (k (.sc (.bool true)) H)
 (p.bin .add (t 5) (.sc (.int .i64 1)) fun t11 =>
 f75_L0 p n  k m0 (tf 17 0 (ud [(5, t11), (6, (t 5)), (7, (t 0)), (8, t8), (9, t9), (10, (t 5)), (11, t11), (12, (t 0)), (13, (t 5)), (14, t14), (15, (t 1)), (16, t16)] t)) H))
 (k (.sc (.bool false)) H) := by kernel_rfl
theorem f75_l0_eq (p : Pr β) (n : Nat)  (k : AV → Heap → Option β)   (m0 : Nat) : ∀ (t : Nat → AV) (H : Heap), f75_L0 p n  k m0 (tf 17 0 t) H = f75_l0 p n  k m0 (t 0) (t 1) (t 5) H := by
 induction m0 with
 | zero => intros; rfl
 | succ m0 ih =>
  intro t H
  rw [f75_L0_step]
  simp only [ih]
  kernel_rfl
theorem f75_raw (p : Pr β) (n : Nat) (a0 a1 : AV) (H : Heap) (k : AV → Heap → Option β) : evalBody ti0 p n ⟨c75, 17, Go.Proofs.Tryd.f75.results.toList, o75⟩ [a0, a1] H k =
 f75_L0 p n  k n (tf 17 0 (ud [(0, a0), (1, a1), (4, (.sc (.bool false))), (5, (.sc (.int .i64 0)))] ut)) H := by kernel_rfl
theorem f75_body (p : Pr β) (n : Nat) (a0 a1 : AV) (H : Heap) (k : AV → Heap → Option β) : evalBody ti0 p n ⟨c75, 17, Go.Proofs.Tryd.f75.results.toList, o75⟩ [a0, a1] H k = f75 p n a0 a1 H k := by
 rw [f75_raw]
 simp only [f75_l0_eq]
 kernel_rfl
noncomputable def f76_l0 (p : Pr β) (n : Nat)  (k : AV → Heap → Option β) : Nat → AV → AV → AV → AV → Heap → Option β
 | 0, _, _, _, _, _ => none
 | m + 1, t0, t3, t4, t5, H => p.lenS t0 fun t9 =>
   p.bin .leq t5 t9 fun t10 =>
   p.cond t10
   (p.lenS t0 fun t15 =>
   p.bin .eql t5 t15 fun t16 =>
   p.guard t16 false H (fun k' => k' t0 H) fun t18 H =>
   p.guard t16 false H (fun k' => k' t5 H) fun t19 H =>
   p.guard t16 false H (fun k' => p.idx t18 t19 fun t' => k' t' H) fun t20 H =>
   p.guard t16 false H (fun k' => p.bin .eql t20 (.sc (.int .u8 47)) fun t' => k' t' H) fun t21 H =>
   p.pick t16 (.sc (.bool true)) t21 fun t22 =>
   p.cond t22
   (p.sliceS t0 (some t4) (some t5) fun t27 =>
   p.fill [(.sc (.string ⟨#[]⟩))] [(0, 1, t27)] fun ct28 => p.newSl 1 1 ct28 true H fun t28 H =>
   p.app 1 16 t3 t28 H fun t29 H =>
   p.bin .add t5 (.sc (.int .i64 1)) fun t31 =>
   p.bin .add t5 (.sc (.int .i64 1)) fun t12 =>
   f76_l0 p n  k m t0 t29 t31 t12 H)
   (p.bin .add t5 (.sc (.int .i64 1)) fun t12 =>
   f76_l0 p n  k m t0 t3 t4 t12 H))
   (k t3 H)
noncomputable def f76 (p : Pr β) (n : Nat) (a0 : AV) (H : Heap) (k : AV → Heap → Option β) : Option β :=
 f76_l0 p n  k n a0 .nl (.sc (.int .i64 0)) (.sc (.int .i64 0)) H
noncomputable def f76_L0 (p : Pr β) (n : Nat)  (k : AV → Heap → Option β) (m : Nat) (tm : Tm) (H : Heap) : Option β :=
 iterC 33 (fun tm H k => evalCode ti0 p o76 33 n (cd c76 [1, 1, 1, 0, 1, 0, 0]) tm H k) (blkK 0 (seqK (fun tm H => evalCode ti0 p o76 33 n (cd c76 [1, 1, 1, 1]) tm H (endK ti0 p Go.Proofs.Tryd.f76.results.toList k)) (endK ti0 p Go.Proofs.Tryd.f76.results.toList k))) m tm H
theorem f76_L0_step (p : Pr β) (n : Nat)  (k : AV → Heap → Option β) (m0 : Nat) (t : Nat → AV) (H : Heap) : f76_L0 p n  k (m0 + 1) (tf 33 0 t) H =
 p.lenS (t 0) fun t9 =>
 p.bin .leq (t 5) t9 fun t10 =>
 p.cond t10
 (p.lenS (t 0) fun t15 =>
 p.bin .eql (t 5) t15 fun t16 =>
 p.guard t16 false H (fun k' => k' (t 0) H) fun t18 H =>
 p.guard t16 false H (fun k' => k' (t 5) H) fun t19 H =>
 p.guard t16 false H (fun k' => p.idx t18 t19 fun t' => k' t' H) fun t20 H =>
 p.guard t16 false H (fun k' => p.bin .eql t20 (.sc (.int .u8 47)) fun t' => k' t' H) fun t21 H =>
 p.pick t16 (.sc (.bool true)) t21 fun t22 =>
 p.cond t22
 (p.sliceS (t 0) (some (t 4)) (some (t 5)) fun t27 =>
 p.fill [(.sc (.string ⟨#[]⟩))] [(0, 1, t27)] fun ct28 => p.newSl 1 1 ct28 true H fun t28 H =>
 p.app 1 16 (t 3) t28 H fun t29 H =>
 p.bin .add (t 5) (.sc (.int .i64 1)) fun t31 =>
 p.bin .add (t 5) (.sc (.int .i64 1)) fun t12 =>
 f76_L0 p n  k m0 (tf 33 0 (ud [(3, t29), (4, t31), (5, t12), (7, (t 5)), (8, (t 0)), (9, t9), (10, t10), (11, (t 5)), (12, t12), (13, (t 5)), (14, (t 0)), (15, t15), (16, t16), (17, t16), (18, t18), (19, t19), (20, t20), (21, t21), (22, t22), (23, (t 3)), (24, (t 0)), (25, (t 4)), (26, (t 5)), (27, t27), (28, t28), (29, t29), (30, (t 5)), (31, t31)] t)) H)
 (p.bin .add (t 5) (.sc (.int .i64 1)) fun t12 =>
 f76_L0 p n  k m0 (tf 33 0 (ud [(5, t12), (7, (t 5)), (8, (t 0)), (9, t9), (10, t10), (11, (t 5)), (12, t12), (13, (t 5)), (14, (t 0)), (15, t15), (16, t16), (17, t16), (18, t18), (19, t19), (20, t20), (21, t21), (22, t22)] t)) H))
 (k (t 3) H) := by kernel_rfl
theorem f76_l0_eq (p : Pr β) (n : Nat)  (k : AV → Heap → Option β)   (m0 : Nat) : ∀ (t : Nat → AV) (H : Heap), f76_L0 p n  k m0 (tf 33 0 t) H = f76_l0 p n  k m0 (t 0) (t 3) (t 4) (t 5) H := by
 induction m0 with
 | zero => intros; rfl
 | succ m0 ih =>
  intro t H
  rw [f76_L0_step]
  simp only [ih]
  kernel_rfl
theorem f76_raw (p : Pr β) (n : Nat) (a0 : AV) (H : Heap) (k : AV → Heap → Option β) : evalBody ti0 p n ⟨c76, 33, Go.Proofs.Tryd.f76.results.toList, o76⟩ [a0] H k =
 f76_L0 p n  k n (tf 33 0 (ud [(0, a0), (2, .nl), (3, .nl), (4, (.sc (.int .i64 0))), (5, (.sc (.int .i64 0))), (6, .nl)] ut)) H := by kernel_rfl
theorem f76_body (p : Pr β) (n : Nat) (a0 : AV) (H : Heap) (k : AV → Heap → Option β) : evalBody ti0 p n ⟨c76, 33, Go.Proofs.Tryd.f76.results.toList, o76⟩ [a0] H k = f76 p n a0 H k := by
 rw [f76_raw]
 simp only [f76_l0_eq]
 kernel_rfl
noncomputable def f52 (p : Pr β) (n : Nat) (a0 : AV) (H : Heap) (k : AV → Heap → Option β) : Option β :=
 p.call 4 (.fn 74 [] []) [a0] H fun t4 H =>
 p.guard t4 true H (fun k' => k' a0 H) fun t6 H =>
 p.guard t4 true H (fun k' => p.bin .neq t6 (.sc (.string ⟨#[]⟩)) fun t' => k' t' H) fun t7 H =>
 p.pick t4 t7 (.sc (.bool false)) fun t8 =>
 p.guard t8 true H (fun k' => k' a0 H) fun t10 H =>
 p.guard t8 true H (fun k' => p.call 4 (.fn 75 [] []) [t10, (.sc (.int .u8 43))] H fun t' H => k' t' H) fun t11 H =>
 p.guard t8 true H (fun k' => p.un .not t11 fun t' => k' t' H) fun t12 H =>
 p.pick t8 t12 (.sc (.bool false)) fun t13 =>
 p.guard t13 true H (fun k' => k' a0 H) fun t15 H =>
 p.guard t13 true H (fun k' => p.call 4 (.fn 75 [] []) [t15, (.sc (.int .u8 35))] H fun t' H => k' t' H) fun t16 H =>
 p.guard t13 true H (fun k' => p.un .not t16 fun t' => k' t' H) fun t17 H =>
 p.pick t13 t17 (.sc (.bool false)) fun t18 =>
 p.guard t18 true H (fun k' => k' a0 H) fun t20 H =>
 p.guard t18 true H (fun k' => p.call 25 (.fn 76 [] []) [t20] H fun t' H => k' t' H) fun t21 H =>
 p.guard t18 true H (fun k' => p.len t21 fun t' => k' t' H) fun t22 H =>
 p.guard t18 true H (fun k' => p.bin .leq t22 (.sc (.int .i64 6)) fun t' => k' t' H) fun t23 H =>
 p.pick t18 t23 (.sc (.bool false)) fun t24 =>
 k t24 H
theorem f52_body (p : Pr β) (n : Nat) (a0 : AV) (H : Heap) (k : AV → Heap → Option β) : evalBody ti0 p n ⟨c52, 25, Go.Proofs.Tryd.f52.results.toList, o52⟩ [a0] H k = f52 p n a0 H k := by kernel_rfl
noncomputable def f21 (p : Pr β) (n : Nat) (a0 : AV) (H : Heap) (k : AV → Heap → Option β) : Option β :=
 p.box a0 H fun t1 H =>
 p.fadr 0 t1 fun t3 =>
 p.load false 1 t3 H fun t4 =>
 p.call 4 (.fn 52 [] []) [t4] H fun t5 H =>
 p.guard t5 true H (fun k' => p.fadr 1 t1 fun t' => k' t' H) fun t7 H =>
 p.guard t5 true H (fun k' => p.load false 1 t7 H fun t' => k' t' H) fun t8 H =>
 p.guard t5 true H (fun k' => p.len t8 fun t' => k' t' H) fun t9 H =>
 p.guard t5 true H (fun k' => p.bin .leq t9 (.sc (.int .i64 40)) fun t' => k' t' H) fun t10 H =>
 p.pick t5 t10 (.sc (.bool false)) fun t11 =>
 p.guard t11 true H (fun k' => p.fadr 2 t1 fun t' => k' t' H) fun t13 H =>
 p.guard t11 true H (fun k' => p.load false 1 t13 H fun t' => k' t' H) fun t14 H =>
 p.guard t11 true H (fun k' => p.call 4 (.fn 53 [] []) [t14, (.sc (.int .i64 0)), (.sc (.int .i64 2))] H fun t' H => k' t' H) fun t15 H =>
 p.pick t11 t15 (.sc (.bool false)) fun t16 =>
 k t16 H
theorem f21_body (p : Pr β) (n : Nat) (a0 : AV) (H : Heap) (k : AV → Heap → Option β) : evalBody ti0 p n ⟨c21, 17, Go.Proofs.Tryd.f21.results.toList, o21⟩ [a0] H k = f21 p n a0 H k := by kernel_rfl
noncomputable def f19_l0 (p : Pr β) (n : Nat)  (k : AV → Heap → Option β) : Nat → AV → AV → Heap → Option β
 | 0, _, _, _ => none
 | m + 1, t0, t3, H => p.len t0 fun t6 =>
   p.bin .lss t3 t6 fun t7 =>
   p.cond t7
   (p.iadr 4 t0 t3 fun t12 =>
   p.load true 4 t12 H fun t13 =>
   p.call 4 (.fn 21 [] []) [t13] H fun t14 H =>
   p.un .not t14 fun t15 =>
   p.cond t15
   (k (.sc (.bool false)) H)
   (p.bin .add t3 (.sc (.int .i64 1)) fun t9 =>
   f19_l0 p n  k m t0 t9 H))
   (p.len t0 fun t17 =>
   p.bin .leq t17 (.sc (.int .i64 6)) fun t18 =>
   k t18 H)
noncomputable def f19 (p : Pr β) (n : Nat) (a0 : AV) (H : Heap) (k : AV → Heap → Option β) : Option β :=
 f19_l0 p n  k n a0 (.sc (.int .i64 0)) H
noncomputable def f19_L0 (p : Pr β) (n : Nat)  (k : AV → Heap → Option β) (m : Nat) (tm : Tm) (H : Heap) : Option β :=
 iterC 19 (fun tm H k => evalCode ti0 p o19 19 n (cd c19 [1, 0, 1, 0, 0]) tm H k) (blkK 0 (seqK (fun tm H => evalCode ti0 p o19 19 n (cd c19 [1, 1]) tm H (endK ti0 p Go.Proofs.Tryd.f19.results.toList k)) (endK ti0 p Go.Proofs.Tryd.f19.results.toList k))) m tm H
theorem f19_L0_step (p : Pr β) (n : Nat)  (k : AV → Heap → Option β) (m0 : Nat) (t : Nat → AV) (H : Heap) : f19_L0 p n  k (m0 + 1) (tf 19 0 t) H =
 p.len (t 0) fun t6 =>
 p.bin .lss (t 3) t6 fun t7 =>
 p.cond t7
 (p.iadr 4 (t 0) (t 3) fun t12 =>
 p.load true 4 t12 H fun t13 =>
 p.call 4 (.fn 21 [] []) [t13] H fun t14 H =>
 p.un .not t14 fun t15 =>
 p.cond t15
 (k (.sc (.bool false)) H)
 (p.bin .add (t 3) (.sc (.int .i64 1)) fun t9 =>
 f19_L0 p n  k m0 (tf 19 0 (ud [(3, t9), (4, (t 3)), (5, (t 0)), (6, t6), (7, t7), (8, (t 3)), (9, t9), (10, (t 0)), (11, (t 3)), (12, t12), (13, t13), (14, t14), (15, t15)] t)) H))
 (p.len (t 0) fun t17 =>
 p.bin .leq t17 (.sc (.int .i64 6)) fun t18 =>
 k t18 H) := by kernel_rfl
theorem f19_l0_eq (p : Pr β) (n : Nat)  (k : AV → Heap → Option β)   (m0 : Nat) : ∀ (t : Nat → AV) (H : Heap), f19_L0 p n  k m0 (tf 19 0 t) H = f19_l0 p n  k m0 (t 0) (t 3) H := by
 induction m0 with
 | zero => intros; rfl
 | succ m0 ih =>
  intro t H
  rw [f19_L0_step]
  simp only [ih]
  kernel_rfl
theorem f19_raw (p : Pr β) (n : Nat) (a0 : AV) (H : Heap) (k : AV → Heap → Option β) : evalBody ti0 p n ⟨c19, 19, Go.Proofs.Tryd.f19.results.toList, o19⟩ [a0] H k =
 f19_L0 p n  k n (tf 19 0 (ud [(0, a0), (2, (.sc (.bool false))), (3, (.sc (.int .i64 0)))] ut)) H := by kernel_rfl
theorem f19_body (p : Pr β) (n : Nat) (a0 : AV) (H : Heap) (k : AV → Heap → Option β) : evalBody ti0 p n ⟨c19, 19, Go.Proofs.Tryd.f19.results.toList, o19⟩ [a0] H k = f19 p n a0 H k := by
 rw [f19_raw]
 simp only [f19_l0_eq]
 kernel_rfl
noncomputable def f17 (p : Pr β) (n : Nat) (a0 a1 : AV) (H : Heap) (k : AV → Heap → Option β) : Option β :=
 p.box a1 H fun t3 H =>
 p.call 37 (.fn 47 [] []) [a0] H fun t8 H =>
 p.call 4 (.fn 19 [] []) [a0] H fun t10 H =>
 p.un .not t10 fun t11 =>
 p.guard t11 false H (fun k' => p.load true 4 t3 H fun t' => k' t' H) fun t13 H =>
 p.guard t11 false H (fun k' => p.call 4 (.fn 21 [] []) [t13] H fun t' H => k' t' H) fun t14 H =>
 p.guard t11 false H (fun k' => p.un .not t14 fun t' => k' t' H) fun t15 H =>
 p.pick t11 (.sc (.bool true)) t15 fun t16 =>
 p.cond t16
 (k (packA [t8, (.sc (.int .i64 2))]) H)
 (p.len a0 fun t19 =>
 p.bin .eql t19 (.sc (.int .i64 6)) fun t20 =>
 p.cond t20
 (p.fadr 2 t3 fun t21 =>
 p.load false 1 t21 H fun t22 =>
 p.bin .eql t22 (.sc (.int .i64 0)) fun t23 =>
 p.cond t23
 (k (packA [t8, (.sc (.int .i64 1))]) H)
 (k (packA [t8, (.sc (.int .i64 2))]) H))
 (p.load true 4 t3 H fun t27 =>
 p.call 39 (.fn 48 [] []) [t27] H fun t28 H =>
 p.fill [(.sc (.string ⟨#[]⟩)), .nl, (.sc (.int .i64 0)), (.sc (.bool false))] [(0, 4, t28)] fun ct29 => p.newSl 1 4 ct29 true H fun t29 H =>
 p.app 4 56 t8 t29 H fun t30 H =>
 k (packA [t30, (.sc (.int .i64 0))]) H))
theorem f17_body (p : Pr β) (n : Nat) (a0 a1 : AV) (H : Heap) (k : AV → Heap → Option β) : evalBody ti0 p n ⟨c17, 31, Go.Proofs.Tryd.f17.results.toList, o17⟩ [a0, a1] H k = f17 p n a0 a1 H k := by kernel_rfl
noncomputable def f77_l0 (p : Pr β) (n : Nat)  (k : AV → Heap → Option β) : Nat → AV → AV → AV → AV → AV → Heap → Option β
 | 0, _, _, _, _, _, _ => none
 | m + 1, t1, t2, t15, t16, t17, H => p.bin .lss t17 t16 fun t18 =>
   p.cond t18
   (p.iadr 4 t15 t17 fun t20 =>
   p.load true 4 t20 H fun t21 =>
   p.new [(.sc (.string ⟨#[]⟩)), .nl, (.sc (.int .i64 0)), (.sc (.bool false))] H fun t8 H =>
   p.store 4 t8 t21 H fun H =>
   p.iadr 4 t1 t17 fun t24 =>
   p.load true 4 t24 H fun t25 =>
   p.new [(.sc (.string ⟨#[]⟩)), .nl, (.sc (.int .i64 0)), (.sc (.bool false))] H fun t9 H =>
   p.store 4 t9 t25 H fun H =>
   p.load true 4 t8 H fun t27 =>
   p.load true 4 t9 H fun t28 =>
   p.call 4 t2 [t27, t28] H fun t29 H =>
   p.un .not t29 fun t30 =>
   p.cond t30
   (k (.sc (.bool false)) H)
   (p.bin .add t17 (.sc (.int .i64 1)) fun t31 =>
   f77_l0 p n  k m t1 t2 t15 t16 t31 H))
   (k (.sc (.bool true)) H)
noncomputable def f77 (p : Pr β) (n : Nat) (a0 a1 a2 : AV) (H : Heap) (k : AV → Heap → Option β) : Option β :=
 p.len a0 fun t11 =>
 p.len a1 fun t13 =>
 p.bin .neq t11 t13 fun t14 =>
 p.cond t14
 (k (.sc (.bool false)) H)
 (p.len a0 fun t16 =>
 f77_l0 p n  k n a1 a2 a0 t16 (.sc (.int .i64 0)) H)
noncomputable def f77_L0 (p : Pr β) (n : Nat)  (k : AV → Heap → Option β) (m : Nat) (tm : Tm) (H : Heap) : Option β :=
 iterC 32 (fun tm H k => evalCode ti0 p o77 32 n (cd c77 [1, 1, 0, 1, 0, 0]) tm H k) (blkK 0 (seqK (fun tm H => evalCode ti0 p o77 32 n (cd c77 [1, 1, 1]) tm H (endK ti0 p Go.Proofs.Tryd.f77.results.toList k)) (endK ti0 p Go.Proofs.Tryd.f77.results.toList k))) m tm H
theorem f77_L0_step (p : Pr β) (n : Nat)  (k : AV → Heap → Option β) (m0 : Nat) (t : Nat → AV) (H : Heap) : f77_L0 p n  k (m0 + 1) (tf 32 0 t) H =
 p.bin .lss (t 17) (t 16) fun t18 =>
 p.cond t18
 (p.iadr 4 (t 15) (t 17) fun t20 =>
 p.load true 4 t20 H fun t21 =>
 p.new [(.sc (.string ⟨#[]⟩)), .nl, (.sc (.int .i64 0)), (.sc (.bool false))] H fun t8 H =>
 p.store 4 t8 t21 H fun H =>
 p.iadr 4 (t 1) (t 17) fun t24 =>
 p.load true 4 t24 H fun t25 =>
 p.new [(.sc (.string ⟨#[]⟩)), .nl, (.sc (.int .i64 0)), (.sc (.bool false))] H fun t9 H =>
 p.store 4 t9 t25 H fun H =>
 p.load true 4 t8 H fun t27 =>
 p.load true 4 t9 H fun t28 =>
 p.call 4 (t 2) [t27, t28] H fun t29 H =>
 p.un .not t29 fun t30 =>
 p.cond t30
 (k (.sc (.bool false)) H)
 (p.bin .add (t 17) (.sc (.int .i64 1)) fun t31 =>
 f77_L0 p n  k m0 (tf 32 0 (ud [(7, (t 17)), (8, t8), (9, t9), (17, t31), (18, t18), (19, (t 17)), (20, t20), (21, t21), (22, (t 1)), (23, (t 17)), (24, t24), (25, t25), (26, (t 2)), (27, t27), (28, t28), (29, t29), (30, t30), (31, t31)] t)) H))
 (k (.sc (.bool true)) H) := by kernel_rfl
theorem f77_l0_eq (p : Pr β) (n : Nat)  (k : AV → Heap → Option β)   (m0 : Nat) : ∀ (t : Nat → AV) (H : Heap), f77_L0 p n  k m0 (tf 32 0 t) H = f77_l0 p n  k m0 (t 1) (t 2) (t 15) (t 16) (t 17) H := by
 induction m0 with
 | zero => intros; rfl
 | succ m0 ih =>
  intro t H
  rw [f77_L0_step]
  simp only [ih]
  kernel_rfl
theorem f77_raw (p : Pr β) (n : Nat) (a0 a1 a2 : AV) (H : Heap) (k : AV → Heap → Option β) : evalBody ti0 p n ⟨c77, 32, Go.Proofs.Tryd.f77.results.toList, o77⟩ [a0, a1, a2] H k =
 p.len a0 fun t11 =>
 p.len a1 fun t13 =>
 p.bin .neq t11 t13 fun t14 =>
 p.cond t14
 (k (.sc (.bool false)) H)
 (p.len a0 fun t16 =>
 f77_L0 p n  k n (tf 32 0 (ud [(0, a0), (1, a1), (2, a2), (6, (.sc (.bool false))), (10, a0), (11, t11), (12, a1), (13, t13), (14, t14), (15, a0), (16, t16), (17, (.sc (.int .i64 0)))] ut)) H) := by kernel_rfl
theorem f77_body (p : Pr β) (n : Nat) (a0 a1 a2 : AV) (H : Heap) (k : AV → Heap → Option β) : evalBody ti0 p n ⟨c77, 32, Go.Proofs.Tryd.f77.results.toList, o77⟩ [a0, a1, a2] H k = f77 p n a0 a1 a2 H k := by
 rw [f77_raw]
 simp only [f77_l0_eq]
 kernel_rfl
noncomputable def f54 (p : Pr β) (n : Nat) (a0 a1 : AV) (H : Heap) (k : AV → Heap → Option β) : Option β :=
 p.cvBS a0 H fun t6 =>
 p.cvBS a1 H fun t8 =>
 p.bin .eql t6 t8 fun t9 =>
 k t9 H
theorem f54_body (p : Pr β) (n : Nat) (a0 a1 : AV) (H : Heap) (k : AV → Heap → Option β) : evalBody ti0 p n ⟨c54, 10, Go.Proofs.Tryd.f54.results.toList, o54⟩ [a0, a1] H k = f54 p n a0 a1 H k := by kernel_rfl
noncomputable def f24 (p : Pr β) (n : Nat) (a0 a1 : AV) (H : Heap) (k : AV → Heap → Option β) : Option β :=
 p.box a0 H fun t2 H =>
 p.box a1 H fun t3 H =>
 p.fadr 0 t2 fun t5 =>
 p.load false 1 t5 H fun t6 =>
 p.fadr 0 t3 fun t7 =>
 p.load false 1 t7 H fun t8 =>
 p.bin .eql t6 t8 fun t9 =>
 p.guard t9 true H (fun k' => p.fadr 1 t2 fun t' => k' t' H) fun t11 H =>
 p.guard t9 true H (fun k' => p.load false 1 t11 H fun t' => k' t' H) fun t12 H =>
 p.guard t9 true H (fun k' => p.fadr 1 t3 fun t' => k' t' H) fun t13 H =>
 p.guard t9 true H (fun k' => p.load false 1 t13 H fun t' => k' t' H) fun t14 H =>
 p.guard t9 true H (fun k' => p.call 4 (.fn 54 [] []) [t12, t14] H fun t' H => k' t' H) fun t15 H =>
 p.pick t9 t15 (.sc (.bool false)) fun t16 =>
 p.guard t16 true H (fun k' => p.fadr 2 t2 fun t' => k' t' H) fun t18 H =>
 p.guard t16 true H (fun k' => p.load false 1 t18 H fun t' => k' t' H) fun t19 H =>
 p.guard t16 true H (fun k' => p.fadr 2 t3 fun t' => k' t' H) fun t20 H =>
 p.guard t16 true H (fun k' => p.load false 1 t20 H fun t' => k' t' H) fun t21 H =>
 p.guard t16 true H (fun k' => p.bin .eql t19 t21 fun t' => k' t' H) fun t22 H =>
 p.pick t16 t22 (.sc (.bool false)) fun t23 =>
 p.guard t23 true H (fun k' => p.fadr 3 t2 fun t' => k' t' H) fun t25 H =>
 p.guard t23 true H (fun k' => p.load false 1 t25 H fun t' => k' t' H) fun t26 H =>
 p.guard t23 true H (fun k' => p.fadr 3 t3 fun t' => k' t' H) fun t27 H =>
 p.guard t23 true H (fun k' => p.load false 1 t27 H fun t' => k' t' H) fun t28 H =>
 p.guard t23 true H (fun k' => p.binB .eql t26 t28 fun t' => k' t' H) fun t29 H =>
 p.pick t23 t29 (.sc (.bool false)) fun t30 =>
 k t30 H
theorem f24_body (p : Pr β) (n : Nat) (a0 a1 : AV) (H : Heap) (k : AV → Heap → Option β) : evalBody ti0 p n ⟨c24, 31, Go.Proofs.Tryd.f24.results.toList, o24⟩ [a0, a1] H k = f24 p n a0 a1 H k := by kernel_rfl
noncomputable def f55 (p : Pr β) (n : Nat) (a0 a1 : AV) (H : Heap) (k : AV → Heap → Option β) : Option β :=
 p.call 4 (.fn 77 [] []) [a0, a1, (.fn 24 [] [])] H fun t7 H =>
 k t7 H
theorem f55_body (p : Pr β) (n : Nat) (a0 a1 : AV) (H : Heap) (k : AV → Heap → Option β) : evalBody ti0 p n ⟨c55, 8, Go.Proofs.Tryd.f55.results.toList, o55⟩ [a0, a1] H k = f55 p n a0 a1 H k := by kernel_rfl
noncomputable def f25 (p : Pr β) (n : Nat) (a0 a1 : AV) (H : Heap) (k : AV → Heap → Option β) : Option β :=
 p.len a1 fun t6 =>
 p.len a0 fun t8 =>
 p.bin .leq t6 t8 fun t9 =>
 p.guard t9 true H (fun k' => k' a0 H) fun t11 H =>
 p.guard t9 true H (fun k' => k' a0 H) fun t12 H =>
 p.guard t9 true H (fun k' => p.len t12 fun t' => k' t' H) fun t13 H =>
 p.guard t9 true H (fun k' => k' a1 H) fun t14 H =>
 p.guard t9 true H (fun k' => p.len t14 fun t' => k' t' H) fun t15 H =>
 p.guard t9 true H (fun k' => p.bin .sub t13 t15 fun t' => k' t' H) fun t16 H =>
 p.guard t9 true H (fun k' => p.slice 4 t11 (some t16) none fun t' => k' t' H) fun t17 H =>
 p.guard t9 true H (fun k' => k' a1 H) fun t18 H =>
 p.guard t9 true H (fun k' => p.call 4 (.fn 55 [] []) [t17, t18] H fun t' H => k' t' H) fun t19 H =>
 p.pick t9 t19 (.sc (.bool false)) fun t20 =>
 k t20 H
theorem f25_body (p : Pr β) (n : Nat) (a0 a1 : AV) (H : Heap) (k : AV → Heap → Option β) : evalBody ti0 p n ⟨c25, 21, Go.Proofs.Tryd.f25.results.toList, o25⟩ [a0, a1] H k = f25 p n a0 a1 H k := by kernel_rfl
noncomputable def f22 (p : Pr β) (n : Nat) (a0 a1 : AV) (H : Heap) (k : AV → Heap → Option β) : Option β :=
 p.len a0 fun t6 =>
 p.len a1 fun t8 =>
 p.bin .eql t6 t8 fun t9 =>
 p.guard t9 true H (fun k' => k' a0 H) fun t11 H =>
 p.guard t9 true H (fun k' => k' a1 H) fun t12 H =>
 p.guard t9 true H (fun k' => p.call 4 (.fn 25 [] []) [t11, t12] H fun t' H => k' t' H) fun t13 H =>
 p.pick t9 t13 (.sc (.bool false)) fun t14 =>
 k t14 H
theorem f22_body (p : Pr β) (n : Nat) (a0 a1 : AV) (H : Heap) (k : AV → Heap → Option β) : evalBody ti0 p n ⟨c22, 15, Go.Proofs.Tryd.f22.results.toList, o22⟩ [a0, a1] H k = f22 p n a0 a1 H k := by kernel_rfl
noncomputable def f23 (p : Pr β) (n : Nat) (a0 : AV) (H : Heap) (k : AV → Heap → Option β) : Option β :=
 p.new [(.sc (.string ⟨#[]⟩)), .nl, (.sc (.int .i64 0)), (.sc (.bool false))] H fun t3 H =>
 p.call 37 (.fn 45 [] []) [a0] H fun t7 H =>
 p.len a0 fun t9 =>
 p.bin .eql t9 (.sc (.int .i64 0)) fun t10 =>
 p.cond t10
 (p.fill [(.sc (.string ⟨#[]⟩)), .nl, (.sc (.int .i64 0)), (.sc (.bool false))] [] fun ct12 =>
 p.store 4 t3 (.agg ct12) H fun H =>
 p.load true 4 t3 H fun r1 =>
 k (packA [t7, r1, (.sc (.bool false))]) H)
 (p.slice 4 t7 (some (.sc (.int .i64 1))) none fun t14 =>
 p.iadr 4 t7 (.sc (.int .i64 0)) fun t16 =>
 p.load true 4 t16 H fun t17 =>
 p.store 4 t3 t17 H fun H =>
 p.load true 4 t3 H fun r1 =>
 k (packA [t14, r1, (.sc (.bool true))]) H)
theorem f23_body (p : Pr β) (n : Nat) (a0 : AV) (H : Heap) (k : AV → Heap → Option β) : evalBody ti0 p n ⟨c23, 18, Go.Proofs.Tryd.f23.results.toList, o23⟩ [a0] H k = f23 p n a0 H k := by kernel_rfl
noncomputable def f4_l0 (p : Pr β) (n : Nat)  (k : AV → Heap → Option β) : Nat → AV → AV → AV → AV → AV → Heap → Option β
 | 0, _, _, _, _, _, _ => none
 | m + 1, t3, t4, t5, t9, t10, H => p.len t3 fun t64 =>
   p.bin .lss t10 t64 fun t65 =>
   p.cond t65
   (p.call 47 (.fn 23 [] []) [t9] H fun t70 H =>
   p.extr t70 0 fun t71 =>
   p.extr t70 1 fun t72 =>
   p.extr t70 2 fun t73 =>
   p.new [(.sc (.string ⟨#[]⟩)), .nl, (.sc (.int .i64 0)), (.sc (.bool false))] H fun t12 H =>
   p.store 4 t12 t72 H fun H =>
   p.un .not t73 fun t75 =>
   p.guard t75 false H (fun k' => p.load true 4 t12 H fun t' => k' t' H) fun t77 H =>
   p.guard t75 false H (fun k' => k' t3 H) fun t78 H =>
   p.guard t75 false H (fun k' => k' t10 H) fun t79 H =>
   p.guard t75 false H (fun k' => p.iadr 4 t78 t79 fun t' => k' t' H) fun t80 H =>
   p.guard t75 false H (fun k' => p.load true 4 t80 H fun t' => k' t' H) fun t81 H =>
   p.guard t75 false H (fun k' => p.call 4 (.fn 24 [] []) [t77, t81] H fun t' H => k' t' H) fun t82 H =>
   p.guard t75 false H (fun k' => p.un .not t82 fun t' => k' t' H) fun t83 H =>
   p.pick t75 (.sc (.bool true)) t83 fun t84 =>
   p.guard t84 false H (fun k' => k' t5 H) fun t86 H =>
   p.guard t84 false H (fun k' => k' t71 H) fun t87 H =>
   p.guard t84 false H (fun k' => p.call 4 (.fn 25 [] []) [t86, t87] H fun t' H => k' t' H) fun t88 H =>
   p.guard t84 false H (fun k' => p.un .not t88 fun t' => k' t' H) fun t89 H =>
   p.pick t84 (.sc (.bool true)) t89 fun t90 =>
   p.cond t90
   (k (.sc (.bool false)) H)
   (p.bin .add t10 (.sc (.int .i64 1)) fun t67 =>
   f4_l0 p n  k m t3 t4 t5 t71 t67 H))
   (p.call 47 (.fn 23 [] []) [t9] H fun t94 H =>
   p.extr t94 0 fun t95 =>
   p.extr t94 1 fun t96 =>
   p.extr t94 2 fun t97 =>
   p.new [(.sc (.string ⟨#[]⟩)), .nl, (.sc (.int .i64 0)), (.sc (.bool false))] H fun t15 H =>
   p.store 4 t15 t96 H fun H =>
   p.call 47 (.fn 23 [] []) [t95] H fun t100 H =>
   p.extr t100 0 fun t101 =>
   p.extr t100 1 fun t102 =>
   p.extr t100 2 fun t103 =>
   p.new [(.sc (.string ⟨#[]⟩)), .nl, (.sc (.int .i64 0)), (.sc (.bool false))] H fun t18 H =>
   p.store 4 t18 t102 H fun H =>
   p.call 4 (.fn 18 [] []) [t5] H fun t105 H =>
   p.guard t105 true H (fun k' => k' t97 H) fun t107 H =>
   p.pick t105 t107 (.sc (.bool false)) fun t108 =>
   p.guard t108 true H (fun k' => p.load true 4 t15 H fun t' => k' t' H) fun t110 H =>
   p.guard t108 true H (fun k' => p.load true 4 t4 H fun t' => k' t' H) fun t111 H =>
   p.guard t108 true H (fun k' => p.call 4 (.fn 24 [] []) [t110, t111] H fun t' H => k' t' H) fun t112 H =>
   p.pick t108 t112 (.sc (.bool false)) fun t113 =>
   p.guard t113 true H (fun k' => k' t95 H) fun t115 H =>
   p.guard t113 true H (fun k' => p.len t115 fun t' => k' t' H) fun t116 H =>
   p.guard t113 true H (fun k' => p.bin .eql t116 (.sc (.int .i64 0)) fun t' => k' t' H) fun t117 H =>
   p.pick t113 t117 (.sc (.bool false)) fun t118 =>
   p.guard t118 true H (fun k' => k' t103 H) fun t120 H =>
   p.guard t118 true H (fun k' => p.un .not t120 fun t' => k' t' H) fun t121 H =>
   p.pick t118 t121 (.sc (.bool false)) fun t122 =>
   p.guard t122 true H (fun k' => k' t5 H) fun t124 H =>
   p.guard t122 true H (fun k' => k' t3 H) fun t125 H =>
   p.guard t122 true H (fun k' => k' t3 H) fun t126 H =>
   p.guard t122 true H (fun k' => p.len t126 fun t' => k' t' H) fun t127 H =>
   p.guard t122 true H (fun k' => p.slice 4 t125 (some t127) none fun t' => k' t' H) fun t128 H =>
   p.guard t122 true H (fun k' => p.call 4 (.fn 25 [] []) [t124, t128] H fun t' H => k' t' H) fun t129 H =>
   p.pick t122 t129 (.sc (.bool false)) fun t130 =>
   p.guard t130 true H (fun k' => p.load true 4 t4 H fun t' => k' t' H) fun t132 H =>
   p.guard t130 true H (fun k' => p.load true 4 t4 H fun t' => k' t' H) fun t133 H =>
   p.guard t130 true H (fun k' => p.call 4 (.fn 24 [] []) [t132, t133] H fun t' H => k' t' H) fun t134 H =>
   p.pick t130 t134 (.sc (.bool false)) fun t135 =>
   k t135 H)
noncomputable def f4 (p : Pr β) (n : Nat) (a0 : AV) (H : Heap) (k : AV → Heap → Option β) : Option β :=
 p.call 4 (.fn 14 [] []) [a0] H fun t21 H =>
 p.cond t21
 (k (.sc (.bool true)) H)
 (p.call 40 (.fn 15 [] []) [a0] H fun t24 H =>
 p.extr t24 0 fun t25 =>
 p.extr t24 1 fun t26 =>
 p.new [(.sc (.string ⟨#[]⟩)), .nl, (.sc (.int .i64 0)), (.sc (.bool false))] H fun t4 H =>
 p.store 4 t4 t26 H fun H =>
 p.load true 4 t4 H fun t29 =>
 p.call 42 (.fn 16 [] []) [t25, t29] H fun t30 H =>
 p.extr t30 0 fun t31 =>
 p.extr t30 1 fun t32 =>
 p.load true 4 t4 H fun t35 =>
 p.call 42 (.fn 17 [] []) [t25, t35] H fun t36 H =>
 p.extr t36 0 fun t37 =>
 p.extr t36 1 fun t38 =>
 p.bin .neq t32 t38 fun t41 =>
 p.guard t41 false H (fun k' => k' t25 H) fun t43 H =>
 p.guard t41 false H (fun k' => k' t25 H) fun t45 H =>
 p.guard t41 false H (fun k' => p.call 4 (.fn 18 [] []) [t43] H fun t' H => k' t' H) fun t44 H =>
 p.guard t41 false H (fun k' => p.call 4 (.fn 19 [] []) [t45] H fun t' H => k' t' H) fun t46 H =>
 p.guard t41 false H (fun k' => p.binB .neq t44 t46 fun t' => k' t' H) fun t47 H =>
 p.pick t41 (.sc (.bool true)) t47 fun t48 =>
 p.guard t48 false H (fun k' => p.load true 4 t4 H fun t' => k' t' H) fun t50 H =>
 p.guard t48 false H (fun k' => p.load true 4 t4 H fun t' => k' t' H) fun t52 H =>
 p.guard t48 false H (fun k' => p.call 4 (.fn 20 [] []) [t50] H fun t' H => k' t' H) fun t51 H =>
 p.guard t48 false H (fun k' => p.call 4 (.fn 21 [] []) [t52] H fun t' H => k' t' H) fun t53 H =>
 p.guard t48 false H (fun k' => p.binB .neq t51 t53 fun t' => k' t' H) fun t54 H =>
 p.pick t48 (.sc (.bool true)) t54 fun t55 =>
 p.cond t55
 (k (.sc (.bool false)) H)
 (p.bin .neq t32 (.sc (.int .i64 0)) fun t57 =>
 p.cond t57
 (p.call 4 (.fn 22 [] []) [t31, t25] H fun t60 H =>
 k t60 H)
 (f4_l0 p n  k n t25 t4 t31 t31 (.sc (.int .i64 0)) H)))
noncomputable def f4_L0 (p : Pr β) (n : Nat)  (k : AV → Heap → Option β) (m : Nat) (tm : Tm) (H : Heap) : Option β :=
 iterC 136 (fun tm H k => evalCode ti0 p o4 136 n (cd c4 [1, 1, 1, 1, 1, 1, 1, 1, 0, 1, 0, 0]) tm H k) (blkK 0 (seqK (fun tm H => evalCode ti0 p o4 136 n (cd c4 [1, 1, 1, 1, 1, 1, 1, 1, 1]) tm H (endK ti0 p Go.Proofs.Tryd.f4.results.toList k)) (endK ti0 p Go.Proofs.Tryd.f4.results.toList k))) m tm H
theorem f4_L0_step (p : Pr β) (n : Nat)  (k : AV → Heap → Option β) (m0 : Nat) (t : Nat → AV) (H : Heap) : f4_L0 p n  k (m0 + 1) (tf 136 0 t) H =
 p.len (t 3) fun t64 =>
 p.bin .lss (t 10) t64 fun t65 =>
 p.cond t65
 (p.call 47 (.fn 23 [] []) [(t 9)] H fun t70 H =>
 p.extr t70 0 fun t71 =>
 p.extr t70 1 fun t72 =>
 p.extr t70 2 fun t73 =>
 p.new [(.sc (.string ⟨#[]⟩)), .nl, (.sc (.int .i64 0)), (.sc (.bool false))] H fun t12 H =>
 p.store 4 t12 t72 H fun H =>
 p.un .not t73 fun t75 =>
 p.guard t75 false H (fun k' => p.load true 4 t12 H fun t' => k' t' H) fun t77 H =>
 p.guard t75 false H (fun k' => k' (t 3) H) fun t78 H =>
 p.guard t75 false H (fun k' => k' (t 10) H) fun t79 H =>
 p.guard t75 false H (fun k' => p.iadr 4 t78 t79 fun t' => k' t' H) fun t80 H =>
 p.guard t75 false H (fun k' => p.load true 4 t80 H fun t' => k' t' H) fun t81 H =>
 p.guard t75 false H (fun k' => p.call 4 (.fn 24 [] []) [t77, t81] H fun t' H => k' t' H) fun t82 H =>
 p.guard t75 false H (fun k' => p.un .not t82 fun t' => k' t' H) fun t83 H =>
 p.pick t75 (.sc (.bool true)) t83 fun t84 =>
 p.guard t84 false H (fun k' => k' (t 5) H) fun t86 H =>
 p.guard t84 false H (fun k' => k' t71 H) fun t87 H =>
 p.guard t84 false H (fun k' => p.call 4 (.fn 25 [] []) [t86, t87] H fun t' H => k' t' H) fun t88 H =>
 p.guard t84 false H (fun k' => p.un .not t88 fun t' => k' t' H) fun t89 H =>
 p.pick t84 (.sc (.bool true)) t89 fun t90 =>
 p.cond t90
 (k (.sc (.bool false)) H)
 (p.bin .add (t 10) (.sc (.int .i64 1)) fun t67 =>
 f4_L0 p n  k m0 (tf 136 0 (ud [(9, t71), (10, t67), (11, t71), (12, t12), (13, t73), (62, (t 10)), (63, (t 3)), (64, t64), (65, t65), (66, (t 10)), (67, t67), (68, t70), (69, (t 9)), (70, t70), (71, t71), (72, t72), (73, t73), (74, t73), (75, t75), (76, t75), (77, t77), (78, t78), (79, t79), (80, t80), (81, t81), (82, t82), (83, t83), (84, t84), (85, t84), (86, t86), (87, t87), (88, t88), (89, t89), (90, t90), (91, t71)] t)) H))
 (p.call 47 (.fn 23 [] []) [(t 9)] H fun t94 H =>
 p.extr t94 0 fun t95 =>
 p.extr t94 1 fun t96 =>
 p.extr t94 2 fun t97 =>
 p.new [(.sc (.string ⟨#[]⟩)), .nl, (.sc (.int .i64 0)), (.sc (.bool false))] H fun t15 H =>
 p.store 4 t15 t96 H fun H =>
 p.call 47 (.fn 23 [] []) [t95] H fun t100 H =>
 p.extr t100 0 fun t101 =>
 p.extr t100 1 fun t102 =>
 p.extr t100 2 fun t103 =>
 p.new [(.sc (.string ⟨#[]⟩)), .nl, (.sc (.int .i64 0)), (.sc (.bool false))] H fun t18 H =>
 p.store 4 t18 t102 H fun H =>
 p.call 4 (.fn 18 [] []) [(t 5)] H fun t105 H =>
 p.guard t105 true H (fun k' => k' t97 H) fun t107 H =>
 p.pick t105 t107 (.sc (.bool false)) fun t108 =>
 p.guard t108 true H (fun k' => p.load true 4 t15 H fun t' => k' t' H) fun t110 H =>
 p.guard t108 true H (fun k' => p.load true 4 (t 4) H fun t' => k' t' H) fun t111 H =>
 p.guard t108 true H (fun k' => p.call 4 (.fn 24 [] []) [t110, t111] H fun t' H => k' t' H) fun t112 H =>
 p.pick t108 t112 (.sc (.bool false)) fun t113 =>
 p.guard t113 true H (fun k' => k' t95 H) fun t115 H =>
 p.guard t113 true H (fun k' => p.len t115 fun t' => k' t' H) fun t116 H =>
 p.guard t113 true H (fun k' => p.bin .eql t116 (.sc (.int .i64 0)) fun t' => k' t' H) fun t117 H =>
 p.pick t113 t117 (.sc (.bool false)) fun t118 =>
 p.guard t118 true H (fun k' => k' t103 H) fun t120 H =>
 p.guard t118 true H (fun k' => p.un .not t120 fun t' => k' t' H) fun t121 H =>
 p.pick t118 t121 (.sc (.bool false)) fun t122 =>
 p.guard t122 true H (fun k' => k' (t 5) H) fun t124 H =>
 p.guard t122 true H (fun k' => k' (t 3) H) fun t125 H =>
 p.guard t122 true H (fun k' => k' (t 3) H) fun t126 H =>
 p.guard t122 true H (fun k' => p.len t126 fun t' => k' t' H) fun t127 H =>
 p.guard t122 true H (fun k' => p.slice 4 t125 (some t127) none fun t' => k' t' H) fun t128 H =>
 p.guard t122 true H (fun k' => p.call 4 (.fn 25 [] []) [t124, t128] H fun t' H => k' t' H) fun t129 H =>
 p.pick t122 t129 (.sc (.bool false)) fun t130 =>
 p.guard t130 true H (fun k' => p.load true 4 (t 4) H fun t' => k' t' H) fun t132 H =>
 p.guard t130 true H (fun k' => p.load true 4 (t 4) H fun t' => k' t' H) fun t133 H =>
 p.guard t130 true H (fun k' => p.call 4 (.fn 24 [] []) [t132, t133] H fun t' H => k' t' H) fun t134 H =>
 p.pick t130 t134 (.sc (.bool false)) fun t135 =>
 k t135 H) := by kernel_rfl
theorem f4_l0_eq (p : Pr β) (n : Nat)  (k : AV → Heap → Option β)   (m0 : Nat) : ∀ (t : Nat → AV) (H : Heap), f4_L0 p n  k m0 (tf 136 0 t) H = f4_l0 p n  k m0 (t 3) (t 4) (t 5) (t 9) (t 10) H := by
 induction m0 with
 | zero => intros; rfl
 | succ m0 ih =>
  intro t H
  rw [f4_L0_step]
  simp only [ih]
  kernel_rfl
theorem f4_raw (p : Pr β) (n : Nat) (a0 : AV) (H : Heap) (k : AV → Heap → Option β) : evalBody ti0 p n ⟨c4, 136, Go.Proofs.Tryd.f4.results.toList, o4⟩ [a0] H k =
 p.call 4 (.fn 14 [] []) [a0] H fun t21 H =>
 p.cond t21
 (k (.sc (.bool true)) H)
 (p.call 40 (.fn 15 [] []) [a0] H fun t24 H =>
 p.extr t24 0 fun t25 =>
 p.extr t24 1 fun t26 =>
 p.new [(.sc (.string ⟨#[]⟩)), .nl, (.sc (.int .i64 0)), (.sc (.bool false))] H fun t4 H =>
 p.store 4 t4 t26 H fun H =>
 p.load true 4 t4 H fun t29 =>
 p.call 42 (.fn 16 [] []) [t25, t29] H fun t30 H =>
 p.extr t30 0 fun t31 =>
 p.extr t30 1 fun t32 =>
 p.load true 4 t4 H fun t35 =>
 p.call 42 (.fn 17 [] []) [t25, t35] H fun t36 H =>
 p.extr t36 0 fun t37 =>
 p.extr t36 1 fun t38 =>
 p.bin .neq t32 t38 fun t41 =>
 p.guard t41 false H (fun k' => k' t25 H) fun t43 H =>
 p.guard t41 false H (fun k' => k' t25 H) fun t45 H =>
 p.guard t41 false H (fun k' => p.call 4 (.fn 18 [] []) [t43] H fun t' H => k' t' H) fun t44 H =>
 p.guard t41 false H (fun k' => p.call 4 (.fn 19 [] []) [t45] H fun t' H => k' t' H) fun t46 H =>
 p.guard t41 false H (fun k' => p.binB .neq t44 t46 fun t' => k' t' H) fun t47 H =>
 p.pick t41 (.sc (.bool true)) t47 fun t48 =>
 p.guard t48 false H (fun k' => p.load true 4 t4 H fun t' => k' t' H) fun t50 H =>
 p.guard t48 false H (fun k' => p.load true 4 t4 H fun t' => k' t' H) fun t52 H =>
 p.guard t48 false H (fun k' => p.call 4 (.fn 20 [] []) [t50] H fun t' H => k' t' H) fun t51 H =>
 p.guard t48 false H (fun k' => p.call 4 (.fn 21 [] []) [t52] H fun t' H => k' t' H) fun t53 H =>
 p.guard t48 false H (fun k' => p.binB .neq t51 t53 fun t' => k' t' H) fun t54 H =>
 p.pick t48 (.sc (.bool true)) t54 fun t55 =>
 p.cond t55
 (k (.sc (.bool false)) H)
 (p.bin .neq t32 (.sc (.int .i64 0)) fun t57 =>
 p.cond t57
 (p.call 4 (.fn 22 [] []) [t31, t25] H fun t60 H =>
 k t60 H)
 (f4_L0 p n  k n (tf 136 0 (ud [(0, a0), (2, (.sc (.bool false))), (3, t25), (4, t4), (5, t31), (6, t32), (7, t37), (8, t38), (9, t31), (10, (.sc (.int .i64 0))), (20, a0), (21, t21), (22, t24), (23, a0), (24, t24), (25, t25), (26, t26), (27, t30), (28, t25), (29, t29), (30, t30), (31, t31), (32, t32), (33, t36), (34, t25), (35, t35), (36, t36), (37, t37), (38, t38), (39, t32), (40, t38), (41, t41), (42, t41), (43, t43), (44, t44), (45, t45), (46, t46), (47, t47), (48, t48), (49, t48), (50, t50), (51, t51), (52, t52), (53, t53), (54, t54), (55, t55), (56, t32), (57, t57), (61, t31)] ut)) H))) := by kernel_rfl
theorem f4_body (p : Pr β) (n : Nat) (a0 : AV) (H : Heap) (k : AV → Heap → Option β) : evalBody ti0 p n ⟨c4, 136, Go.Proofs.Tryd.f4.results.toList, o4⟩ [a0] H k = f4 p n a0 H k := by
 rw [f4_raw]
 simp only [f4_l0_eq]
 kernel_rfl
noncomputable def fss : List (Option FnI) := [none, none, none, none, some ⟨c4, 136, Go.Proofs.Tryd.f4.results.toList, o4⟩, none, none, none, none, none, none, none, none, none, some ⟨c14, 6, Go.Proofs.Tryd.f14.results.toList, o14⟩, some ⟨c15, 13, Go.Proofs.Tryd.f15.results.toList, o15⟩, some ⟨c16, 34, Go.Proofs.Tryd.f16.results.toList, o16⟩, some ⟨c17, 31, Go.Proofs.Tryd.f17.results.toList, o17⟩, some ⟨c18, 10, Go.Proofs.Tryd.f18.results.toList, o18⟩, some ⟨c19, 19, Go.Proofs.Tryd.f19.results.toList, o19⟩, some ⟨c20, 17, Go.Proofs.Tryd.f20.results.toList, o20⟩, some ⟨c21, 17, Go.Proofs.Tryd.f21.results.toList, o21⟩, some ⟨c22, 15, Go.Proofs.Tryd.f22.results.toList, o22⟩, some ⟨c23, 18, Go.Proofs.Tryd.f23.results.toList, o23⟩, some ⟨c24, 31, Go.Proofs.Tryd.f24.results.toList, o24⟩, some ⟨c25, 21, Go.Proofs.Tryd.f25.results.toList, o25⟩, none, none, none, none, none, none, none, none, none, none, none, none, none, none, none, none, some ⟨c42, 32, Go.Proofs.Tryd.f42.results.toList, o42⟩, some ⟨c43, 14, Go.Proofs.Tryd.f43.results.toList, o43⟩, some ⟨c44, 28, Go.Proofs.Tryd.f44.results.toList, o44⟩, some ⟨c45, 20, Go.Proofs.Tryd.f45.results.toList, o45⟩, some ⟨c46, 9, Go.Proofs.Tryd.f46.results.toList, o46⟩, some ⟨c47, 21, Go.Proofs.Tryd.f47.results.toList, o47⟩, some ⟨c48, 14, Go.Proofs.Tryd.f48.results.toList, o48⟩, some ⟨c49, 15, Go.Proofs.Tryd.f49.results.toList, o49⟩, some ⟨c50, 20, Go.Proofs.Tryd.f50.results.toList, o50⟩, some ⟨c51, 5, Go.Proofs.Tryd.f51.results.toList, o51⟩, some ⟨c52, 25, Go.Proofs.Tryd.f52.results.toList, o52⟩, some ⟨c53, 15, Go.Proofs.Tryd.f53.results.toList, o53⟩, some ⟨c54, 10, Go.Proofs.Tryd.f54.results.toList, o54⟩, some ⟨c55, 8, Go.Proofs.Tryd.f55.results.toList, o55⟩, none, none, none, some ⟨c59, 15, Go.Proofs.Tryd.f59.results.toList, o59⟩, none, none, none, some ⟨c63, 22, Go.Proofs.Tryd.f63.results.toList, o63⟩, some ⟨c64, 9, Go.Proofs.Tryd.f64.results.toList, o64⟩, some ⟨c65, 14, Go.Proofs.Tryd.f65.results.toList, o65⟩, some ⟨c66, 31, Go.Proofs.Tryd.f66.results.toList, o66⟩, some ⟨c67, 16, Go.Proofs.Tryd.f67.results.toList, o67⟩, some ⟨c68, 20, Go.Proofs.Tryd.f68.results.toList, o68⟩, some ⟨c69, 12, Go.Proofs.Tryd.f69.results.toList, o69⟩, some ⟨c70, 18, Go.Proofs.Tryd.f70.results.toList, o70⟩, none, none, some ⟨c73, 5, Go.Proofs.Tryd.f73.results.toList, o73⟩, some ⟨c74, 6, Go.Proofs.Tryd.f74.results.toList, o74⟩, some ⟨c75, 17, Go.Proofs.Tryd.f75.results.toList, o75⟩, some ⟨c76, 33, Go.Proofs.Tryd.f76.results.toList, o76⟩, some ⟨c77, 32, Go.Proofs.Tryd.f77.results.toList, o77⟩, none, none, none, none, none, none, none, some ⟨c85, 6, Go.Proofs.Tryd.f85.results.toList, o85⟩, some ⟨c86, 58, Go.Proofs.Tryd.f86.results.toList, o86⟩, some ⟨c87, 10, Go.Proofs.Tryd.f87.results.toList, o87⟩, some ⟨c88, 12, Go.Proofs.Tryd.f88.results.toList, o88⟩, none, none, none, some ⟨c92, 35, Go.Proofs.Tryd.f92.results.toList, o92⟩, none, none, none, none, none, none, none, none, none, none, none, none, some ⟨c105, 104, Go.Proofs.Tryd.f105.results.toList, o105⟩]
noncomputable def tps : List (Nat × List Nat) := [(28, [22, 27]), (40, [37, 39]), (42, [37, 3]), (47, [37, 39, 4]), (103, [102, 4]), (107, [3, 3, 4]), (116, [21, 3]), (119, [118, 118])]
noncomputable def E0 : Env := { ti := ti0, tp := fun t => ordOf tps t, fs := fun f => (fss[f]?).getD none, ext := fun f => if Nat.beq f 71 then some ext71 else if Nat.beq f 72 then some ext72 else if Nat.beq f 91 then some ext91 else none, hm := fun f => [10, 11, 15, 30, 36, 37, 38, 42, 43, 44, 63, 64, 65, 66, 67, 68, 69, 79, 82, 85, 86, 87, 88, 103, 131, 132, 133, 134, 135].contains f }
noncomputable def PR (n : Nat) (β : Type) : Pr β := prims E0 (evalFn E0 n) β
theorem f14_eq (n : Nat) (a0 : AV) (H : Heap) (k : AV → Heap → Option β) : evalFn E0 (n + 1) β 14 [a0] H k = f14 (PR n β) n a0 H k := f14_body (PR n β) n a0 H k
theorem f42_eq (n : Nat) (a0 : AV) (H : Heap) (k : AV → Heap → Option β) : evalFn E0 (n + 1) β 42 [a0] H k = f42 (PR n β) n a0 H k := f42_body (PR n β) n a0 H k
theorem f86_eq (n : Nat) (a0 : AV) (H : Heap) (k : AV → Heap → Option β) : evalFn E0 (n + 1) β 86 [a0] H k = f86 (PR n β) n a0 H k := f86_body (PR n β) n a0 H k
theorem f66_eq (n : Nat) (a0 a1 : AV) (H : Heap) (k : AV → Heap → Option β) : evalFn E0 (n + 1) β 66 [a0, a1] H k = f66 (PR n β) n a0 a1 H k := f66_body (PR n β) n a0 a1 H k
theorem f88_eq (n : Nat) (a0 a1 : AV) (H : Heap) (k : AV → Heap → Option β) : evalFn E0 (n + 1) β 88 [a0, a1] H k = f88 (PR n β) n a0 a1 H k := f88_body (PR n β) n a0 a1 H k
theorem f85_eq (n : Nat) (a0 : AV) (H : Heap) (k : AV → Heap → Option β) : evalFn E0 (n + 1) β 85 [a0] H k = f85 (PR n β) n a0 H k := f85_body (PR n β) n a0 H k
theorem f68_eq (n : Nat) (a0 a1 : AV) (H : Heap) (k : AV → Heap → Option β) : evalFn E0 (n + 1) β 68 [a0, a1] H k = f68 (PR n β) n a0 a1 H k := f68_body (PR n β) n a0 a1 H k
theorem f64_eq (n : Nat) (a0 a1 : AV) (H : Heap) (k : AV → Heap → Option β) : evalFn E0 (n + 1) β 64 [a0, a1] H k = f64 (PR n β) n a0 a1 H k := f64_body (PR n β) n a0 a1 H k
theorem f65_eq (n : Nat) (a0 : AV) (H : Heap) (k : AV → Heap → Option β) : evalFn E0 (n + 1) β 65 [a0] H k = f65 (PR n β) n a0 H k := f65_body (PR n β) n a0 H k
theorem f63_eq (n : Nat) (a0 a1 : AV) (H : Heap) (k : AV → Heap → Option β) : evalFn E0 (n + 1) β 63 [a0, a1] H k = f63 (PR n β) n a0 a1 H k := f63_body (PR n β) n a0 a1 H k
theorem f87_eq (n : Nat) (a0 : AV) (H : Heap) (k : AV → Heap → Option β) : evalFn E0 (n + 1) β 87 [a0] H k = f87 (PR n β) n a0 H k := f87_body (PR n β) n a0 H k
theorem f67_eq (n : Nat) (a0 : AV) (H : Heap) (k : AV → Heap → Option β) : evalFn E0 (n + 1) β 67 [a0] H k = f67 (PR n β) n a0 H k := f67_body (PR n β) n a0 H k
theorem f69_eq (n : Nat) (a0 a1 : AV) (H : Heap) (k : AV → Heap → Option β) : evalFn E0 (n + 1) β 69 [a0, a1] H k = f69 (PR n β) n a0 a1 H k := f69_body (PR n β) n a0 a1 H k
theorem f44_eq (n : Nat) (a0 : AV) (H : Heap) (k : AV → Heap → Option β) : evalFn E0 (n + 1) β 44 [a0] H k = f44 (PR n β) n a0 H k := f44_body (PR n β) n a0 H k
theorem f43_eq (n : Nat) (a0 : AV) (H : Heap) (k : AV → Heap → Option β) : evalFn E0 (n + 1) β 43 [a0] H k = f43 (PR n β) n a0 H k := f43_body (PR n β) n a0 H k
theorem f15_eq (n : Nat) (a0 : AV) (H : Heap) (k : AV → Heap → Option β) : evalFn E0 (n + 1) β 15 [a0] H k = f15 (PR n β) n a0 H k := f15_body (PR n β) n a0 H k
theorem f70_eq (n : Nat) (a0 : AV) (H : Heap) (k : AV → Heap → Option β) : evalFn E0 (n + 1) β 70 [a0] H k = f70 (PR n β) n a0 H k := f70_body (PR n β) n a0 H k
theorem f46_eq (n : Nat) (a0 : AV) (H : Heap) (k : AV → Heap → Option β) : evalFn E0 (n + 1) β 46 [a0] H k = f46 (PR n β) n a0 H k := f46_body (PR n β) n a0 H k
theorem f45_eq (n : Nat) (a0 : AV) (H : Heap) (k : AV → Heap → Option β) : evalFn E0 (n + 1) β 45 [a0] H k = f45 (PR n β) n a0 H k := f45_body (PR n β) n a0 H k
theorem f73_eq (n : Nat) (a0 : AV) (H : Heap) (k : AV → Heap → Option β) : evalFn E0 (n + 1) β 73 [a0] H k = f73 (PR n β) n a0 H k := f73_body (PR n β) n a0 H k
theorem f50_eq (n : Nat) (a0 : AV) (H : Heap) (k : AV → Heap → Option β) : evalFn E0 (n + 1) β 50 [a0] H k = f50 (PR n β) n a0 H k := f50_body (PR n β) n a0 H k
theorem f59_eq (n : Nat) (a0 a1 a2 : AV) (H : Heap) (k : AV → Heap → Option β) : evalFn E0 (n + 1) β 59 [a0, a1, a2] H k = f59 (PR n β) n a0 a1 a2 H k := f59_body (PR n β) n a0 a1 a2 H k
theorem f51_eq (n : Nat) (a0 : AV) (H : Heap) (k : AV → Heap → Option β) : evalFn E0 (n + 1) β 51 [a0] H k = f51 (PR n β) n a0 H k := f51_body (PR n β) n a0 H k
theorem f20_eq (n : Nat) (a0 : AV) (H : Heap) (k : AV → Heap → Option β) : evalFn E0 (n + 1) β 20 [a0] H k = f20 (PR n β) n a0 H k := f20_body (PR n β) n a0 H k
theorem f49_eq (n : Nat) (a0 : AV) (H : Heap) (k : AV → Heap → Option β) : evalFn E0 (n + 1) β 49 [a0] H k = f49 (PR n β) n a0 H k := f49_body (PR n β) n a0 H k
theorem f18_eq (n : Nat) (a0 : AV) (H : Heap) (k : AV → Heap → Option β) : evalFn E0 (n + 1) β 18 [a0] H k = f18 (PR n β) n a0 H k := f18_body (PR n β) n a0 H k
theorem f16_eq (n : Nat) (a0 a1 : AV) (H : Heap) (k : AV → Heap → Option β) : evalFn E0 (n + 1) β 16 [a0, a1] H k = f16 (PR n β) n a0 a1 H k := f16_body (PR n β) n a0 a1 H k
theorem f48_eq (n : Nat) (a0 : AV) (H : Heap) (k : AV → Heap → Option β) : evalFn E0 (n + 1) β 48 [a0] H k = f48 (PR n β) n a0 H k := f48_body (PR n β) n a0 H k
theorem f47_eq (n : Nat) (a0 : AV) (H : Heap) (k : AV → Heap → Option β) : evalFn E0 (n + 1) β 47 [a0] H k = f47 (PR n β) n a0 H k := f47_body (PR n β) n a0 H k
theorem f53_eq (n : Nat) (a0 a1 a2 : AV) (H : Heap) (k : AV → Heap → Option β) : evalFn E0 (n + 1) β 53 [a0, a1, a2] H k = f53 (PR n β) n a0 a1 a2 H k := f53_body (PR n β) n a0 a1 a2 H k
theorem f105_eq (n : Nat) (a0 a1 : AV) (H : Heap) (k : AV → Heap → Option β) : evalFn E0 (n + 1) β 105 [a0, a1] H k = f105 (PR n β) n a0 a1 H k := f105_body (PR n β) n a0 a1 H k
theorem f92_eq (n : Nat) (a0 : AV) (H : Heap) (k : AV → Heap → Option β) : evalFn E0 (n + 1) β 92 [a0] H k = f92 (PR n β) n a0 H k := f92_body (PR n β) n a0 H k
theorem f74_eq (n : Nat) (a0 : AV) (H : Heap) (k : AV → Heap → Option β) : evalFn E0 (n + 1) β 74 [a0] H k = f74 (PR n β) n a0 H k := f74_body (PR n β) n a0 H k
theorem f75_eq (n : Nat) (a0 a1 : AV) (H : Heap) (k : AV → Heap → Option β) : evalFn E0 (n + 1) β 75 [a0, a1] H k = f75 (PR n β) n a0 a1 H k := f75_body (PR n β) n a0 a1 H k
theorem f76_eq (n : Nat) (a0 : AV) (H : Heap) (k : AV → Heap → Option β) : evalFn E0 (n + 1) β 76 [a0] H k = f76 (PR n β) n a0 H k := f76_body (PR n β) n a0 H k
theorem f52_eq (n : Nat) (a0 : AV) (H : Heap) (k : AV → Heap → Option β) : evalFn E0 (n + 1) β 52 [a0] H k = f52 (PR n β) n a0 H k := f52_body (PR n β) n a0 H k
theorem f21_eq (n : Nat) (a0 : AV) (H : Heap) (k : AV → Heap → Option β) : evalFn E0 (n + 1) β 21 [a0] H k = f21 (PR n β) n a0 H k := f21_body (PR n β) n a0 H k
theorem f19_eq (n : Nat) (a0 : AV) (H : Heap) (k : AV → Heap → Option β) : evalFn E0 (n + 1) β 19 [a0] H k = f19 (PR n β) n a0 H k := f19_body (PR n β) n a0 H k
theorem f17_eq (n : Nat) (a0 a1 : AV) (H : Heap) (k : AV → Heap → Option β) : evalFn E0 (n + 1) β 17 [a0, a1] H k = f17 (PR n β) n a0 a1 H k := f17_body (PR n β) n a0 a1 H k
theorem f77_eq (n : Nat) (a0 a1 a2 : AV) (H : Heap) (k : AV → Heap → Option β) : evalFn E0 (n + 1) β 77 [a0, a1, a2] H k = f77 (PR n β) n a0 a1 a2 H k := f77_body (PR n β) n a0 a1 a2 H k
theorem f54_eq (n : Nat) (a0 a1 : AV) (H : Heap) (k : AV → Heap → Option β) : evalFn E0 (n + 1) β 54 [a0, a1] H k = f54 (PR n β) n a0 a1 H k := f54_body (PR n β) n a0 a1 H k
theorem f24_eq (n : Nat) (a0 a1 : AV) (H : Heap) (k : AV → Heap → Option β) : evalFn E0 (n + 1) β 24 [a0, a1] H k = f24 (PR n β) n a0 a1 H k := f24_body (PR n β) n a0 a1 H k
theorem f55_eq (n : Nat) (a0 a1 : AV) (H : Heap) (k : AV → Heap → Option β) : evalFn E0 (n + 1) β 55 [a0, a1] H k = f55 (PR n β) n a0 a1 H k := f55_body (PR n β) n a0 a1 H k
theorem f25_eq (n : Nat) (a0 a1 : AV) (H : Heap) (k : AV → Heap → Option β) : evalFn E0 (n + 1) β 25 [a0, a1] H k = f25 (PR n β) n a0 a1 H k := f25_body (PR n β) n a0 a1 H k
theorem f22_eq (n : Nat) (a0 a1 : AV) (H : Heap) (k : AV → Heap → Option β) : evalFn E0 (n + 1) β 22 [a0, a1] H k = f22 (PR n β) n a0 a1 H k := f22_body (PR n β) n a0 a1 H k
theorem f23_eq (n : Nat) (a0 : AV) (H : Heap) (k : AV → Heap → Option β) : evalFn E0 (n + 1) β 23 [a0] H k = f23 (PR n β) n a0 H k := f23_body (PR n β) n a0 H k
theorem f4_eq (n : Nat) (a0 : AV) (H : Heap) (k : AV → Heap → Option β) : evalFn E0 (n + 1) β 4 [a0] H k = f4 (PR n β) n a0 H k := f4_body (PR n β) n a0 H k
end Go.Proofs.YtejjggnchdldoaaDoor.Abs
set_option linter.unusedVariables false
set_option linter.unusedSimpArgs false
namespace Go.Proofs.YtejjggnchdldoaaDoor.Abs
open Go Go.Shelf Go.RowKit Go.Lib Go.Proofs
variable {P : Program} {ρ : Ren}
def ItAt (w w' : World) (s : ByteArray) (pos : Nat) : Prop := Below w.heap.size w w' ∧ w'.heap[w.heap.size]? = some (.stringIter s pos)
def setIt (w' : World) (a : Nat) (s : ByteArray) (pos : Nat) : World := { w' with heap := w'.heap.setIfInBounds a (.stringIter s pos) }
theorem itAt_start (w : World) (s : ByteArray) (pos : Nat) : ItAt w (w.iter s pos) s pos := ⟨(Below.refl _ w).alloc (Nat.le_refl _) _, World.iter_heap w s pos⟩
theorem ItAt.lt {w w' : World} {s : ByteArray} {pos : Nat} (h : ItAt w w' s pos) : w.heap.size < w'.heap.size := by
 have := h.2
 simp only [Array.getElem?_eq_some_iff] at this
 exact this.1
theorem ItAt.set {w w' : World} {s : ByteArray} {pos : Nat} (h : ItAt w w' s pos) (pos' : Nat) : ItAt w (setIt w' w.heap.size s pos') s pos' := by
 refine ⟨h.1.trans ⟨rfl, rfl, rfl, by simp [setIt], fun k hk => ?_⟩, ?_⟩
 ·simp only [setIt]
  rw [Array.getElem?_setIfInBounds_ne (by omega)]
 ·simp only [setIt]
  rw [Array.getElem?_setIfInBounds_self_of_lt h.lt]
theorem ItAt.below {w w1 w2 : World} {s : ByteArray} {pos : Nat} (h : ItAt w w1 s pos) (hb : Below w1.heap.size w1 w2) : ItAt w w2 s pos :=
 ⟨h.1.trans (hb.mono h.1.size), by rw [hb.block _ h.lt]; exact h.2⟩
theorem next_at {w w' : World} {s : ByteArray} {pos : Nat} (h : ItAt w w' s pos) (hp : pos < s.size) (ty : TypeId) :
  (Instr.next (.pointer (some ⟨w.heap.size, 0, none⟩)) true ty).run P w' = .ok (.tuple #[.bool true, .int .i64 pos, .int .i32 (Utf8.decode s pos).1]) (setIt w' w.heap.size s (pos + (Utf8.decode s pos).2)) := by
 simp only [Instr.next, getObj, setObj, Sem.run_bind, Sem.run, h.2, Result.andThen, hp, if_true]
 simp [goInt, setIt]
theorem next_end {w w' : World} {s : ByteArray} {pos : Nat} (h : ItAt w w' s pos) (hp : ¬ pos < s.size) (ty : TypeId) :
  (Instr.next (.pointer (some ⟨w.heap.size, 0, none⟩)) true ty).run P w' = .ok (.tuple #[.bool false]) w' := by
 simp [Instr.next, getObj, Sem.run, h.2, hp]
theorem rune_at (s : ByteArray) (pos : Nat) : (Utf8.decode s pos).1 < 55296 ∨ (57343 < (Utf8.decode s pos).1 ∧ (Utf8.decode s pos).1 ≤ 1114111) := by
 rw [← Lib.decodeL_drop, Lib.decodeL_N]
 exact Lib.decodeN_valid _ _ _ _ _ (UInt8.toNat_lt _)
theorem ph_size : phB.size = 2 := rfl
set_option maxHeartbeats 8000000 in
set_option maxRecDepth 1000000 in
theorem rune_big (L : Lays.n152 P ρ) (r : Nat) (rs : ByteArray) (w : World) (h1 : 128 ≤ r) (hv : r < 55296 ∨ (57343 < r ∧ r ≤ 1114111)) (he : ¬ r = 65533) (hcv : ∀ w, (convert (ρ.t 21) (ρ.t 9) (.int .i32 r)).run P w = .ok (.string rs) w)
  (hs2 : 2 ≤ rs.size) (hs4 : rs.size ≤ 4) (hsl : rs.size = 2 → ∀ h : 1 < rs.size, 128 ≤ (rs[1]'h).toNat) :
  Calls P (ρ.f 152) #[.string phB, .int .i32 r] w fun e w' => e = .returned (.int .i64 (-1)) ∧ Below w.heap.size w w' := by
 have cV : ∀ w, Calls P (ρ.f 119) #[.int .i32 r] w _ := fun w => Any.utf8_ValidRune { L with } r w
 have cI : ∀ s c w, Calls P (ρ.f 137) #[.string s, .int .u8 c] w _ := fun s c w => Any.strings_IndexByte { L with } s c w
 have mixed := L.mixed
 have t3 := L.t3; have a3 := L.a3; have z3 := L.z3; have v3 := L.v3
 have t4 := L.t4; have a4 := L.a4; have z4 := L.z4; have v4 := L.v4
 have t5 := L.t5; have a5 := L.a5; have z5 := L.z5; have v5 := L.v5
 have t9 := L.t9; have a9 := L.a9; have z9 := L.z9; have v9 := L.v9
 have t21 := L.t21; have a21 := L.a21; have z21 := L.z21; have v21 := L.v21
 have e137 : ∀ args w, (callFunc (ρ.f 137) args).run P w = .ok (.enter (ρ.f 137) args) w := enters_of L.f137 (by kernel_rfl) rfl
 have e119 : ∀ args w, (callFunc (ρ.f 119) args).run P w = .ok (.enter (ρ.f 119) args) w := enters_of L.f119 (by kernel_rfl) rfl
 have hge : decide ((0 : Int) ≤ (r : Int)) = true := by simp
 have hlt : decide ((r : Int) < 128) = false := by simp; omega
 have bel : ∀ pos, Below w.heap.size w (w.iter phB pos) := fun pos => (Below.refl _ w).alloc (Nat.le_refl _) _
 have hne : ((r : Int) == 65533) = false := by simp; omega
 have hvr : Lib.validRune (r : Int) = true := by simp [Lib.validRune]; omega
 go_enter L.f152, Body.n152_ntmps ρ
 go_wp2_with (first
  | (go_at_fn (ρ.f 119); refine (cV _).mono ?_; rintro e w' ⟨rfl, hw⟩; rw [hw, hvr])
  | (go_at_fn (ρ.f 137); refine (cI _ _ _).mono ?_; rintro e w' ⟨rfl, hw⟩; rw [hw]))
 go_step3
 go_wp2
 go_loopg [9, 10] 1 (fun g i fl wx => g = 1 ∧ i = .int .i64 ((rs.size : Int) - 1) ∧ fl = .int .i64 0 ∧ wx = w)
 case atStart => exact ⟨rfl, rfl, rfl, rfl⟩
 case round =>
  obtain ⟨-, rfl, rfl, rfl⟩ := hrel
  by_cases h3 : 3 ≤ rs.size
  ·have hlt : decide ((rs.size : Int) - 1 < (phB.size : Int)) = false := by rw [ph_size]; simp; omega
   go_wp2
   try rw [Exit.noGoto_ret]
   go_ret
   exact ⟨rfl, Below.refl _ _⟩
  ·have h2 : rs.size = 2 := by omega
   have hi1 : ((rs.size : Int) - 1) = 1 := by omega
   have hi : 1 < rs.size := by omega
   have hp : 1 < phB.size := by decide
   obtain ⟨x, hx⟩ : ∃ x : UInt8, rs[1]'hi = x := ⟨_, rfl⟩
   have hx128 : 128 ≤ x.toNat := by
    rw [← hx]
    exact hsl h2 hi
   have hp1 : phB[1]'hp = 35 := rfl
   have hlt : decide ((1 : Int) < (phB.size : Int)) = true := rfl
   have hne35 : (((35 : UInt8).toNat : Int) != (x.toNat : Int)) = true := by simp; omega
   have hib : Lib.indexByte (List.take (phB.size - 2) (List.drop 2 phB.data.toList)) x = -1 := rfl
   rw [hi1]
   clear hsl hs2 hs4
   go_wp2
   go_step3
   go_wp2
   go_region_o
   all_goals
    go_wp2
    go_region_with_o (go_at_fn (ρ.f 137); refine (cI _ _ _).mono ?_; rintro e w' ⟨rfl, hw⟩; rw [hw])
   all_goals
    go_wp2
    simp only [Exit.inBlock, Exit.then, Exit.noGoto]
    go_ret
    exact ⟨rfl, (Below.refl _ _).drew.drew⟩
set_option maxHeartbeats 8000000 in
set_option maxRecDepth 1000000 in
theorem rune_ph (L : Lays.n152 P ρ) (r : Nat) (w : World) (h1 : 128 ≤ r) (hv : r < 55296 ∨ (57343 < r ∧ r ≤ 1114111)) :
  Calls P (ρ.f 152) #[.string phB, .int .i32 r] w fun e w' => e = .returned (.int .i64 (-1)) ∧ Below w.heap.size w w' := by
 have cV : ∀ w, Calls P (ρ.f 119) #[.int .i32 r] w _ := fun w => Any.utf8_ValidRune { L with } r w
 have cI : ∀ s c w, Calls P (ρ.f 137) #[.string s, .int .u8 c] w _ := fun s c w => Any.strings_IndexByte { L with } s c w
 have t3 := L.t3; have a3 := L.a3; have z3 := L.z3; have v3 := L.v3
 have t4 := L.t4; have a4 := L.a4; have z4 := L.z4; have v4 := L.v4
 have t5 := L.t5; have a5 := L.a5; have z5 := L.z5; have v5 := L.v5
 have t9 := L.t9; have a9 := L.a9; have z9 := L.z9; have v9 := L.v9
 have t21 := L.t21; have a21 := L.a21; have z21 := L.z21; have v21 := L.v21
 have e137 : ∀ args w, (callFunc (ρ.f 137) args).run P w = .ok (.enter (ρ.f 137) args) w := enters_of L.f137 (by kernel_rfl) rfl
 have e119 : ∀ args w, (callFunc (ρ.f 119) args).run P w = .ok (.enter (ρ.f 119) args) w := enters_of L.f119 (by kernel_rfl) rfl
 have hge : decide ((0 : Int) ≤ (r : Int)) = true := by simp
 have hlt : decide ((r : Int) < 128) = false := by simp; omega
 have bel : ∀ pos, Below w.heap.size w (w.iter phB pos) := fun pos => (Below.refl _ w).alloc (Nat.le_refl _) _
 by_cases he : r = 65533
 ·subst he
  go_enter L.f152, Body.n152_ntmps ρ
  go_wp2
  go_loopg [5, 6] 2 (fun g _ _ wx => ∃ i : Nat, i + g = 2 ∧ wx = w.iter phB i)
  case atStart => exact ⟨0, by omega, rfl⟩
  case round =>
   obtain ⟨i, hig, rfl⟩ := hrel
   cases gk with
   | zero =>
    obtain rfl : i = 2 := by omega
    have hnx := fun ty => run_next_end (P := P) w phB 2 ty (by decide)
    go_wp2
    go_ret
    exact ⟨rfl, bel _⟩
   | succ g =>
    have hi : i < phB.size := by
     show i < 2
     omega
    have hx : (phB[i]'hi).toNat < 64 := by
     have : ∀ q : Fin 2, (phB[q.val]'q.isLt).toNat < 64 := by decide
     exact this ⟨i, hi⟩
    have hnx := fun ty => run_next_ascii (P := P) w phB i ty hi (by omega)
    generalize (phB[i]'hi).toNat = x at hnx hx
    have hxe : ((x : Int) == 65533) = false := by simp; omega
    go_wp2
    go_roundg g
    case measure => omega
    case rel => exact ⟨i + 1, by omega, rfl⟩
 ·obtain ⟨hs2, hs4, hsl⟩ := encode_facts (r : Int) (by simp [Utf8.valid]; omega) (by omega)
  refine rune_big L r (Utf8.encode r) w h1 hv he (fun w => run_convert_int_string w _ _ _ _ (by rw [t21]; rfl) t9) hs2 hs4 ?_
  intro h2 hi
  have := hsl (by omega)
  simp only [h2] at this
  exact this
theorem getD_drop (l : List UInt8) (i j : Nat) : (l.drop i).getD j 0 = l.getD (i + j) 0 := by simp [List.getD_eq_getElem?_getD, List.getElem?_drop]
theorem dec_hi (l : List UInt8) (h : 128 ≤ (l.getD 0 0).toNat) : 128 ≤ (Lib.decodeL l).1 ∧ ∀ j, j < (Lib.decodeL l).2 → 128 ≤ (l.getD j 0).toNat := by
 rw [Lib.decodeL_N]
 generalize hn : l.length = n
 generalize h0 : (l.getD 0 0).toNat = b0 at h ⊢
 generalize h1 : (l.getD 1 0).toNat = b1
 generalize h2 : (l.getD 2 0).toNat = b2
 generalize h3 : (l.getD 3 0).toNat = b3
 have key : ∀ q, q ≤ 4 → (q = 2 → 128 ≤ b1) → (q = 3 → 128 ≤ b1 ∧ 128 ≤ b2) → (q = 4 → 128 ≤ b1 ∧ 128 ≤ b2 ∧ 128 ≤ b3) → ∀ j, j < q → 128 ≤ (l.getD j 0).toNat := by
  intro q hq k2 k3 k4 j hj
  have : j = 0 ∨ j = 1 ∨ j = 2 ∨ j = 3 := by omega
  rcases this with rfl | rfl | rfl | rfl
  ·rw [h0]; exact h
  ·rw [h1]; omega
  ·rw [h2]; omega
  ·rw [h3]; omega
 unfold Lib.decodeN
 rw [if_neg (by omega)]
 repeat' split
 all_goals
  refine ⟨?_, key _ ?_ ?_ ?_ ?_⟩ <;> simp only <;> omega
def phL (l : List UInt8) : Bool := l.any fun c => c == 43 || c == 35
theorem phL_skip : ∀ (k : Nat) (l : List UInt8), (∀ j, j < k → 128 ≤ (l.getD j 0).toNat) → phL l = phL (l.drop k)
 | 0, l, _ => rfl
 | k + 1, [], _ => by simp
 | k + 1, b :: l, h => by
  have h0 : 128 ≤ b.toNat := h 0 (by omega)
  have ih := phL_skip k l fun j hj => h (j + 1) (by omega)
  have e1 : (b == 43) = false := by
   rw [beq_eq_false_iff_ne]
   rintro rfl
   simp at h0
  have e2 : (b == 35) = false := by
   rw [beq_eq_false_iff_ne]
   rintro rfl
   simp at h0
  show (List.any (b :: l) _) = _
  rw [List.any_cons, e1, e2, Bool.or_self, Bool.false_or, List.drop_succ_cons]
  exact ih
theorem phL_step (l : List UInt8) (hne : l ≠ []) : phL l = (((Lib.decodeL l).1 == 43 || (Lib.decodeL l).1 == 35) || phL (l.drop (Lib.decodeL l).2)) := by
 cases l with
 | nil => exact absurd rfl hne
 | cons b l =>
  by_cases hb : 128 ≤ b.toNat
  ·obtain ⟨h1, h2⟩ := dec_hi (b :: l) hb
   have e1 : ((Lib.decodeL (b :: l)).1 == 43) = false := by simp; omega
   have e2 : ((Lib.decodeL (b :: l)).1 == 35) = false := by simp; omega
   rw [e1, e2, Bool.or_self, Bool.false_or]
   exact phL_skip _ _ h2
  ·have e : Lib.decodeL (b :: l) = (b.toNat, 1) := by
    rw [Lib.decodeL_N]
    unfold Lib.decodeN
    rw [if_pos (by simpa using hb)]
    rfl
   rw [e]
   show List.any (b :: l) _ = _
   rw [List.any_cons, List.drop_succ_cons, List.drop_zero]
   have e1 : (b == 43) = (b.toNat == 43) := by
    rw [Bool.eq_iff_iff, beq_iff_eq, beq_iff_eq, ← UInt8.toNat_inj]; rfl
   have e2 : (b == 35) = (b.toNat == 35) := by
    rw [Bool.eq_iff_iff, beq_iff_eq, beq_iff_eq, ← UInt8.toNat_inj]; rfl
   rw [e1, e2]
   rfl
theorem phL_vPH (s : ByteArray) : phL s.data.toList = vPH s := any_or _ _ _
theorem byte_ph (r : Nat) (h : r < 128) : decide (0 ≤ Lib.indexByte phB.data.toList r.toUInt8) = (r == 43 || r == 35) := by
 have : ∀ q : Fin 128, decide (0 ≤ Lib.indexByte phB.data.toList (q.val).toUInt8) = (q.val == 43 || q.val == 35) := by decide
 exact this ⟨r, h⟩
set_option maxHeartbeats 8000000 in
set_option maxRecDepth 1000000 in
theorem short_ph (L : Lays.n153 P ρ) (s : ByteArray) (w : World) (h8 : s.size ≤ 8) :
  Calls P (ρ.f 153) #[.string s, .string phB] w fun e w' => (∃ z : Int, e = .returned (.int .i64 z) ∧ decide (0 ≤ z) = phL s.data.toList) ∧ Below w.heap.size w w' := by
 have cA : ∀ (r : Nat) w, r < 128 → ∃ z : Int, decide (0 ≤ z) = (r == 43 || r == 35) ∧ Calls P (ρ.f 152) #[.string phB, .int .i32 r] w fun e w' => e = .returned (.int .i64 z) ∧ w' = w := fun r w h => ⟨_, byte_ph r h, Any.strings_IndexRune_ascii { L with } phB r w (by omega) (by omega)⟩
 have cR : ∀ (r : Nat) w, 128 ≤ r → r < 55296 ∨ (57343 < r ∧ r ≤ 1114111) → Calls P (ρ.f 152) #[.string phB, .int .i32 r] w _ := fun r w h h' => rune_ph { L with } r w h h'
 have hemp : phB.toList.isEmpty = false := by rw [Lib.toList_data]; rfl
 have hn1 : ((phB.size : Int) == 1) = false := rfl
 have h8z : decide ((8 : Int) < (s.size : Int)) = false := decide_eq_false (by omega)
 have t3 := L.t3; have a3 := L.a3; have z3 := L.z3; have v3 := L.v3
 have t4 := L.t4; have a4 := L.a4; have z4 := L.z4; have v4 := L.v4
 have t5 := L.t5; have a5 := L.a5; have z5 := L.z5; have v5 := L.v5
 have t9 := L.t9; have a9 := L.a9; have z9 := L.z9; have v9 := L.v9
 have t21 := L.t21; have a21 := L.a21; have z21 := L.z21; have v21 := L.v21
 have e152 : ∀ args w, (callFunc (ρ.f 152) args).run P w = .ok (.enter (ρ.f 152) args) w := enters_of L.f152 (by kernel_rfl) rfl
 have e226 : ∀ args w, (callFunc (ρ.f 226) args).run P w = .ok (.enter (ρ.f 226) args) w := enters_of L.f226 (by kernel_rfl) rfl
 go_enter L.f153, Body.n153_ntmps ρ
 go_wp2_with (go_at_fn (ρ.f 226); refine (Any.strings_shouldUseASCIISet { L with } _ _).mono ?_; rintro e w' ⟨rfl, hw⟩; rw [hw, h8z])
 go_loopg [9, 10] s.size (fun g _ _ wx => ∃ pos : Nat, s.size ≤ pos + g ∧ ItAt w wx s pos ∧ phL (s.data.toList.drop pos) = phL s.data.toList)
 case atStart => exact ⟨0, by omega, itAt_start w s 0, by simp⟩
 case round =>
  obtain ⟨pos, hpg, hit, hph⟩ := hrel
  have HIT : Aside (ItAt w wr s pos) := hit
  have HPH : Aside (phL (s.data.toList.drop pos) = phL s.data.toList) := hph
  by_cases hp : pos < s.size
  ·obtain ⟨g, rfl⟩ : ∃ g, gk = g + 1 := ⟨gk - 1, by omega⟩
   have hnx := fun ty => next_at (P := P) hit hp ty
   have hne : s.data.toList.drop pos ≠ [] := by
    intro h
    have := congrArg List.length h
    simp at this
    omega
   have hst := phL_step _ hne
   rw [Lib.decodeL_drop, hph, List.drop_drop] at hst
   have hwd : 1 ≤ (Utf8.decode s pos).2 := by rw [← Lib.decodeL_drop s pos]; exact Lib.decodeL_width _
   have hru := rune_at s pos
   have HIT2 : Aside (ItAt w (setIt wr w.heap.size s (pos + (Utf8.decode s pos).2)) s (pos + (Utf8.decode s pos).2)) := hit.set _
   clear hit hph
   generalize hr : (Utf8.decode s pos).1 = r at hnx hst hru
   have HST : Aside (phL s.data.toList = ((r == 43 || r == 35) || phL (s.data.toList.drop (pos + (Utf8.decode s pos).2)))) := hst
   clear hst
   by_cases h128 : r < 128
   ·obtain ⟨z, hz, cz⟩ := cA r (setIt wr w.heap.size s (pos + (Utf8.decode s pos).2)) h128
    clear cA
    cases hin : (r == 43 || r == 35)
    ·rw [hin] at hz
     have hlt : ¬ ((0 : Int) ≤ z) := of_decide_eq_false hz
     clear hz
     go_wp2_with (go_at_fn (ρ.f 152); refine cz.mono ?_; rintro e w' ⟨rfl, hw⟩; rw [hw])
     go_roundg g
     case measure => omega
     case rel => exact ⟨_, by omega, HIT2.out, by rw [HST.out, hin, Bool.false_or]⟩
    ·rw [hin] at hz
     have hge : (0 : Int) ≤ z := of_decide_eq_true hz
     clear hz
     go_wp2_with (go_at_fn (ρ.f 152); refine cz.mono ?_; rintro e w' ⟨rfl, hw⟩; rw [hw])
     go_ret
     exact ⟨⟨_, rfl, by rw [HST.out, hin, Bool.true_or]; simp⟩, HIT2.out.1⟩
   ·have hin : (r == 43 || r == 35) = false := by simp; omega
    go_wp2_with (go_at_fn (ρ.f 152); refine (cR r _ (by omega) hru).mono ?_; rintro e w' ⟨rfl, hw⟩)
    go_roundg g
    case measure => omega
    case rel => exact ⟨_, by omega, HIT2.out.below hw, by rw [HST.out, hin, Bool.false_or]⟩
  ·have hnx := fun ty => next_end (P := P) hit hp ty
   have hnil : s.data.toList.drop pos = [] := by
    apply List.drop_of_length_le
    simp
    omega
   rw [hnil] at hph
   go_wp2
   go_ret
   exact ⟨⟨_, rfl, by rw [← hph]; rfl⟩, HIT.out.1⟩
theorem index_ph (L : Lays.n153 P ρ) (hv116 : ∀ w, (zeroValue (ρ.t 116)).run P w = .ok (.agg (Array.replicate 256 (.bool false))) w) (hi116 : (P.info? (ρ.t 116)).map (·.size) = some 256) (s : ByteArray) (w : World) (hs : s.size < 4294967281) :
  Calls P (ρ.f 153) #[.string s, .string phB] w fun e w' => (∃ z : Int, e = .returned (.int .i64 z) ∧ decide (0 ≤ z) = phL s.data.toList) ∧ Below w.heap.size w w' := by
 by_cases h8 : s.size ≤ 8
 ·exact short_ph L s w h8
 ·refine (Any.strings_IndexAny_long L hv116 hi116 s phB w (by decide) (by omega) hs (by decide) ?_).mono fun e w' ⟨h1, h2⟩ => ⟨⟨_, h1, ?_⟩, ?_⟩
  ·intro j b hb
   have : phB.data.toList = [43, 35] := rfl
   rw [this] at hb
   match j, hb with
   | 0, hb => cases hb; decide
   | 1, hb => cases hb; decide
  ·have := has_ph s
   rw [phL_vPH, ← this]
   rfl
  ·rw [h2]
   exact ((Below.refl _ _).alloc (Nat.le_refl _) _).alloc (by simp) _
set_option maxHeartbeats 1000000 in
theorem contains_ph (L : Lays.n150 P ρ) (hv116 : ∀ w, (zeroValue (ρ.t 116)).run P w = .ok (.agg (Array.replicate 256 (.bool false))) w) (hi116 : (P.info? (ρ.t 116)).map (·.size) = some 256) (s : ByteArray) (w : World) (hs : s.size < 4294967281) :
  Calls P (ρ.f 150) #[.string s, .string phB] w fun e w' => e = .returned (.bool (vPH s)) ∧ Below w.heap.size w w' := by
 have c := index_ph { L with } hv116 hi116 s w hs
 have t3 := L.t3; have a3 := L.a3; have z3 := L.z3; have v3 := L.v3
 have t4 := L.t4; have a4 := L.a4; have z4 := L.z4; have v4 := L.v4
 have t9 := L.t9; have a9 := L.a9; have z9 := L.z9; have v9 := L.v9
 have e153 : ∀ args w, (callFunc (ρ.f 153) args).run P w = .ok (.enter (ρ.f 153) args) w := enters_of L.f153 (by kernel_rfl) rfl
 go_enter L.f150, Body.n150_ntmps ρ
 go_wp2_with (go_at_fn (ρ.f 153); refine c.mono ?_; rintro e w' ⟨⟨z, rfl, hz⟩, hw⟩)
 go_ret
 refine ⟨?_, hw⟩
 rw [← phL_vPH, ← hz]
 rfl
end Go.Proofs.YtejjggnchdldoaaDoor.Abs
set_option linter.unusedVariables false
set_option linter.unusedSimpArgs false
namespace Go.Proofs
open Go.RowKit Go.Shelf Go.Lib
def Tryd.laysValid_ren : Go.Shelf.Ren := ⟨fun | 196 => 89 | 259 => 99 | n => n, fun | 9 => 9 | 4 => 4 | 3 => 3 | 5 => 5 | 12 => 12 | 119 => 96 | 0 => 0 | 46 => 94 | 139 => 99 | 138 => 98 | 53 => 110 | n => n, fun | 3 => 0 | 4 => 1 | n => n⟩
theorem Tryd.laysValid : Go.Proofs.Lays.n196 Tryd.prog Tryd.laysValid_ren := {
 mixed := by kernel_rfl
 f196 := Tryd.func89.trans (congrArg some (by kernel_rfl))
 f259 := Tryd.func99.trans (congrArg some (by kernel_rfl))
 t0 := Tryd.underlying0
 a0 := Tryd.isAgg0
 z0 := Tryd.sizeOf0
 v0 := Tryd.zeroValue0
 t3 := Tryd.underlying3
 a3 := Tryd.isAgg3
 z3 := Tryd.sizeOf3
 v3 := Tryd.zeroValue3
 t4 := Tryd.underlying4
 a4 := Tryd.isAgg4
 z4 := Tryd.sizeOf4
 v4 := Tryd.zeroValue4
 t5 := Tryd.underlying5
 a5 := Tryd.isAgg5
 z5 := Tryd.sizeOf5
 v5 := Tryd.zeroValue5
 t9 := Tryd.underlying9
 a9 := Tryd.isAgg9
 z9 := Tryd.sizeOf9
 v9 := Tryd.zeroValue9
 t12 := Tryd.underlying12
 a12 := Tryd.isAgg12
 z12 := Tryd.sizeOf12
 v12 := Tryd.zeroValue12
 t46 := Tryd.underlying94
 a46 := Tryd.isAgg94
 z46 := Tryd.sizeOf94
 v46 := Tryd.zeroValue94
 t53 := Tryd.underlying110
 a53 := Tryd.isAgg110
 z53 := Tryd.sizeOf110
 v53 := Tryd.zeroValue110
 t119 := Tryd.underlying96
 a119 := Tryd.isAgg96
 z119 := Tryd.sizeOf96
 t138 := Tryd.underlying98
 a138 := Tryd.isAgg98
 z138 := Tryd.sizeOf98
 v138 := Tryd.zeroValue98
 t139 := Tryd.underlying99
 a139 := Tryd.isAgg99
 z139 := Tryd.sizeOf99
 v139 := Tryd.zeroValue99
 g3 := by kernel_rfl
 g4 := by kernel_rfl }
def Tryd.laysAny_ren : Go.Shelf.Ren := ⟨fun | 150 => 72 | 153 => 90 | 152 => 100 | 226 => 101 | 227 => 102 | 228 => 103 | 137 => 107 | 119 => 108 | 224 => 109 | 225 => 110 | 217 => 114 | 266 => 119 | n => n, fun | 9 => 9 | 4 => 4 | 3 => 3 | 5 => 5 | 21 => 21 | 117 => 103 | 116 => 102 | 0 => 0 | 46 => 94 | 124 => 114 | n => n, fun | n => n⟩
theorem Tryd.laysAny : Go.Proofs.Lays.n150 Tryd.prog Tryd.laysAny_ren := {
 mixed := by kernel_rfl
 f119 := Tryd.func108.trans (congrArg some (by kernel_rfl))
 f137 := Tryd.func107.trans (congrArg some (by kernel_rfl))
 f150 := Tryd.func72.trans (congrArg some (by kernel_rfl))
 f152 := Tryd.func100.trans (congrArg some (by kernel_rfl))
 f153 := Tryd.func90.trans (congrArg some (by kernel_rfl))
 f217 := Tryd.func114.trans (congrArg some (by kernel_rfl))
 f224 := Tryd.func109.trans (congrArg some (by kernel_rfl))
 f225 := Tryd.func110.trans (congrArg some (by kernel_rfl))
 f226 := Tryd.func101.trans (congrArg some (by kernel_rfl))
 f227 := Tryd.func102.trans (congrArg some (by kernel_rfl))
 f228 := Tryd.func103.trans (congrArg some (by kernel_rfl))
 f266 := Tryd.func119.trans (congrArg some (by kernel_rfl))
 t0 := Tryd.underlying0
 a0 := Tryd.isAgg0
 z0 := Tryd.sizeOf0
 v0 := Tryd.zeroValue0
 t3 := Tryd.underlying3
 a3 := Tryd.isAgg3
 z3 := Tryd.sizeOf3
 v3 := Tryd.zeroValue3
 t4 := Tryd.underlying4
 a4 := Tryd.isAgg4
 z4 := Tryd.sizeOf4
 v4 := Tryd.zeroValue4
 t5 := Tryd.underlying5
 a5 := Tryd.isAgg5
 z5 := Tryd.sizeOf5
 v5 := Tryd.zeroValue5
 t9 := Tryd.underlying9
 a9 := Tryd.isAgg9
 z9 := Tryd.sizeOf9
 v9 := Tryd.zeroValue9
 t21 := Tryd.underlying21
 a21 := Tryd.isAgg21
 z21 := Tryd.sizeOf21
 v21 := Tryd.zeroValue21
 t46 := Tryd.underlying94
 a46 := Tryd.isAgg94
 z46 := Tryd.sizeOf94
 v46 := Tryd.zeroValue94
 t116 := Tryd.underlying102
 a116 := Tryd.isAgg102
 z116 := Tryd.sizeOf102
 t117 := Tryd.underlying103
 a117 := Tryd.isAgg103
 z117 := Tryd.sizeOf103
 v117 := Tryd.zeroValue103
 t124 := Tryd.underlying114
 a124 := Tryd.isAgg114
 z124 := Tryd.sizeOf114
 v124 := Tryd.zeroValue114 }
def Tryd.laysSplit_ren : Go.Shelf.Ren := ⟨fun | 146 => 91 | 221 => 104 | 268 => 111 | 138 => 112 | 143 => 113 | 195 => 115 | 197 => 116 | 218 => 117 | 219 => 118 | 260 => 120 | 217 => 114 | 225 => 110 | 224 => 109 | 267 => 121 | 266 => 119 | 314 => 122 | n => n, fun | 9 => 9 | 31 => 25 | 3 => 3 | 4 => 4 | 0 => 0 | 105 => 116 | 21 => 21 | 5 => 5 | 46 => 94 | 119 => 96 | 139 => 99 | 138 => 98 | 146 => 119 | 51 => 118 | n => n, fun | 1 => 2 | 3 => 0 | 4 => 1 | n => n⟩
theorem Tryd.laysSplit : Go.Proofs.Lays.n146 Tryd.prog Tryd.laysSplit_ren := {
 mixed := by kernel_rfl
 f138 := Tryd.func112.trans (congrArg some (by kernel_rfl))
 f143 := Tryd.func113.trans (congrArg some (by kernel_rfl))
 f146 := Tryd.func91.trans (congrArg some (by kernel_rfl))
 f195 := Tryd.func115.trans (congrArg some (by kernel_rfl))
 f197 := Tryd.func116.trans (congrArg some (by kernel_rfl))
 f217 := Tryd.func114.trans (congrArg some (by kernel_rfl))
 f218 := Tryd.func117.trans (congrArg some (by kernel_rfl))
 f219 := Tryd.func118.trans (congrArg some (by kernel_rfl))
 f221 := Tryd.func104.trans (congrArg some (by kernel_rfl))
 f224 := Tryd.func109.trans (congrArg some (by kernel_rfl))
 f225 := Tryd.func110.trans (congrArg some (by kernel_rfl))
 f260 := Tryd.func120.trans (congrArg some (by kernel_rfl))
 f266 := Tryd.func119.trans (congrArg some (by kernel_rfl))
 f267 := Tryd.func121.trans (congrArg some (by kernel_rfl))
 f268 := Tryd.func111.trans (congrArg some (by kernel_rfl))
 f314 := Tryd.func122.trans (congrArg some (by kernel_rfl))
 t0 := Tryd.underlying0
 a0 := Tryd.isAgg0
 z0 := Tryd.sizeOf0
 v0 := Tryd.zeroValue0
 t3 := Tryd.underlying3
 a3 := Tryd.isAgg3
 z3 := Tryd.sizeOf3
 v3 := Tryd.zeroValue3
 t4 := Tryd.underlying4
 a4 := Tryd.isAgg4
 z4 := Tryd.sizeOf4
 v4 := Tryd.zeroValue4
 t5 := Tryd.underlying5
 a5 := Tryd.isAgg5
 z5 := Tryd.sizeOf5
 v5 := Tryd.zeroValue5
 t9 := Tryd.underlying9
 a9 := Tryd.isAgg9
 z9 := Tryd.sizeOf9
 v9 := Tryd.zeroValue9
 t21 := Tryd.underlying21
 a21 := Tryd.isAgg21
 z21 := Tryd.sizeOf21
 v21 := Tryd.zeroValue21
 t31 := Tryd.underlying25
 a31 := Tryd.isAgg25
 z31 := Tryd.sizeOf25
 v31 := Tryd.zeroValue25
 t46 := Tryd.underlying94
 a46 := Tryd.isAgg94
 z46 := Tryd.sizeOf94
 v46 := Tryd.zeroValue94
 t51 := Tryd.underlying118
 a51 := Tryd.isAgg118
 z51 := Tryd.sizeOf118
 v51 := Tryd.zeroValue118
 t105 := Tryd.underlying116
 a105 := Tryd.isAgg116
 z105 := Tryd.sizeOf116
 v105 := Tryd.zeroValue116
 t119 := Tryd.underlying96
 a119 := Tryd.isAgg96
 z119 := Tryd.sizeOf96
 t138 := Tryd.underlying98
 a138 := Tryd.isAgg98
 z138 := Tryd.sizeOf98
 v138 := Tryd.zeroValue98
 t139 := Tryd.underlying99
 a139 := Tryd.isAgg99
 z139 := Tryd.sizeOf99
 v139 := Tryd.zeroValue99
 t146 := Tryd.underlying119
 a146 := Tryd.isAgg119
 z146 := Tryd.sizeOf119
 v146 := Tryd.zeroValue119
 g1 := by kernel_rfl
 g3 := by kernel_rfl
 g4 := by kernel_rfl }
namespace YtejjggnchdldoaaDoor.Abs
def noZ : Nat → List UInt8 → Bool
 | 0, _ => true
 | n + 1, l => if l = [] then true else if (Lib.decodeL l).1 = 0 then false else noZ n (l.drop (Lib.decodeL l).2)
def cleanT (s : ByteArray) : Bool := noZ s.size s.data.toList && (Lib.validD s.data.toList && decide (s.size ≤ 60))
def JT (w : World) : Prop := Lib.Utf8Tabs (Tryd.laysValid_ren.g 3) (Tryd.laysValid_ren.g 4) w
def J0 (w : World) : Prop := JT w ∧ ∃ m, w.cell? ⟨Tryd.laysSplit_ren.g 1, 0, none⟩ = some (.int .i64 m)
theorem jt_stays : ∀ w w' : World, JT w → Below w.heap.size w w' → JT w' := fun _ _ h hb => Utf8Tabs_below h hb
theorem j0_stays : ∀ w w' : World, J0 w → Below w.heap.size w w' → J0 w' := fun w w' h hb => ⟨jt_stays w w' h.1 hb, by
 obtain ⟨m, hm⟩ := h.2
 have hlt := World.block_lt_of_cell? _ _ hm
 refine ⟨m, ?_⟩
 rw [← hm]
 simp only [World.cell?]
 rw [hb.block _ hlt]⟩
set_option maxHeartbeats 1000000 in
set_option maxRecDepth 1000000 in
theorem text_walk (s : ByteArray) (w : World) (hs : s.size ≤ 9223372036854775807) (hT : JT w) :
  Calls Tryd.prog 71 #[.string s] w fun e w' => e = .returned (.bool (cleanT s)) ∧ Below w.heap.size w w' := by
 have cV : ∀ w, JT w → Calls Tryd.prog 89 #[.string s] w _ := fun w hT => Any.utf8_ValidString Tryd.laysValid s w hs hT
 unfold cleanT
 generalize hV : Lib.validD s.data.toList = V at cV ⊢
 have bel : ∀ pos, Below w.heap.size w (w.iter s pos) := fun pos => (Below.refl _ w).alloc (Nat.le_refl _) _
 go_enter Tryd.func71, Tryd.ntmps71
 go_wp2
 go_loopw [] (fun w' => ∃ (pos b : Nat), w' = w.iter s pos ∧ noZ b (s.data.toList.drop pos) = noZ s.size s.data.toList ∧ s.size ≤ pos + b) (fun w' => s.size - w'.iterPos w.heap.size)
 case atStart => exact ⟨0, s.size, rfl, by simp, by omega⟩
 case round =>
  obtain ⟨pos, b, rfl, hc, hb⟩ := hrel
  by_cases hp : pos < s.size
  ·have hnx : ∀ ty, (Instr.next (.pointer (some ⟨w.heap.size, 0, none⟩)) true ty).run Tryd.prog (w.iter s pos) = _ := fun ty => run_next_any w s pos ty hp
   have hdd := Lib.decodeL_drop s pos
   have hwd : 1 ≤ (Utf8.decode s pos).2 := by rw [← hdd]; exact Lib.decodeL_width _
   obtain ⟨b, rfl⟩ : ∃ b', b = b' + 1 := ⟨b - 1, by omega⟩
   have hne : s.data.toList.drop pos ≠ [] := by
    intro h
    have := congrArg List.length h
    simp at this
    omega
   rw [noZ, if_neg hne, hdd] at hc
   by_cases hz : (Utf8.decode s pos).1 = 0
   ·rw [if_pos hz] at hc
    have hz' : (((Utf8.decode s pos).1 : Int) == 0) = true := by simp [hz]
    go_wp2
    go_ret
    rw [← hc]
    exact ⟨by simp, bel _⟩
   ·rw [if_neg hz, List.drop_drop] at hc
    have hz' : (((Utf8.decode s pos).1 : Int) == 0) = false := by simp; omega
    go_wp2
    go_roundw
    case rel => exact ⟨pos + (Utf8.decode s pos).2, b, rfl, hc, by omega⟩
    case measure =>
     simp
     omega
  ·have hnx : ∀ ty, (Instr.next (.pointer (some ⟨w.heap.size, 0, none⟩)) true ty).run Tryd.prog (w.iter s pos) = _ := fun ty => run_next_end w s pos ty hp
   have hnil : s.data.toList.drop pos = [] := by
    apply List.drop_of_length_le
    simp
    omega
   have hc2 : noZ s.size s.data.toList = true := by
    rw [← hc, hnil]
    cases b <;> simp [noZ]
   rw [hc2]
   have cV2 := cV (w.iter s pos) (Utf8Tabs_below hT (bel pos))
   go_wp2_with (go_at_call 89; refine cV2.mono ?_; rintro e w' ⟨rfl, hb2⟩)
   all_goals
    go_ret
    refine ⟨?_, (bel pos).trans (hb2.mono (bel pos).size)⟩
   ·simp_all
    omega
   ·simp_all
theorem textGo_eq : ∀ (n : Nat) (l : List UInt8), textGo n l = (noZ n l && Lib.validGoD n l)
 | 0, _ => rfl
 | n + 1, l => by
  rw [textGo, noZ, Lib.validGoD, textGo_eq n]
  by_cases h : l = []
  ·simp [h]
  ·by_cases h1 : (Lib.decodeL l).1 = 65533 ∧ (Lib.decodeL l).2 = 1
   ·simp [h, h1]
   ·by_cases h2 : (Lib.decodeL l).1 = 0
    ·simp [h, h2]
    ·simp [h, h1, h2]
theorem clean_eq (s : ByteArray) : cleanT s = vTextOk s := by
 have e : s.data.toList.length = s.size := by simp
 unfold cleanT vTextOk Lib.validD
 rw [textGo_eq, e]
 cases noZ s.size s.data.toList <;> cases Lib.validGoD s.size s.data.toList <;> simp
theorem ph_of {c : ByteArray} (h : c.data.toList = [43, 35]) : c = phB := by
 cases c with
 | mk d =>
  have : d = #[43, 35] := by apply Array.ext'; simpa using h
  subst this
  rfl
theorem sep_of {c : ByteArray} (h : c.data.toList = [47]) : c = sepB := by
 cases c with
 | mk d =>
  have : d = #[47] := by apply Array.ext'; simpa using h
  subst this
  rfl
theorem set116 : (Tryd.prog.info? (Tryd.laysAny_ren.t 116)).map (fun i => (i.zero, i.size)) = some (some (.agg (Array.replicate 256 (.bool false))), 256) := by kernel_rfl
theorem hi9 : (Tryd.prog.info? (Tryd.laysSplit_ren.t 9)).map (fun i => (i.zero, i.size, i.bytes)) = some (some (.string ByteArray.empty), 1, 16) := by kernel_rfl
theorem hr_same {w w' : World} (hb : Below w.heap.size w w') : HR w noPhi w' [] := by
 refine ⟨hb, ?_, ?_, ?_, ?_⟩
 ·intro i k b o sz hi
  cases hi
 ·intro i k hi
  cases hi
 ·intro i i' k k' b o sz o' sz' hi
  cases hi
 ·intro i p hp
  cases hp
theorem ext_val {w w' : World} (hb : Below w.heap.size w w') (ty : Nat) (v : Value) : ∃ φ' Hc x ids, HR w φ' w' Hc ∧ VR w φ' x v ∧ ownT E0.ti E0.tp Hc 8 ty x = some (.sc v, ids) ∧ ids.Nodup :=
 ⟨noPhi, [], .sc v, [], hr_same hb, VR_sc _ _ _, rfl, List.nodup_nil⟩
theorem ownL_scE {ti : Nat → Option TI} {tp : Nat → Option (List Nat)} {H : Heap} {d : Nat} : ∀ (ts : List Nat) (l : List Value), ts.length = l.length → ownL (ownT ti tp H (d + 1)) ts (l.map AV.sc) = some (l.map AV.sc, [])
 | [], [], _ => rfl
 | t :: ts, v :: l, h => by
  have ih := ownL_scE (ti := ti) (tp := tp) (H := H) (d := d) ts l (by simpa using h)
  simp only [List.map_cons, ownL, ih, Option.bind_some]
  rfl
theorem own_sl0 {ti : Nat → Option TI} {tp : Nat → Option (List Nat)} {H : Heap} {d ty id off n z : Nat} : ownT ti tp H (d + 1) ty (.sl id off n z) = (ti ty).bind fun i => (ti i.elem).bind fun j => if z = j.size then (if isApp H id then (rdCells H id off (n * z)).bind fun cs => (ownL (ownT ti tp H d) (List.replicate n j.cty).flatten cs).bind fun q => some (.ro n q.1, id :: q.2) else none) else none := rfl
theorem ext_strs (w : World) (l : List ByteArray) (e : TypeId) : ∃ φ' Hc x ids, HR w φ' (w.alloc (.cells (l.map Value.string).toArray e)) Hc ∧ VR w φ' x (.slice (some ⟨w.heap.size, 0, none⟩) l.length l.length) ∧
  ownT E0.ti E0.tp Hc 8 25 x = some (.ro l.length (l.map fun s => .sc (.string s)), ids) ∧ ids.Nodup := by
 have hcs : VRs w noPhi ((l.map Value.string).map AV.sc) (fun j => (l.map Value.string).toArray[0 + j]?) := by
  rw [VRs_iff]
  intro j x hj
  rw [List.getElem?_map] at hj
  obtain ⟨v, hv, rfl⟩ := Option.map_eq_some_iff.1 hj
  exact ⟨v, by simpa using hv, VR_sc _ _ _⟩
 obtain ⟨h1, h2⟩ := (HR.start w).alloc (below_alloc' w (.cells (l.map Value.string).toArray e)) (b := w.heap.size) (o := 0) (k := ⟨(l.map Value.string).map AV.sc, true, true⟩) (Nat.le_refl _) (alloc_new w _) (by simp) (fun _ => rfl) (.inl rfl) hcs
 refine ⟨_, _, .sl 0 0 l.length 1, [0], h1, ?_, ?_, by simp⟩
 ·rw [VR]
  refine .inr ⟨w.heap.size, 0, _, upd_at _ _ _, .inr ⟨l.length, Nat.le_refl _, rfl, ?_⟩⟩
  simp
 ·rw [own_sl0]
  have hr : rdCells ([] ++ [⟨(l.map Value.string).map AV.sc, true, true⟩]) 0 0 (l.length * 1) = some ((l.map Value.string).map AV.sc) := by
   simp [rdCells, List.take_of_length_le]
  have e1 : E0.ti 25 = ti0 25 := rfl
  obtain ⟨i, j, hi, hj, hz, hc⟩ : ∃ i j, ti0 25 = some i ∧ ti0 i.elem = some j ∧ j.size = 1 ∧ j.cty = [i.elem] := ⟨_, _, rfl, rfl, rfl, rfl⟩
  simp only [e1, hi, Option.bind_some, show E0.ti i.elem = some j from hj, hz, if_true, hr, hc]
  have ho := ownL_scE (ti := E0.ti) (tp := E0.tp) (H := [] ++ [⟨(l.map Value.string).map AV.sc, true, true⟩]) (d := 6) (List.replicate l.length [i.elem]).flatten (l.map Value.string) (by simp)
  rw [ho]
  have ha : isApp ([] ++ [(⟨(l.map Value.string).map AV.sc, true, true⟩ : Blk)]) 0 = true := rfl
  rw [if_pos ha]
  simp [List.map_map]
theorem any_walk (s : ByteArray) (w : World) (hs : s.size < 4294967281) : Calls Tryd.prog 72 #[.string s, .string phB] w fun e w' => e = .returned (.bool (vPH s)) ∧ Below w.heap.size w w' :=
 contains_ph Tryd.laysAny (zero_of_info set116).1 (zero_of_info set116).2 s w hs
theorem split_walk (s : ByteArray) (w : World) (hs : s.size < 4294967281) (hm : ∃ m, w.cell? ⟨Tryd.laysSplit_ren.g 1, 0, none⟩ = some (.int .i64 m)) : Calls Tryd.prog 91 #[.string s, .string sepB] w fun e w' =>
  e = .returned (.slice (some ⟨w.heap.size, 0, none⟩) (vLevels s).length (vLevels s).length) ∧ w' = w.alloc (.cells ((vLevels s).map Value.string).toArray (Tryd.laysSplit_ren.t 9)) := by
 obtain ⟨m, hm⟩ := hm
 have h := Any.strings_Split Tryd.laysSplit hi9 s sepB m w hs hm (Nat.le_refl _)
 rw [split_levels, ← levels_len] at h
 exact h
theorem one_arg {w : World} {x : Value} {us : List Value} (hl : us.length = 1) (hv : VRs w noPhi [.sc x] (fun j => us[j]?)) : us = [x] := by
 match us, hl with
 | [y], _ =>
  rw [VRs] at hv
  obtain ⟨⟨u, hu, hv⟩, _⟩ := hv
  rw [VR] at hv
  simp at hu
  rw [hu, hv]
theorem two_args {w : World} {x y : Value} {us : List Value} (hl : us.length = 2) (hv : VRs w noPhi [.sc x, .sc y] (fun j => us[j]?)) : us = [x, y] := by
 match us, hl with
 | [a, b], _ =>
  rw [VRs, VRs] at hv
  obtain ⟨⟨u, hu, hv⟩, ⟨u2, hu2, hv2⟩, _⟩ := hv
  rw [VR] at hv hv2
  simp at hu hu2
  rw [hu, hv, hu2, hv2]
theorem ext0 : ExtOk Tryd.prog E0 J0 := by
 intro f g hg w hj ty vs us t hl hv ht
 have hf : E0.ext f = if Nat.beq f 71 then some ext71 else if Nat.beq f 72 then some ext72 else if Nat.beq f 91 then some ext91 else none := rfl
 rw [hf] at hg
 split at hg
 ·rename_i hfe
  obtain rfl := Nat.eq_of_beq_eq_true hfe
  cases hg
  unfold ext71 at ht
  split at ht
  case h_2 => cases ht
  rename_i s
  split at ht
  case isFalse => cases ht
  rename_i hs
  cases ht
  have hm : maxLen = 9223372036854775807 := by decide
  rw [hm] at hs
  obtain rfl := one_arg hl hv
  refine .inr ⟨enters_of Tryd.func71 (by kernel_rfl) rfl _ _, (text_walk s w hs hj.1).mono fun e w' ⟨he, hb⟩ => ⟨_, he, ?_⟩⟩
  rw [clean_eq]
  exact ext_val hb _ _
 split at hg
 ·rename_i hfe
  obtain rfl := Nat.eq_of_beq_eq_true hfe
  cases hg
  unfold ext72 at ht
  split at ht
  case h_2 => cases ht
  rename_i s c
  split at ht
  case isFalse => cases ht
  rename_i hs
  cases ht
  obtain rfl := two_args hl hv
  obtain ⟨hc, hs⟩ := hs
  obtain rfl := ph_of hc
  exact .inr ⟨enters_of Tryd.func72 (by kernel_rfl) rfl _ _, (any_walk s w hs).mono fun e w' ⟨he, hb⟩ => ⟨_, he, ext_val hb _ _⟩⟩
 split at hg
 ·rename_i hfe
  obtain rfl := Nat.eq_of_beq_eq_true hfe
  cases hg
  unfold ext91 at ht
  split at ht
  case h_2 => cases ht
  rename_i s c
  split at ht
  case isFalse => cases ht
  rename_i hs
  cases ht
  obtain rfl := two_args hl hv
  obtain ⟨rfl, hc, hs⟩ := hs
  obtain rfl := sep_of hc
  exact .inr ⟨enters_of Tryd.func91 (by kernel_rfl) rfl _ _, (split_walk s w hs hj.2).mono fun e w' ⟨he, hw⟩ => ⟨_, he, by subst hw; exact ext_strs w (vLevels s) _⟩⟩
 ·cases hg
end YtejjggnchdldoaaDoor.Abs
end Go.Proofs
set_option linter.unusedVariables false
set_option linter.unusedSimpArgs false
set_option maxRecDepth 100000
namespace Go.Proofs.YtejjggnchdldoaaDoor.Abs
open Go
theorem tab0 : tabB Go.Proofs.Tryd.prog 0 tis = true := by kernel_rfl
theorem code0 : fnsB E0 fss = true := by kernel_rfl
theorem tabOk0 : TabOk Go.Proofs.Tryd.prog ti0 := by
 intro t i h
 unfold ti0 at h
 cases hl : tis[t]? with
 | none => rw [hl] at h; cases h
 | some o =>
  rw [hl] at h
  simp only [Option.getD_some] at h
  subst h
  simpa using (tabB_ok tis 0 t i tab0 hl).1
theorem byte0 : ∀ t i, ti0 t = some i → i.ik = some .u8 → i.size = 1 := by
 intro t i h
 unfold ti0 at h
 cases hl : tis[t]? with
 | none => rw [hl] at h; cases h
 | some o =>
  rw [hl] at h
  simp only [Option.getD_some] at h
  subst h
  exact (tabB_ok tis 0 t i tab0 hl).2
def FnQ (n : Nat) (c : Code) (t : Nat) (f : Func) : Prop := ∃ fn, Go.Proofs.Tryd.prog.funcs[n]? = some fn ∧ (fn.name == "runtime.NumGoroutine") = false ∧ fn.body = some c ∧ fn.ntmps = t ∧ fn.results.toList = f.results.toList
theorem fn14 : FnQ 14 c14 6 Go.Proofs.Tryd.f14 := ⟨_, Go.Proofs.Tryd.func14, by kernel_rfl, by kernel_rfl, rfl, rfl⟩
theorem fn42 : FnQ 42 c42 32 Go.Proofs.Tryd.f42 := ⟨_, Go.Proofs.Tryd.func42, by kernel_rfl, by kernel_rfl, rfl, rfl⟩
theorem fn86 : FnQ 86 c86 58 Go.Proofs.Tryd.f86 := ⟨_, Go.Proofs.Tryd.func86, by kernel_rfl, by kernel_rfl, rfl, rfl⟩
theorem fn66 : FnQ 66 c66 31 Go.Proofs.Tryd.f66 := ⟨_, Go.Proofs.Tryd.func66, by kernel_rfl, by kernel_rfl, rfl, rfl⟩
theorem fn88 : FnQ 88 c88 12 Go.Proofs.Tryd.f88 := ⟨_, Go.Proofs.Tryd.func88, by kernel_rfl, by kernel_rfl, rfl, rfl⟩
theorem fn85 : FnQ 85 c85 6 Go.Proofs.Tryd.f85 := ⟨_, Go.Proofs.Tryd.func85, by kernel_rfl, by kernel_rfl, rfl, rfl⟩
theorem fn68 : FnQ 68 c68 20 Go.Proofs.Tryd.f68 := ⟨_, Go.Proofs.Tryd.func68, by kernel_rfl, by kernel_rfl, rfl, rfl⟩
theorem fn64 : FnQ 64 c64 9 Go.Proofs.Tryd.f64 := ⟨_, Go.Proofs.Tryd.func64, by kernel_rfl, by kernel_rfl, rfl, rfl⟩
theorem fn65 : FnQ 65 c65 14 Go.Proofs.Tryd.f65 := ⟨_, Go.Proofs.Tryd.func65, by kernel_rfl, by kernel_rfl, rfl, rfl⟩
theorem fn63 : FnQ 63 c63 22 Go.Proofs.Tryd.f63 := ⟨_, Go.Proofs.Tryd.func63, by kernel_rfl, by kernel_rfl, rfl, rfl⟩
theorem fn87 : FnQ 87 c87 10 Go.Proofs.Tryd.f87 := ⟨_, Go.Proofs.Tryd.func87, by kernel_rfl, by kernel_rfl, rfl, rfl⟩
theorem fn67 : FnQ 67 c67 16 Go.Proofs.Tryd.f67 := ⟨_, Go.Proofs.Tryd.func67, by kernel_rfl, by kernel_rfl, rfl, rfl⟩
theorem fn69 : FnQ 69 c69 12 Go.Proofs.Tryd.f69 := ⟨_, Go.Proofs.Tryd.func69, by kernel_rfl, by kernel_rfl, rfl, rfl⟩
theorem fn44 : FnQ 44 c44 28 Go.Proofs.Tryd.f44 := ⟨_, Go.Proofs.Tryd.func44, by kernel_rfl, by kernel_rfl, rfl, rfl⟩
theorem fn43 : FnQ 43 c43 14 Go.Proofs.Tryd.f43 := ⟨_, Go.Proofs.Tryd.func43, by kernel_rfl, by kernel_rfl, rfl, rfl⟩
theorem fn15 : FnQ 15 c15 13 Go.Proofs.Tryd.f15 := ⟨_, Go.Proofs.Tryd.func15, by kernel_rfl, by kernel_rfl, rfl, rfl⟩
theorem fn70 : FnQ 70 c70 18 Go.Proofs.Tryd.f70 := ⟨_, Go.Proofs.Tryd.func70, by kernel_rfl, by kernel_rfl, rfl, rfl⟩
theorem fn46 : FnQ 46 c46 9 Go.Proofs.Tryd.f46 := ⟨_, Go.Proofs.Tryd.func46, by kernel_rfl, by kernel_rfl, rfl, rfl⟩
theorem fn45 : FnQ 45 c45 20 Go.Proofs.Tryd.f45 := ⟨_, Go.Proofs.Tryd.func45, by kernel_rfl, by kernel_rfl, rfl, rfl⟩
theorem fn73 : FnQ 73 c73 5 Go.Proofs.Tryd.f73 := ⟨_, Go.Proofs.Tryd.func73, by kernel_rfl, by kernel_rfl, rfl, rfl⟩
theorem fn50 : FnQ 50 c50 20 Go.Proofs.Tryd.f50 := ⟨_, Go.Proofs.Tryd.func50, by kernel_rfl, by kernel_rfl, rfl, rfl⟩
theorem fn59 : FnQ 59 c59 15 Go.Proofs.Tryd.f59 := ⟨_, Go.Proofs.Tryd.func59, by kernel_rfl, by kernel_rfl, rfl, rfl⟩
theorem fn51 : FnQ 51 c51 5 Go.Proofs.Tryd.f51 := ⟨_, Go.Proofs.Tryd.func51, by kernel_rfl, by kernel_rfl, rfl, rfl⟩
theorem fn20 : FnQ 20 c20 17 Go.Proofs.Tryd.f20 := ⟨_, Go.Proofs.Tryd.func20, by kernel_rfl, by kernel_rfl, rfl, rfl⟩
theorem fn49 : FnQ 49 c49 15 Go.Proofs.Tryd.f49 := ⟨_, Go.Proofs.Tryd.func49, by kernel_rfl, by kernel_rfl, rfl, rfl⟩
theorem fn18 : FnQ 18 c18 10 Go.Proofs.Tryd.f18 := ⟨_, Go.Proofs.Tryd.func18, by kernel_rfl, by kernel_rfl, rfl, rfl⟩
theorem fn16 : FnQ 16 c16 34 Go.Proofs.Tryd.f16 := ⟨_, Go.Proofs.Tryd.func16, by kernel_rfl, by kernel_rfl, rfl, rfl⟩
theorem fn48 : FnQ 48 c48 14 Go.Proofs.Tryd.f48 := ⟨_, Go.Proofs.Tryd.func48, by kernel_rfl, by kernel_rfl, rfl, rfl⟩
theorem fn47 : FnQ 47 c47 21 Go.Proofs.Tryd.f47 := ⟨_, Go.Proofs.Tryd.func47, by kernel_rfl, by kernel_rfl, rfl, rfl⟩
theorem fn53 : FnQ 53 c53 15 Go.Proofs.Tryd.f53 := ⟨_, Go.Proofs.Tryd.func53, by kernel_rfl, by kernel_rfl, rfl, rfl⟩
theorem fn105 : FnQ 105 c105 104 Go.Proofs.Tryd.f105 := ⟨_, Go.Proofs.Tryd.func105, by kernel_rfl, by kernel_rfl, rfl, rfl⟩
theorem fn92 : FnQ 92 c92 35 Go.Proofs.Tryd.f92 := ⟨_, Go.Proofs.Tryd.func92, by kernel_rfl, by kernel_rfl, rfl, rfl⟩
theorem fn74 : FnQ 74 c74 6 Go.Proofs.Tryd.f74 := ⟨_, Go.Proofs.Tryd.func74, by kernel_rfl, by kernel_rfl, rfl, rfl⟩
theorem fn75 : FnQ 75 c75 17 Go.Proofs.Tryd.f75 := ⟨_, Go.Proofs.Tryd.func75, by kernel_rfl, by kernel_rfl, rfl, rfl⟩
theorem fn76 : FnQ 76 c76 33 Go.Proofs.Tryd.f76 := ⟨_, Go.Proofs.Tryd.func76, by kernel_rfl, by kernel_rfl, rfl, rfl⟩
theorem fn52 : FnQ 52 c52 25 Go.Proofs.Tryd.f52 := ⟨_, Go.Proofs.Tryd.func52, by kernel_rfl, by kernel_rfl, rfl, rfl⟩
theorem fn21 : FnQ 21 c21 17 Go.Proofs.Tryd.f21 := ⟨_, Go.Proofs.Tryd.func21, by kernel_rfl, by kernel_rfl, rfl, rfl⟩
theorem fn19 : FnQ 19 c19 19 Go.Proofs.Tryd.f19 := ⟨_, Go.Proofs.Tryd.func19, by kernel_rfl, by kernel_rfl, rfl, rfl⟩
theorem fn17 : FnQ 17 c17 31 Go.Proofs.Tryd.f17 := ⟨_, Go.Proofs.Tryd.func17, by kernel_rfl, by kernel_rfl, rfl, rfl⟩
theorem fn77 : FnQ 77 c77 32 Go.Proofs.Tryd.f77 := ⟨_, Go.Proofs.Tryd.func77, by kernel_rfl, by kernel_rfl, rfl, rfl⟩
theorem fn54 : FnQ 54 c54 10 Go.Proofs.Tryd.f54 := ⟨_, Go.Proofs.Tryd.func54, by kernel_rfl, by kernel_rfl, rfl, rfl⟩
theorem fn24 : FnQ 24 c24 31 Go.Proofs.Tryd.f24 := ⟨_, Go.Proofs.Tryd.func24, by kernel_rfl, by kernel_rfl, rfl, rfl⟩
theorem fn55 : FnQ 55 c55 8 Go.Proofs.Tryd.f55 := ⟨_, Go.Proofs.Tryd.func55, by kernel_rfl, by kernel_rfl, rfl, rfl⟩
theorem fn25 : FnQ 25 c25 21 Go.Proofs.Tryd.f25 := ⟨_, Go.Proofs.Tryd.func25, by kernel_rfl, by kernel_rfl, rfl, rfl⟩
theorem fn22 : FnQ 22 c22 15 Go.Proofs.Tryd.f22 := ⟨_, Go.Proofs.Tryd.func22, by kernel_rfl, by kernel_rfl, rfl, rfl⟩
theorem fn23 : FnQ 23 c23 18 Go.Proofs.Tryd.f23 := ⟨_, Go.Proofs.Tryd.func23, by kernel_rfl, by kernel_rfl, rfl, rfl⟩
theorem fn4 : FnQ 4 c4 136 Go.Proofs.Tryd.f4 := ⟨_, Go.Proofs.Tryd.func4, by kernel_rfl, by kernel_rfl, rfl, rfl⟩
theorem fnC {c : Code} {t : Nat} {f : Func} {o : List (Nat × PI)} {i : FnI} (e : (⟨c, t, f.results.toList, o⟩ : FnI) = i) {n : Nat} (h : FnQ n c t f) : ∃ fn, Go.Proofs.Tryd.prog.funcs[n]? = some fn ∧ (fn.name == "runtime.NumGoroutine") = false ∧ fn.body = some i.body ∧ fn.ntmps = i.ntmps ∧ fn.results.toList = i.results := by subst e; exact h
theorem fnAll : ∀ (f : Nat) (i : FnI), f < 106 → fss[f]? = some (some i) → ∃ fn, Go.Proofs.Tryd.prog.funcs[f]? = some fn ∧ (fn.name == "runtime.NumGoroutine") = false ∧ fn.body = some i.body ∧ fn.ntmps = i.ntmps ∧ fn.results.toList = i.results
 | 0, i, _, h => nomatch Option.some.inj h
 | 1, i, _, h => nomatch Option.some.inj h
 | 2, i, _, h => nomatch Option.some.inj h
 | 3, i, _, h => nomatch Option.some.inj h
 | 4, i, _, h => fnC (Option.some.inj (Option.some.inj h)) fn4
 | 5, i, _, h => nomatch Option.some.inj h
 | 6, i, _, h => nomatch Option.some.inj h
 | 7, i, _, h => nomatch Option.some.inj h
 | 8, i, _, h => nomatch Option.some.inj h
 | 9, i, _, h => nomatch Option.some.inj h
 | 10, i, _, h => nomatch Option.some.inj h
 | 11, i, _, h => nomatch Option.some.inj h
 | 12, i, _, h => nomatch Option.some.inj h
 | 13, i, _, h => nomatch Option.some.inj h
 | 14, i, _, h => fnC (Option.some.inj (Option.some.inj h)) fn14
 | 15, i, _, h => fnC (Option.some.inj (Option.some.inj h)) fn15
 | 16, i, _, h => fnC (Option.some.inj (Option.some.inj h)) fn16
 | 17, i, _, h => fnC (Option.some.inj (Option.some.inj h)) fn17
 | 18, i, _, h => fnC (Option.some.inj (Option.some.inj h)) fn18
 | 19, i, _, h => fnC (Option.some.inj (Option.some.inj h)) fn19
 | 20, i, _, h => fnC (Option.some.inj (Option.some.inj h)) fn20
 | 21, i, _, h => fnC (Option.some.inj (Option.some.inj h)) fn21
 | 22, i, _, h => fnC (Option.some.inj (Option.some.inj h)) fn22
 | 23, i, _, h => fnC (Option.some.inj (Option.some.inj h)) fn23
 | 24, i, _, h => fnC (Option.some.inj (Option.some.inj h)) fn24
 | 25, i, _, h => fnC (Option.some.inj (Option.some.inj h)) fn25
 | 26, i, _, h => nomatch Option.some.inj h
 | 27, i, _, h => nomatch Option.some.inj h
 | 28, i, _, h => nomatch Option.some.inj h
 | 29, i, _, h => nomatch Option.some.inj h
 | 30, i, _, h => nomatch Option.some.inj h
 | 31, i, _, h => nomatch Option.some.inj h
 | 32, i, _, h => nomatch Option.some.inj h
 | 33, i, _, h => nomatch Option.some.inj h
 | 34, i, _, h => nomatch Option.some.inj h
 | 35, i, _, h => nomatch Option.some.inj h
 | 36, i, _, h => nomatch Option.some.inj h
 | 37, i, _, h => nomatch Option.some.inj h
 | 38, i, _, h => nomatch Option.some.inj h
 | 39, i, _, h => nomatch Option.some.inj h
 | 40, i, _, h => nomatch Option.some.inj h
 | 41, i, _, h => nomatch Option.some.inj h
 | 42, i, _, h => fnC (Option.some.inj (Option.some.inj h)) fn42
 | 43, i, _, h => fnC (Option.some.inj (Option.some.inj h)) fn43
 | 44, i, _, h => fnC (Option.some.inj (Option.some.inj h)) fn44
 | 45, i, _, h => fnC (Option.some.inj (Option.some.inj h)) fn45
 | 46, i, _, h => fnC (Option.some.inj (Option.some.inj h)) fn46
 | 47, i, _, h => fnC (Option.some.inj (Option.some.inj h)) fn47
 | 48, i, _, h => fnC (Option.some.inj (Option.some.inj h)) fn48
 | 49, i, _, h => fnC (Option.some.inj (Option.some.inj h)) fn49
 | 50, i, _, h => fnC (Option.some.inj (Option.some.inj h)) fn50
 | 51, i, _, h => fnC (Option.some.inj (Option.some.inj h)) fn51
 | 52, i, _, h => fnC (Option.some.inj (Option.some.inj h)) fn52
 | 53, i, _, h => fnC (Option.some.inj (Option.some.inj h)) fn53
 | 54, i, _, h => fnC (Option.some.inj (Option.some.inj h)) fn54
 | 55, i, _, h => fnC (Option.some.inj (Option.some.inj h)) fn55
 | 56, i, _, h => nomatch Option.some.inj h
 | 57, i, _, h => nomatch Option.some.inj h
 | 58, i, _, h => nomatch Option.some.inj h
 | 59, i, _, h => fnC (Option.some.inj (Option.some.inj h)) fn59
 | 60, i, _, h => nomatch Option.some.inj h
 | 61, i, _, h => nomatch Option.some.inj h
 | 62, i, _, h => nomatch Option.some.inj h
 | 63, i, _, h => fnC (Option.some.inj (Option.some.inj h)) fn63
 | 64, i, _, h => fnC (Option.some.inj (Option.some.inj h)) fn64
 | 65, i, _, h => fnC (Option.some.inj (Option.some.inj h)) fn65
 | 66, i, _, h => fnC (Option.some.inj (Option.some.inj h)) fn66
 | 67, i, _, h => fnC (Option.some.inj (Option.some.inj h)) fn67
 | 68, i, _, h => fnC (Option.some.inj (Option.some.inj h)) fn68
 | 69, i, _, h => fnC (Option.some.inj (Option.some.inj h)) fn69
 | 70, i, _, h => fnC (Option.some.inj (Option.some.inj h)) fn70
 | 71, i, _, h => nomatch Option.some.inj h
 | 72, i, _, h => nomatch Option.some.inj h
 | 73, i, _, h => fnC (Option.some.inj (Option.some.inj h)) fn73
 | 74, i, _, h => fnC (Option.some.inj (Option.some.inj h)) fn74
 | 75, i, _, h => fnC (Option.some.inj (Option.some.inj h)) fn75
 | 76, i, _, h => fnC (Option.some.inj (Option.some.inj h)) fn76
 | 77, i, _, h => fnC (Option.some.inj (Option.some.inj h)) fn77
 | 78, i, _, h => nomatch Option.some.inj h
 | 79, i, _, h => nomatch Option.some.inj h
 | 80, i, _, h => nomatch Option.some.inj h
 | 81, i, _, h => nomatch Option.some.inj h
 | 82, i, _, h => nomatch Option.some.inj h
 | 83, i, _, h => nomatch Option.some.inj h
 | 84, i, _, h => nomatch Option.some.inj h
 | 85, i, _, h => fnC (Option.some.inj (Option.some.inj h)) fn85
 | 86, i, _, h => fnC (Option.some.inj (Option.some.inj h)) fn86
 | 87, i, _, h => fnC (Option.some.inj (Option.some.inj h)) fn87
 | 88, i, _, h => fnC (Option.some.inj (Option.some.inj h)) fn88
 | 89, i, _, h => nomatch Option.some.inj h
 | 90, i, _, h => nomatch Option.some.inj h
 | 91, i, _, h => nomatch Option.some.inj h
 | 92, i, _, h => fnC (Option.some.inj (Option.some.inj h)) fn92
 | 93, i, _, h => nomatch Option.some.inj h
 | 94, i, _, h => nomatch Option.some.inj h
 | 95, i, _, h => nomatch Option.some.inj h
 | 96, i, _, h => nomatch Option.some.inj h
 | 97, i, _, h => nomatch Option.some.inj h
 | 98, i, _, h => nomatch Option.some.inj h
 | 99, i, _, h => nomatch Option.some.inj h
 | 100, i, _, h => nomatch Option.some.inj h
 | 101, i, _, h => nomatch Option.some.inj h
 | 102, i, _, h => nomatch Option.some.inj h
 | 103, i, _, h => nomatch Option.some.inj h
 | 104, i, _, h => nomatch Option.some.inj h
 | 105, i, _, h => fnC (Option.some.inj (Option.some.inj h)) fn105
 | n + 106, i, hlt, h => by omega
theorem fns0 : ∀ f i, E0.fs f = some i → FnOk Go.Proofs.Tryd.prog E0 f i := by
 intro f i h
 have hl : fss[f]? = some (some i) := by
  have h : (fss[f]?).getD none = some i := h
  cases hl : fss[f]? with
  | none => rw [hl] at h; cases h
  | some o => rw [hl] at h; simp only [Option.getD_some] at h; rw [h]
 refine ⟨?_, fnsB_ok code0 hl⟩
 have hlt : f < 106 := (List.getElem?_eq_some_iff.1 hl).1
 exact fnAll f i hlt hl
theorem env0 : EnvOk Go.Proofs.Tryd.prog E0 J0 := ⟨tabOk0, byte0, by kernel_rfl, fns0, ext0, j0_stays⟩
end Go.Proofs.YtejjggnchdldoaaDoor.Abs
set_option linter.unusedVariables false
set_option linter.unusedSimpArgs false
namespace Go.Proofs.YtejjggnchdldoaaDoor.Abs
open Go
variable {β : Type} {n : Nat}
section
variable {k : AV → Heap → Option β} {k1 : AV → Option β} {H : Heap}
@[simp] theorem PR_load : (PR n β).load = pLoad := rfl
@[simp] theorem PR_store : (PR n β).store = pStore := rfl
@[simp] theorem PR_new : (PR n β).new = pNew := rfl
@[simp] theorem PR_box : (PR n β).box = pBox := rfl
@[simp] theorem PR_newSl : (PR n β).newSl = pNewSl := rfl
@[simp] theorem PR_fadr : (PR n β).fadr = pFadr := rfl
@[simp] theorem PR_fld : (PR n β).fld = pFld := rfl
@[simp] theorem PR_iadr : (PR n β).iadr = pIadr := rfl
@[simp] theorem PR_idx : (PR n β).idx = pIdx := rfl
@[simp] theorem PR_lenS : (PR n β).lenS = pLenS := rfl
@[simp] theorem PR_len : (PR n β).len = pLen := rfl
@[simp] theorem PR_sliceS : (PR n β).sliceS = pSliceS := rfl
@[simp] theorem PR_slice : (PR n β).slice = pSlice := rfl
@[simp] theorem PR_app : (PR n β).app = pApp := rfl
@[simp] theorem PR_appS : (PR n β).appS = pAppS := rfl
@[simp] theorem PR_bin : (PR n β).bin = pBin := rfl
@[simp] theorem PR_binB : (PR n β).binB = pBinB := rfl
@[simp] theorem PR_binA : (PR n β).binA = pBinA := rfl
@[simp] theorem PR_un : (PR n β).un = pUn := rfl
@[simp] theorem PR_pick : (PR n β).pick = pPick := rfl
@[simp] theorem PR_cvI : (PR n β).cvI = pCvI := rfl
@[simp] theorem PR_cvSS : (PR n β).cvSS = pCvSS := rfl
@[simp] theorem PR_cvBS : (PR n β).cvBS = pCvBS := rfl
@[simp] theorem PR_cvSB : (PR n β).cvSB = pCvSB := rfl
@[simp] theorem PR_extr : (PR n β).extr = pExtr := rfl
@[simp] theorem PR_nil : (PR n β).nil = pNil := rfl
@[simp] theorem PR_fill : (PR n β).fill = fun a l k => (fillA a l).bind k := rfl
@[simp] theorem PR_make : (PR n β).make = pMake := rfl
@[simp] theorem PR_guard : (PR n β).guard = pGuard := rfl
@[simp] theorem PR_cond : (PR n β).cond = pCond := rfl
@[simp] theorem PR_clear : (PR n β).clear = pClear := rfl
@[simp] theorem PR_both : (PR n β).both = pBoth := rfl
@[simp] theorem PR_apart : (PR n β).apart = pApart := rfl
@[simp] theorem PR_same : (PR n β).same = pSame := rfl
noncomputable def plainF (f : Nat) : Bool := E0.hm f || (E0.ext f).isSome
theorem plain_hm {f : Nat} (h : plainF f = false) : E0.hm f = false := by
 unfold plainF at h
 simp only [Bool.or_eq_false_iff] at h
 exact h.1
theorem plain_ext {f : Nat} (h : plainF f = false) : E0.ext f = none := by
 unfold plainF at h
 simp only [Bool.or_eq_false_iff] at h
 simpa using h.2
theorem PR_call {ty : Nat} {f : FuncId} {args vs : List AV} {t : AV} (hh : plainF f = false) (hv : args.mapM (viewV H 8) = some vs) (ht : tree E0 n ty f vs = some t) :
  (PR n β).call ty (.fn f [] []) args H k = k (instT ti0 E0.tp H.length ty t).1 (H ++ (instT ti0 E0.tp H.length ty t).2) := by
 show callF E0 (evalFn E0 n) ty f ([] ++ args ++ []) H k = _
 simp only [callF, plain_ext hh, plain_hm hh, List.nil_append, List.append_nil, Bool.false_eq_true, if_false, callT, hv, Option.bind_some]
 have ht : treeOf E0 (evalFn E0 n) ty f vs = some t := ht
 rw [ht]
 rfl
theorem PR_ext {ty : Nat} {f : FuncId} {g : Nat → List AV → Option AV} {args vs : List AV} {t : AV} (hg : E0.ext f = some g) (hv : args.mapM (viewV H 8) = some vs) (ht : g ty vs = some t) :
  (PR n β).call ty (.fn f [] []) args H k = k (instT ti0 E0.tp H.length ty t).1 (H ++ (instT ti0 E0.tp H.length ty t).2) := by
 show callF E0 (evalFn E0 n) ty f ([] ++ args ++ []) H k = _
 simp only [callF, hg, List.nil_append, List.append_nil, callX, hv, Option.bind_some, ht]
 rfl
end
theorem tree_def (n ty : Nat) (f : FuncId) (args : List AV) : tree E0 n ty f args = evalFn E0 n AV f args [] fun x H => ownTree ti0 E0.tp ty H x := rfl
@[simp] theorem own_scalar {ti : Nat → Option TI} {tp : Nat → Option (List Nat)} (ty : Nat) (H : Heap) (v : Value) : ownTree ti tp ty H (.sc v) = some (.sc v) := rfl
theorem ownT_sl {ti : Nat → Option TI} {tp : Nat → Option (List Nat)} {H : Heap} {d ty id off n z : Nat} : ownT ti tp H (d + 1) ty (.sl id off n z) = (ti ty).bind fun i => (ti i.elem).bind fun j => if z = j.size then (if isApp H id then (rdCells H id off (n * z)).bind fun cs => (ownL (ownT ti tp H d) (List.replicate n j.cty).flatten cs).bind fun q => some (.ro n q.1, id :: q.2) else none) else none := rfl
theorem ownT_agg {ti : Nat → Option TI} {tp : Nat → Option (List Nat)} {H : Heap} {d ty : Nat} {cs : List AV} : ownT ti tp H (d + 1) ty (.agg cs) = (ti ty).bind fun i => (ownL (ownT ti tp H d) i.cty cs).bind fun q => some (.agg q.1, q.2) := rfl
theorem ownT_tup {ti : Nat → Option TI} {tp : Nat → Option (List Nat)} {H : Heap} {d ty : Nat} {cs : List AV} : ownT ti tp H (d + 1) ty (.tup cs) = (tp ty).bind fun ts => (ownL (ownT ti tp H d) ts cs).bind fun q => some (.tup q.1, q.2) := rfl
theorem ownT_sc {ti : Nat → Option TI} {tp : Nat → Option (List Nat)} {H : Heap} {d ty : Nat} {v : Value} : ownT ti tp H (d + 1) ty (.sc v) = some (.sc v, []) := rfl
theorem instT_sc {ti : Nat → Option TI} {tp : Nat → Option (List Nat)} {n ty : Nat} {v : Value} : instT ti tp n ty (.sc v) = (.sc v, []) := rfl
theorem instT_agg {ti : Nat → Option TI} {tp : Nat → Option (List Nat)} {n ty : Nat} {cs : List AV} : instT ti tp n ty (.agg cs) = (.agg (instL ti tp n ((ti ty).getD default).cty cs).1, (instL ti tp n ((ti ty).getD default).cty cs).2) := rfl
theorem instT_tup {ti : Nat → Option TI} {tp : Nat → Option (List Nat)} {n ty : Nat} {cs : List AV} : instT ti tp n ty (.tup cs) = (.tup (instL ti tp n ((tp ty).getD []) cs).1, (instL ti tp n ((tp ty).getD []) cs).2) := rfl
theorem viewV_sl {H : Heap} {d id off n z : Nat} : viewV H (d + 1) (.sl id off n z) = (rdCells H id off (n * z)).bind fun cs => (cs.mapM (viewV H d)).bind fun vs => some (.ro n vs) := rfl
theorem viewV_agg {H : Heap} {d : Nat} {cs : List AV} : viewV H (d + 1) (.agg cs) = (cs.mapM (viewV H d)).bind fun vs => some (.agg vs) := rfl
theorem viewV_sc {H : Heap} {d : Nat} {v : Value} : viewV H (d + 1) (.sc v) = some (.sc v) := rfl
theorem viewV_ro {H : Heap} {d n : Nat} {cs : List AV} : viewV H (d + 1) (.ro n cs) = some (.ro n cs) := rfl
theorem splice_next (l : List AV) (i j : Nat) (z : AV) (hi : i < l.length) : splice (l.take i ++ List.replicate (j + 1) z) i [l[i]] = l.take (i + 1) ++ List.replicate j z := by
 have hlen : (l.take i).length = i := by simp; omega
 have e1 : (l.take i ++ List.replicate (j + 1) z).take i = l.take i := List.take_left' hlen
 have e2 : (l.take i ++ List.replicate (j + 1) z).drop (i + 1) = List.replicate j z := by
  rw [List.drop_append, hlen, List.drop_of_length_le (by omega), List.nil_append, Nat.add_sub_cancel_left, List.replicate_succ, List.drop_one, List.tail_cons]
 unfold splice
 rw [e1, List.length_singleton, e2, List.take_succ_eq_append_getElem hi]
theorem mapM_sc {H : Heap} {d : Nat} : ∀ (l : List Value), (l.map AV.sc).mapM (viewV H (d + 1)) = some (l.map AV.sc)
 | [] => rfl
 | x :: l => by
  have e : viewV H (d + 1) (.sc x) = some (.sc x) := rfl
  simp only [List.map_cons, List.mapM_cons, e, Option.pure_def, Option.bind_eq_bind, Option.bind_some, mapM_sc l]
theorem ownL_sc {ti : Nat → Option TI} {tp : Nat → Option (List Nat)} {H : Heap} {d : Nat} : ∀ (ts : List Nat) (l : List Value), ts.length = l.length → ownL (ownT ti tp H (d + 1)) ts (l.map AV.sc) = some (l.map AV.sc, [])
 | [], [], _ => rfl
 | t :: ts, x :: l, h => by
  have e : ownT ti tp H (d + 1) t (.sc x) = some (.sc x, []) := rfl
  simp only [List.map_cons, ownL, e, Option.bind_some, ownL_sc ts l (by simpa using h), List.append_nil]
 | [], _ :: _, h => by simp at h
 | _ :: _, [], h => by simp at h
theorem instL_sc {ti : Nat → Option TI} {tp : Nat → Option (List Nat)} {n : Nat} : ∀ (ts : List Nat) (l : List Value), instL ti tp n ts (l.map AV.sc) = (l.map AV.sc, [])
 | ts, [] => rfl
 | ts, x :: l => by
  simp only [List.map_cons, instL, instT, instL_sc _ l, List.nil_append]
def bv (s : ByteArray) : List Value := s.data.toList.map fun b => .int .u8 b.toNat
theorem bytesAV_eq (s : ByteArray) : bytesAV s = (bv s).map AV.sc := by simp [bytesAV, bv]
theorem bv_len (s : ByteArray) : (bv s).length = s.size := by simp [bv]
theorem bytesAV_len (s : ByteArray) : (bytesAV s).length = s.size := by simp [bytesAV]
theorem bytesAV_leaf (s : ByteArray) : (bytesAV s).all isLeaf = true := by
 simp only [bytesAV, List.all_map, List.all_eq_true]
 intro b _
 rfl
theorem byteOf_bytes : ∀ (l : List UInt8), (l.map fun b => AV.sc (.int .u8 (b.toNat : Int))).mapM byteOf = some l
 | [] => rfl
 | b :: l => by
  have e : byteOf (.sc (.int .u8 (b.toNat : Int))) = some b := by simp [byteOf]
  simp only [List.map_cons, List.mapM_cons, e, byteOf_bytes l, Option.pure_def, Option.bind_eq_bind, Option.bind_some]
end Go.Proofs.YtejjggnchdldoaaDoor.Abs
set_option linter.unusedVariables false
set_option linter.unusedSimpArgs false
namespace Go.Proofs.YtejjggnchdldoaaDoor.Abs
open Go
section gen
variable {ti : Nat → Option TI} {tp : Nat → Option (List Nat)}
def okLW (f : Nat → AV → Prop) : List Nat → List AV → Prop
 | [], [] => True
 | t :: ts, x :: xs => f t x ∧ okLW f ts xs
 | _, _ => False
def okW (ti : Nat → Option TI) (tp : Nat → Option (List Nat)) : Nat → Nat → AV → Prop
 | 0, _, _ => False
 | d + 1, ty, x =>
  match x with
  | .sc _ => True
  | .ro n cells => ∃ i j, ti ty = some i ∧ ti i.elem = some j ∧ cells.length = n * j.size ∧ okLW (okW ti tp d) (List.replicate n j.cty).flatten cells
  | .agg cs => ∃ i, ti ty = some i ∧ okLW (okW ti tp d) i.cty cs
  | .tup cs => ∃ ts, tp ty = some ts ∧ okLW (okW ti tp d) ts cs
  | _ => False
theorem okLW_len {f : Nat → AV → Prop} : ∀ {ts : List Nat} {cs : List AV}, okLW f ts cs → ts.length = cs.length
 | [], [], _ => rfl
 | _ :: ts, _ :: cs, h => by rw [List.length_cons, List.length_cons, okLW_len h.2]
theorem okLW_append {f : Nat → AV → Prop} : ∀ {ts : List Nat} {cs : List AV} {ts' : List Nat} {cs' : List AV}, okLW f ts cs → okLW f ts' cs' → okLW f (ts ++ ts') (cs ++ cs')
 | [], [], _, _, _, h => h
 | _ :: ts, _ :: cs, _, _, h, h' => ⟨h.1, okLW_append h.2 h'⟩
theorem okLW_rows {α : Type} {f : Nat → AV → Prop} {cty : List Nat} {enc : α → List AV} : ∀ (l : List α), (∀ x ∈ l, okLW f cty (enc x)) → okLW f (List.replicate l.length cty).flatten (l.map enc).flatten
 | [], _ => by simp [okLW]
 | x :: l, h => by
  rw [List.length_cons, List.replicate_succ, List.flatten_cons, List.map_cons, List.flatten_cons]
  exact okLW_append (h x List.mem_cons_self) (okLW_rows l fun y hy => h y (List.mem_cons_of_mem _ hy))
theorem okLW_okL {f g : Nat → AV → Prop} (hfg : ∀ t x, f t x → g t x) : ∀ {ts : List Nat} {cs : List AV}, okLW f ts cs → okL g ts cs
 | [], [], _ => trivial
 | _ :: ts, _ :: cs, h => ⟨hfg _ _ h.1, okLW_okL hfg h.2⟩
theorem okW_okTr : ∀ (d : Nat) (ty : Nat) (x : AV), okW ti tp d ty x → okTr ti tp d ty x
 | 0, _, _, h => h
 | d + 1, ty, x, h => by
  cases x with
  | sc v => trivial
  | ro n cells =>
   obtain ⟨i, j, h1, h2, h3, h4⟩ := h
   show cells.length = n * (((ti ty).bind fun i => ti i.elem).getD default).size ∧ _
   simp only [h1, Option.bind_some, h2, Option.getD_some]
   exact ⟨h3, okLW_okL (okW_okTr d) h4⟩
  | agg cs =>
   obtain ⟨i, h1, h2⟩ := h
   show okL _ ((ti ty).getD default).cty cs
   rw [h1]
   exact okLW_okL (okW_okTr d) h2
  | tup cs =>
   obtain ⟨ts, h1, h2⟩ := h
   show okL _ ((tp ty).getD []) cs
   rw [h1]
   exact okLW_okL (okW_okTr d) h2
  | _ => cases h
theorem own_instL {H : Heap} {d : Nat} (hd : ∀ ty t N, okW ti tp d ty t → Lies H N (instT ti tp N ty t).2 → (∀ b ∈ (instT ti tp N ty t).2, b.live = true ∧ b.app = true) → ownT ti tp H d ty (instT ti tp N ty t).1 = some (t, List.range' N (instT ti tp N ty t).2.length)) :
  ∀ (ts : List Nat) (cs : List AV) (N : Nat), okLW (okW ti tp d) ts cs → Lies H N (instL ti tp N ts cs).2 → (∀ b ∈ (instL ti tp N ts cs).2, b.live = true ∧ b.app = true) → ownL (ownT ti tp H d) ts (instL ti tp N ts cs).1 = some (cs, List.range' N (instL ti tp N ts cs).2.length)
 | [], [], N, _, _, _ => rfl
 | t :: ts, x :: cs, N, h, hl, hb => by
  simp only [instL, List.headD_cons, List.tail_cons] at hl hb ⊢
  have h1 := hd t x N h.1 hl.left fun b hb' => hb b (List.mem_append_left _ hb')
  have h2 := own_instL hd ts cs _ h.2 hl.right fun b hb' => hb b (List.mem_append_right _ hb')
  have e := List.range'_append (s := N) (m := (instT ti tp N t x).2.length) (n := (instL ti tp (N + (instT ti tp N t x).2.length) ts cs).2.length) (step := 1)
  rw [Nat.one_mul] at e
  simp only [ownL, h1, h2, Option.bind_some, List.length_append, e]
mutual
theorem inst_live : ∀ (x : AV) (N ty : Nat), ∀ b ∈ (instT ti tp N ty x).2, b.live = true ∧ b.app = true
 | .sc v, N, ty => by intro b h; cases h
 | .ro n cells, N, ty => by
  intro b h
  simp only [instT, List.mem_cons] at h
  rcases h with rfl | h
  ·exact ⟨rfl, rfl⟩
  ·exact instL_live cells _ _ b h
 | .agg cs, N, ty => fun b h => instL_live cs _ _ b h
 | .tup cs, N, ty => fun b h => instL_live cs _ _ b h
 | .any, N, ty => by intro b h; cases h
 | .nl, N, ty => by intro b h; cases h
 | .sl .., N, ty => by intro b h; cases h
 | .ptr .., N, ty => by intro b h; cases h
 | .rp .., N, ty => by intro b h; cases h
 | .fn .., N, ty => by intro b h; cases h
theorem instL_live : ∀ (cs : List AV) (N : Nat) (ts : List Nat), ∀ b ∈ (instL ti tp N ts cs).2, b.live = true ∧ b.app = true
 | [], N, ts => by intro b h; cases h
 | x :: cs, N, ts => by
  intro b h
  simp only [instL, List.mem_append] at h
  rcases h with h | h
  ·exact inst_live x _ _ b h
  ·exact instL_live cs _ _ b h
end
theorem own_inst {H : Heap} : ∀ (d ty : Nat) (t : AV) (N : Nat), okW ti tp d ty t → Lies H N (instT ti tp N ty t).2 → ownT ti tp H d ty (instT ti tp N ty t).1 = some (t, List.range' N (instT ti tp N ty t).2.length)
 | 0, _, _, _, h, _ => by cases h
 | d + 1, ty, t, N, h, hl => by
  have ih := own_instL (H := H) (d := d) (ti := ti) (tp := tp) (fun ty t N h h' _ => own_inst d ty t N h h')
  cases t with
  | sc v => rfl
  | ro n cells =>
   obtain ⟨i, j, h1, h2, h3, h4⟩ := h
   have e : instT ti tp N ty (.ro n cells) = (.sl N 0 n j.size, ⟨(instL ti tp (N + 1) (List.replicate n j.cty).flatten cells).1, true, true⟩ :: (instL ti tp (N + 1) (List.replicate n j.cty).flatten cells).2) := by
    simp only [instT, h1, Option.bind_some, h2, Option.getD_some]
   rw [e] at hl ⊢
   have hb := hl 0 _ rfl
   rw [Nat.add_zero] at hb
   have hv := ih (List.replicate n j.cty).flatten cells (N + 1) h4 hl.tail (instL_live _ _ _)
   have hlen := instL_len (ti := ti) (tp := tp) (N + 1) (List.replicate n j.cty).flatten cells
   have e2 : rdCells H N 0 (n * j.size) = some (instL ti tp (N + 1) (List.replicate n j.cty).flatten cells).1 := by
    simp only [rdCells, hb, if_true, List.drop_zero, Nat.zero_add]
    rw [if_pos (by rw [hlen, h3]; exact Nat.le_refl _), ← h3, ← hlen, List.take_length]
   have e3 : isApp H N = true := by simp only [isApp, hb]
   rw [ownT_sl]
   simp only [h1, h2, Option.bind_some, if_true, e2, e3, hv, List.length_cons]
   rw [List.range'_succ]
  | agg cs =>
   obtain ⟨i, h1, h2⟩ := h
   have e : instT ti tp N ty (.agg cs) = (.agg (instL ti tp N i.cty cs).1, (instL ti tp N i.cty cs).2) := by rw [instT_agg, h1]; rfl
   rw [e] at hl ⊢
   rw [ownT_agg]
   simp only [h1, Option.bind_some, ih i.cty cs N h2 hl (instL_live _ _ _)]
  | tup cs =>
   obtain ⟨ts, h1, h2⟩ := h
   have e : instT ti tp N ty (.tup cs) = (.tup (instL ti tp N ts cs).1, (instL ti tp N ts cs).2) := by rw [instT_tup, h1]; rfl
   rw [e] at hl ⊢
   rw [ownT_tup]
   simp only [h1, Option.bind_some, ih ts cs N h2 hl (instL_live _ _ _)]
  | _ => cases h
theorem Lies_in (A B X : List Blk) : Lies (A ++ B ++ X) A.length B := fun j b hj => by
 have hlt := (List.getElem?_eq_some_iff.1 hj).1
 rw [List.append_assoc, List.getElem?_append_right (by omega), Nat.add_sub_cancel_left, List.getElem?_append_left hlt]
 exact hj
theorem Lies_end (A B : List Blk) : Lies (A ++ B) A.length B := by
 have := Lies_in A B []
 rwa [List.append_nil] at this
theorem own_ret (A : List Blk) (ty : Nat) (t : AV) (h : okW ti tp 8 ty t) : ownTree ti tp ty (A ++ (instT ti tp A.length ty t).2) (instT ti tp A.length ty t).1 = some t := by
 rw [ownTree, own_inst 8 ty t A.length h (Lies_end _ _)]
 simp only [Option.bind_some]
 rw [if_pos (List.nodup_range')]
def Vw (H : Heap) (x v : AV) : Prop := ∀ X : List Blk, viewV (H ++ X) 8 x = some v
theorem Vw.grow {H : Heap} {x v : AV} (h : Vw H x v) (X : List Blk) : Vw (H ++ X) x v := fun Y => by
 rw [List.append_assoc]
 exact h _
theorem Vw.now {H : Heap} {x v : AV} (h : Vw H x v) : viewV H 8 x = some v := by
 have := h []
 rwa [List.append_nil] at this
theorem Vw_inst (H : Heap) (ty : Nat) (t : AV) (h : okW ti tp 8 ty t) : Vw (H ++ (instT ti tp H.length ty t).2) (instT ti tp H.length ty t).1 t := fun X => view_inst 8 ty t H.length (okW_okTr 8 ty t h) (Lies_in _ _ _)
theorem Vw_sc (H : Heap) (v : Value) : Vw H (.sc v) (.sc v) := fun _ => rfl
theorem Vw_ro (H : Heap) (n : Nat) (cs : List AV) : Vw H (.ro n cs) (.ro n cs) := fun _ => rfl
def isFl : AV → Bool
 | .sc v => leafV v
 | .ro _ _ => true
 | _ => false
theorem fl_leaf {cs : List AV} (h : cs.all isFl = true) : cs.all isLeaf = true := by
 rw [List.all_eq_true] at h ⊢
 intro x hx
 have := h x hx
 cases x <;> simp_all [isFl, isLeaf]
theorem fl_cells {cs : List AV} (h : cs.all isFl = true) : cellsA (.agg cs) = some cs := by
 show (if cs.all isLeaf then some cs else none) = _
 rw [if_pos (fl_leaf h)]
theorem fl_view {H : Heap} {d : Nat} : ∀ {cs : List AV}, cs.all isFl = true → cs.mapM (viewV H (d + 1)) = some cs
 | [], _ => rfl
 | x :: cs, h => by
  rw [List.all_cons, Bool.and_eq_true] at h
  have e : viewV H (d + 1) x = some x := by
   have := h.1
   cases x <;> first | rfl | (exfalso; simp [isFl] at this)
  simp only [List.mapM_cons, e, fl_view h.2, Option.pure_def, Option.bind_eq_bind, Option.bind_some]
theorem Vw_agg (H : Heap) {cs : List AV} (h : cs.all isFl = true) : Vw H (.agg cs) (.agg cs) := fun X => by
 rw [viewV_agg, fl_view h]
 rfl
theorem instL_leaf : ∀ (cs : List AV) (N : Nat) (ts : List Nat), cs.all isFl = true → (instL ti tp N ts cs).1.all isLeaf = true
 | [], _, _, _ => rfl
 | x :: cs, N, ts, h => by
  rw [List.all_cons, Bool.and_eq_true] at h
  simp only [instL, List.all_cons, Bool.and_eq_true]
  refine ⟨?_, instL_leaf cs _ _ h.2⟩
  have := h.1
  cases x <;> first | exact this | rfl | (exfalso; simp [isFl] at this)
theorem instL_append : ∀ (ts : List Nat) (cs : List AV) (ts' : List Nat) (cs' : List AV) (N : Nat), ts.length = cs.length →
  instL ti tp N (ts ++ ts') (cs ++ cs') = ((instL ti tp N ts cs).1 ++ (instL ti tp (N + (instL ti tp N ts cs).2.length) ts' cs').1, (instL ti tp N ts cs).2 ++ (instL ti tp (N + (instL ti tp N ts cs).2.length) ts' cs').2)
 | [], [], ts', cs', N, _ => by simp [instL]
 | t :: ts, x :: cs, ts', cs', N, h => by
  have ih := instL_append ts cs ts' cs' (N + (instT ti tp N t x).2.length) (by simpa using h)
  simp only [List.cons_append, instL, List.headD_cons, List.tail_cons, ih, List.length_append, List.append_assoc, Nat.add_assoc]
end gen
section ops
variable {β : Type}
theorem iadr_ro (w len : Nat) (cells : List AV) (i : Nat) (k : AV → Option β) (h : i < len) (h2 : i * w < cells.length) : pIadr w (.ro len cells) (.sc (.int .i64 i)) k = k (.rp (cells.drop (i * w))) := by
 simp only [pIadr, asI, Option.bind_some, Int.toNat_natCast]
 rw [if_pos ⟨by omega, by omega⟩, if_pos h2]
theorem iadr_sl (w len id off : Nat) (i : Nat) (k : AV → Option β) (h : i < len) : pIadr w (.sl id off len w) (.sc (.int .i64 i)) k = k (.ptr id (off + i * w)) := by
 simp only [pIadr, asI, Option.bind_some, Int.toNat_natCast, if_true]
 rw [if_pos ⟨by omega, by omega⟩]
theorem ld_rp (w : Nat) (cs r : List AV) (H : Heap) (k : AV → Option β) (h : cs.length = w) : pLoad true w (.rp (cs ++ r)) H k = k (.agg cs) := by
 simp only [pLoad, List.length_append, h, Nat.le_add_right, if_true, List.take_left' h]
theorem ld1_rp (c : AV) (r : List AV) (H : Heap) (k : AV → Option β) : pLoad false 1 (.rp (c :: r)) H k = k c := by
 simp only [pLoad, List.length_cons, Nat.le_add_left, if_true, Bool.false_eq_true, if_false]
 rfl
theorem st_at (w id off : Nat) (y : AV) (b : Blk) (cs : List AV) (H : Heap) (k : Heap → Option β) (h : H[id]? = some b) (hc : cellsA y = some cs) (hl : cs.length = w) (ho : off + w ≤ b.cells.length) (hb : b.live = true) : pStore w (.ptr id off) y H k = k (H.set id { b with cells := splice b.cells off cs }) := by
 simp only [pStore, h, hc, Option.bind_some, hb, if_true, hl, ho]
theorem splice_mid (A z C cs : List AV) (h : z.length = cs.length) : splice (A ++ (z ++ C)) A.length cs = A ++ (cs ++ C) := by
 unfold splice
 rw [List.take_left' rfl, ← List.append_assoc A z C, List.drop_append_of_le_length (by rw [List.length_append]; omega), ← h, ← List.length_append, List.drop_length, List.nil_append, List.append_assoc]
theorem lss_nat (a b : Nat) (k : AV → Option β) : pBin .lss (.sc (.int .i64 a)) (.sc (.int .i64 b)) k = k (.sc (.bool (decide (a < b)))) := by
 show k (.sc (.bool (decide ((a : Int) < (b : Int))))) = _
 rw [show decide ((a : Int) < (b : Int)) = decide (a < b) from by simp]
theorem inc_nat (a : Nat) (k : AV → Option β) (h : a < 9223372036854775807) : pBin .add (.sc (.int .i64 a)) (.sc (.int .i64 1)) k = k (.sc (.int .i64 (a + 1 : Nat))) := by
 show k (.sc (.int .i64 (IntKind.i64.wrap ((a : Int) + 1)))) = _
 have e : IntKind.i64.wrap ((a : Int) + 1) = ((a + 1 : Nat) : Int) := by
  rw [IntKind.wrap_i64, Int.natCast_add]
  simp only [Int.cast_ofNat_Int]
  omega
 rw [e]
theorem cond_b (b : Bool) (x y : Option β) : pCond (.sc (.bool b)) x y = if b then x else y := rfl
theorem len_ro (n : Nat) (cs : List AV) (k : AV → Option β) : pLen (.ro n cs) k = k (.sc (.int .i64 n)) := rfl
theorem wrap64 (n : Int) (h0 : -9223372036854775808 ≤ n) (h1 : n ≤ 9223372036854775807) : IntKind.i64.wrap n = n := by
 rw [IntKind.wrap_i64]; omega
theorem sub64 (a b : Int) (k : AV → Option β) (h0 : -9223372036854775808 ≤ a - b) (h1 : a - b ≤ 9223372036854775807) : pBin .sub (.sc (.int .i64 a)) (.sc (.int .i64 b)) k = k (.sc (.int .i64 (a - b))) := by
 show k (.sc (.int .i64 (IntKind.i64.wrap (a - b)))) = _
 rw [wrap64 _ h0 h1]
theorem lss64 (a b : Int) (k : AV → Option β) : pBin .lss (.sc (.int .i64 a)) (.sc (.int .i64 b)) k = k (.sc (.bool (decide (a < b)))) := rfl
theorem drop_rows {α : Type} {w : Nat} {enc : α → List AV} (hw : ∀ x, (enc x).length = w) (pre r : List α) : ((pre ++ r).map enc).flatten.drop (pre.length * w) = (r.map enc).flatten := by
 have hl : ((pre.map enc).flatten).length = pre.length * w := by
  induction pre with
  | nil => simp
  | cons x pre ih => rw [List.map_cons, List.flatten_cons, List.length_append, ih, hw, List.length_cons, Nat.succ_mul, Nat.add_comm]
 rw [List.map_append, List.flatten_append, List.drop_append_of_le_length (by omega), ← hl, List.drop_length, List.nil_append]
theorem rows_len {α : Type} {w : Nat} {enc : α → List AV} (hw : ∀ x, (enc x).length = w) (l : List α) : ((l.map enc).flatten).length = l.length * w := by
 induction l with
 | nil => simp
 | cons x l ih => rw [List.map_cons, List.flatten_cons, List.length_append, ih, hw, List.length_cons, Nat.succ_mul, Nat.add_comm]
theorem el_ro {α : Type} {w : Nat} {enc : α → List AV} (hw : ∀ x, (enc x).length = w) (h0 : 0 < w) (pre : List α) (x : α) (r : List α) (k : AV → Option β) :
  pIadr w (.ro (pre ++ x :: r).length ((pre ++ x :: r).map enc).flatten) (.sc (.int .i64 pre.length)) k = k (.rp (enc x ++ (r.map enc).flatten)) := by
 have hl := rows_len hw (pre ++ x :: r)
 have h1 : pre.length < (pre ++ x :: r).length := by simp
 rw [iadr_ro w _ _ pre.length k h1 (by rw [hl]; exact Nat.mul_lt_mul_of_pos_right h1 h0), drop_rows hw pre (x :: r), List.map_cons, List.flatten_cons]
theorem to_loop {α : Type} {n te g w : Nat} {cty : List Nat} (enc : α → List AV) (k : AV → Heap → Option β) (z : List AV) (hz : z.length = w) (hw : ∀ x, (enc x).length = w) (hc : cty.length = w) (h0 : 0 < w)
  (hte : ∃ i, ti0 te = some i ∧ i.cty = cty) (hfl : ∀ x, (enc x).all isFl = true) (hh : plainF g = false) (L : Nat → AV → AV → AV → Heap → Option β)
  (hL : ∀ m a o i H, L (m + 1) a o i H = pLen a fun t10 => pBin .lss i t10 fun t11 => pCond t11 (pIadr w a i fun t18 => pLoad true w t18 H fun t19 => (PR n β).call te (.fn g [] []) [t19] H fun t20 H => pIadr w o i fun t21 => pStore w t21 t20 H fun H => pBin .add i (.sc (.int .i64 1)) fun t13 => L m a o t13 H) (k o H))
  (l : List α) (hto : ∀ x ∈ l, tree E0 n te g [.agg (enc x)] = some (.agg (enc x))) (hlen : l.length ≤ 1048576) : ∀ (r pre : List α) (m : Nat), l = pre ++ r → r.length < m →
   L m (.ro l.length (l.map enc).flatten) (.sl 0 0 l.length w) (.sc (.int .i64 pre.length)) (⟨(instL ti0 E0.tp 1 (List.replicate pre.length cty).flatten (pre.map enc).flatten).1 ++ (List.replicate r.length z).flatten, true, true⟩ :: (instL ti0 E0.tp 1 (List.replicate pre.length cty).flatten (pre.map enc).flatten).2)
    = k (.sl 0 0 l.length w) (⟨(instL ti0 E0.tp 1 (List.replicate l.length cty).flatten (l.map enc).flatten).1, true, true⟩ :: (instL ti0 E0.tp 1 (List.replicate l.length cty).flatten (l.map enc).flatten).2)
 | [], pre, m + 1, hl, hm => by
  rw [List.append_nil] at hl
  subst hl
  rw [hL, len_ro, lss_nat, cond_b]
  simp
 | x :: r, pre, m + 1, hl, hm => by
  have hlt : pre.length < l.length := by rw [hl]; simp
  rw [hL, len_ro, lss_nat, cond_b, if_pos (by simpa using hlt)]
  have hel := fun k => el_ro (β := β) hw h0 pre x r k
  rw [← hl] at hel
  rw [hel, ld_rp w _ _ _ _ (hw x)]
  rw [PR_call (vs := [.agg (enc x)]) hh (by rw [List.mapM_cons, (Vw_agg _ (hfl x)).now]; rfl) (hto x (by rw [hl]; simp))]
  rw [iadr_sl w _ _ _ _ _ hlt]
  obtain ⟨i, hi, rfl⟩ := hte
  have hr : (List.replicate pre.length i.cty).flatten.length = ((pre.map enc).flatten).length := by rw [rows_len hw]; simp [hc]
  have hJ := instL_append (ti := ti0) (tp := E0.tp) (List.replicate pre.length i.cty).flatten (pre.map enc).flatten i.cty (enc x) 1 hr
  generalize hP : instL ti0 E0.tp 1 (List.replicate pre.length i.cty).flatten (pre.map enc).flatten = P at hJ ⊢
  have hPl : P.1.length = pre.length * w := by rw [← hP, instL_len, rows_len hw]
  have hN : (⟨P.1 ++ (List.replicate (x :: r).length z).flatten, true, true⟩ :: P.2 : Heap).length = 1 + P.2.length := by simp [Nat.add_comm]
  rw [hN, instT_agg, hi, Option.getD_some]
  simp only
  generalize hQ : instL ti0 E0.tp (1 + P.2.length) i.cty (enc x) = Q at hJ ⊢
  have hQl : Q.1.length = w := by rw [← hQ, instL_len, hw]
  have hcl : cellsA (.agg Q.1) = some Q.1 := by
   show (if Q.1.all isLeaf then some Q.1 else none) = _
   rw [if_pos (by rw [← hQ]; exact instL_leaf _ _ _ (hfl x))]
  rw [List.cons_append, st_at w 0 (0 + pre.length * w) (.agg Q.1) ⟨P.1 ++ (List.replicate (x :: r).length z).flatten, true, true⟩ Q.1 _ _ rfl hcl hQl (by simp [hPl, hz, Nat.succ_mul]) rfl]
  rw [List.set_cons_zero, inc_nat _ _ (by omega)]
  have ih := to_loop enc k z hz hw hc h0 ⟨i, hi, rfl⟩ hfl hh L hL l hto hlen r (pre ++ [x]) m (by rw [hl]; simp) (by simpa using hm)
  have e1 : (List.replicate (pre ++ [x]).length i.cty).flatten = (List.replicate pre.length i.cty).flatten ++ i.cty := by
   rw [List.length_append, List.length_singleton, List.replicate_succ', List.flatten_append]; simp
  have e2 : ((pre ++ [x]).map enc).flatten = (pre.map enc).flatten ++ enc x := by simp
  rw [e1, e2, hJ] at ih
  have e3 : splice (P.1 ++ (List.replicate (x :: r).length z).flatten) (0 + pre.length * w) Q.1 = P.1 ++ Q.1 ++ (List.replicate r.length z).flatten := by
   rw [List.length_cons, List.replicate_succ, List.flatten_cons, Nat.zero_add, ← hPl, splice_mid _ _ _ _ (by rw [hz, hQl]), List.append_assoc]
  simp only [e3]
  rw [List.length_append, List.length_singleton] at ih
  exact ih
theorem to_slice {α : Type} {n te tyS f g w bytes : Nat} {cty : List Nat} (enc : α → List AV) (z : List AV) (hz : z.length = w) (hw : ∀ x, (enc x).length = w) (hc : cty.length = w) (h0 : 0 < w)
  (hty : ∃ i j, ti0 tyS = some i ∧ ti0 i.elem = some j ∧ j.size = w ∧ j.cty = cty) (hte : ∃ i, ti0 te = some i ∧ i.cty = cty) (hfl : ∀ x, (enc x).all isFl = true) (hh : plainF g = false) (L : (AV → Heap → Option AV) → Nat → AV → AV → AV → Heap → Option AV)
  (hL : ∀ k m a o i H, L k (m + 1) a o i H = pLen a fun t10 => pBin .lss i t10 fun t11 => pCond t11 (pIadr w a i fun t18 => pLoad true w t18 H fun t19 => (PR n AV).call te (.fn g [] []) [t19] H fun t20 H => pIadr w o i fun t21 => pStore w t21 t20 H fun H => pBin .add i (.sc (.int .i64 1)) fun t13 => L k m a o t13 H) (k o H))
  (hF : ∀ a H k, evalFn E0 (n + 1) AV f [a] H k = pLen a fun t6 => pMake w bytes z t6 t6 H fun t7 H => L k n a t7 (.sc (.int .i64 0)) H)
  (hby : bytes ≤ 134217728) (l : List α) (hto : ∀ x ∈ l, tree E0 n te g [.agg (enc x)] = some (.agg (enc x))) (hok : ∀ x ∈ l, okLW (okW ti0 E0.tp 7) cty (enc x)) (hlen : l.length ≤ 1048576) (hn : 1048576 < n) :
  tree E0 (n + 1) tyS f [.ro l.length (l.map enc).flatten] = some (.ro l.length (l.map enc).flatten) := by
 rw [tree_def, hF, len_ro]
 have hb : l.length * bytes ≤ 140737488355328 := Nat.le_trans (Nat.mul_le_mul hlen hby) (by decide)
 simp only [pMake, asI, Option.bind_some, if_true, Int.toNat_natCast, hb, Int.natCast_nonneg, pNewSl, List.length_nil, List.nil_append]
 have key := to_loop (n := n) (te := te) (g := g) (cty := cty) enc (fun x H => ownTree ti0 E0.tp tyS H x) z hz hw hc h0 hte hfl hh _ (hL _) l hto hlen l [] n (by simp) (by omega)
 simp only [List.length_nil, List.replicate_zero, List.flatten_nil, List.map_nil, instL, List.nil_append, Int.natCast_zero] at key
 refine key.trans ?_
 obtain ⟨i, j, h1, h2, h3, rfl⟩ := hty
 have hok' : okW ti0 E0.tp 8 tyS (.ro l.length (l.map enc).flatten) := ⟨i, j, h1, h2, by rw [rows_len hw, h3], okLW_rows l hok⟩
 have := own_ret [] tyS _ hok'
 simp only [instT, h1, h2, Option.bind_some, Option.getD_some, List.length_nil, List.nil_append, Nat.zero_add, h3] at this
 exact this
theorem flat_loop {α : Type} {n : Nat} (e : α → Value) (k : AV → Heap → Option β) (z : AV) (hlf : ∀ x, leafV (e x) = true) (L : Nat → AV → AV → AV → Heap → Option β)
  (hL : ∀ m a o i H, L (m + 1) a o i H = pLen a fun t10 => pBin .lss i t10 fun t11 => pCond t11 (pIadr 1 a i fun t18 => pLoad false 1 t18 H fun t19 => pIadr 1 o i fun t21 => pStore 1 t21 t19 H fun H => pBin .add i (.sc (.int .i64 1)) fun t13 => L m a o t13 H) (k o H))
  (l : List α) (hlen : l.length ≤ 1048576) : ∀ (r pre : List α) (m : Nat), l = pre ++ r → r.length < m →
   L m (.ro l.length (l.map fun x => .sc (e x))) (.sl 0 0 l.length 1) (.sc (.int .i64 pre.length)) [⟨(pre.map fun x => .sc (e x)) ++ List.replicate r.length z, true, true⟩]
    = k (.sl 0 0 l.length 1) [⟨l.map fun x => .sc (e x), true, true⟩]
 | [], pre, m + 1, hl, hm => by
  rw [List.append_nil] at hl
  subst hl
  rw [hL, len_ro, lss_nat, cond_b]
  simp
 | x :: r, pre, m + 1, hl, hm => by
  have hlt : pre.length < l.length := by rw [hl]; simp
  rw [hL, len_ro, lss_nat, cond_b, if_pos (by simpa using hlt)]
  rw [iadr_ro 1 _ _ pre.length _ hlt (by simpa using hlt)]
  have hd : (l.map fun x => AV.sc (e x)).drop (pre.length * 1) = .sc (e x) :: r.map fun x => .sc (e x) := by
   rw [Nat.mul_one, hl, List.map_append, List.drop_append_of_le_length (by simp)]
   rw [show pre.length = (pre.map fun x => AV.sc (e x)).length by simp, List.drop_length]
   rfl
  rw [hd, ld1_rp, iadr_sl 1 _ _ _ _ _ hlt]
  have hc : cellsA (.sc (e x)) = some [.sc (e x)] := by
   show cellsA (.sc (e x)) = _
   simp only [cellsA, isLeaf, hlf, if_true]
  rw [st_at 1 0 (0 + pre.length * 1) (.sc (e x)) ⟨(pre.map fun x => .sc (e x)) ++ List.replicate (x :: r).length z, true, true⟩ [.sc (e x)] _ _ rfl hc rfl (by simp) rfl]
  rw [List.set_cons_zero, inc_nat _ _ (by omega)]
  have ih := flat_loop (n := n) e k z hlf L hL l hlen r (pre ++ [x]) m (by rw [hl]; simp) (by simpa using hm)
  have e3 : splice ((pre.map fun x => AV.sc (e x)) ++ List.replicate (x :: r).length z) (0 + pre.length * 1) [.sc (e x)] = ((pre ++ [x]).map fun x => AV.sc (e x)) ++ List.replicate r.length z := by
   have := splice_mid (pre.map fun x => AV.sc (e x)) [z] (List.replicate r.length z) [.sc (e x)] rfl
   rw [List.length_map] at this
   rw [List.length_cons, List.replicate_succ, Nat.zero_add, Nat.mul_one]
   refine this.trans ?_
   simp
  simp only [e3]
  rw [List.length_append, List.length_singleton] at ih
  exact ih
theorem to_flat {α : Type} {n tyS f bytes : Nat} (e : α → Value) (z : AV) (hlf : ∀ x, leafV (e x) = true) (hty : ∃ i j, ti0 tyS = some i ∧ ti0 i.elem = some j ∧ j.size = 1 ∧ j.cty.length = 1) (L : (AV → Heap → Option AV) → Nat → AV → AV → AV → Heap → Option AV)
  (hL : ∀ k m a o i H, L k (m + 1) a o i H = pLen a fun t10 => pBin .lss i t10 fun t11 => pCond t11 (pIadr 1 a i fun t18 => pLoad false 1 t18 H fun t19 => pIadr 1 o i fun t21 => pStore 1 t21 t19 H fun H => pBin .add i (.sc (.int .i64 1)) fun t13 => L k m a o t13 H) (k o H))
  (hF : ∀ a H k, evalFn E0 (n + 1) AV f [a] H k = pLen a fun t6 => pMake 1 bytes [z] t6 t6 H fun t7 H => L k n a t7 (.sc (.int .i64 0)) H)
  (hby : bytes ≤ 134217728) (l : List α) (hlen : l.length ≤ 1048576) (hn : 1048576 < n) :
  tree E0 (n + 1) tyS f [.ro l.length (l.map fun x => .sc (e x))] = some (.ro l.length (l.map fun x => .sc (e x))) := by
 rw [tree_def, hF, len_ro]
 have hb : l.length * bytes ≤ 140737488355328 := Nat.le_trans (Nat.mul_le_mul hlen hby) (by decide)
 have hz : (List.replicate l.length [z]).flatten = List.replicate l.length z := by
  generalize l.length = m
  induction m with
  | zero => rfl
  | succ m ih => rw [List.replicate_succ, List.flatten_cons, ih, List.replicate_succ]; rfl
 simp only [pMake, asI, Option.bind_some, if_true, Int.toNat_natCast, hb, Int.natCast_nonneg, pNewSl, List.length_nil, List.nil_append, hz]
 have key := flat_loop (n := n) e (fun x H => ownTree ti0 E0.tp tyS H x) z hlf _ (hL _) l hlen l [] n (by simp) (by omega)
 simp only [List.length_nil, List.map_nil, List.nil_append, Int.natCast_zero] at key
 refine key.trans ?_
 obtain ⟨i, j, h1, h2, h3, h4⟩ := hty
 have em : (l.map fun x => AV.sc (e x)) = (l.map e).map AV.sc := by rw [List.map_map]; rfl
 have hl1 : (List.replicate l.length j.cty).flatten.length = (l.map e).length := by simp [h4]
 have e3 := ownL_sc (ti := ti0) (tp := E0.tp) (H := [⟨l.map fun x => AV.sc (e x), true, true⟩]) (d := 6) _ _ hl1
 have e2 : rdCells [⟨l.map fun x => AV.sc (e x), true, true⟩] 0 0 (l.length * 1) = some (l.map fun x => AV.sc (e x)) := by
  simp [rdCells, List.take_of_length_le]
 rw [ownTree, ownT_sl]
 simp only [h1, h2, h3, Option.bind_some, if_true, e2, isApp, List.getElem?_cons_zero]
 rw [em] at e3 ⊢
 rw [e3]
 rfl
theorem eq_loop {α : Type} {n tb g w : Nat} (enc : α → List AV) (k : AV → Heap → Option β) (hw : ∀ x, (enc x).length = w) (h0 : 0 < w) (hfl : ∀ x, (enc x).all isFl = true) (hh : plainF g = false) (L : Nat → AV → AV → AV → Heap → Option β)
  (hL : ∀ m a b i H, L (m + 1) a b i H = pLen a fun t13 => pBin .lss i t13 fun t14 => pCond t14 (pIadr w a i fun t19 => pLoad true w t19 H fun t20 => pIadr w b i fun t23 => pLoad true w t23 H fun t24 => (PR n β).call tb (.fn g [] []) [t20, t24] H fun t25 H => pUn .not t25 fun t26 => pCond t26 (k (.sc (.bool false)) H) (pBin .add i (.sc (.int .i64 1)) fun t16 => L m a b t16 H)) (k (.sc (.bool true)) H))
  (l : List α) (heq : ∀ x ∈ l, tree E0 n tb g [.agg (enc x), .agg (enc x)] = some (.sc (.bool true))) (hlen : l.length ≤ 1048576) (H : Heap) : ∀ (r pre : List α) (m : Nat), l = pre ++ r → r.length < m →
   L m (.ro l.length (l.map enc).flatten) (.ro l.length (l.map enc).flatten) (.sc (.int .i64 pre.length)) H = k (.sc (.bool true)) H
 | [], pre, m + 1, hl, hm => by
  rw [List.append_nil] at hl
  subst hl
  rw [hL, len_ro, lss_nat, cond_b]
  simp
 | x :: r, pre, m + 1, hl, hm => by
  have hlt : pre.length < l.length := by rw [hl]; simp
  rw [hL, len_ro, lss_nat, cond_b, if_pos (by simpa using hlt)]
  have hel := fun k => el_ro (β := β) hw h0 pre x r k
  rw [← hl] at hel
  rw [hel, ld_rp w _ _ _ _ (hw x), hel, ld_rp w _ _ _ _ (hw x)]
  rw [PR_call (vs := [.agg (enc x), .agg (enc x)]) hh (by simp only [List.mapM_cons, (Vw_agg _ (hfl x)).now]; rfl) (heq x (by rw [hl]; simp))]
  rw [instT_sc]
  simp only [pUn, Bool.not_true, List.append_nil]
  rw [cond_b, if_neg (by simp), inc_nat _ _ (by omega)]
  have ih := eq_loop enc k hw h0 hfl hh L hL l heq hlen H r (pre ++ [x]) m (by rw [hl]; simp) (by simpa using hm)
  rw [List.length_append, List.length_singleton] at ih
  exact ih
theorem neq_nat (a b : Nat) (k : AV → Option β) : pBin .neq (.sc (.int .i64 a)) (.sc (.int .i64 b)) k = k (.sc (.bool (decide (a ≠ b)))) := by
 show k (.sc (.bool ((a : Int) != (b : Int)))) = _
 congr 3
 by_cases h : a = b
 ·subst h; simp
 ·simp [bne, h]; omega
theorem eq_slice {α : Type} {n tb f g w : Nat} (enc : α → List AV) (hw : ∀ x, (enc x).length = w) (h0 : 0 < w) (hfl : ∀ x, (enc x).all isFl = true) (hh : plainF g = false) (L : (AV → Heap → Option AV) → Nat → AV → AV → AV → Heap → Option AV)
  (hL : ∀ k m a b i H, L k (m + 1) a b i H = pLen a fun t13 => pBin .lss i t13 fun t14 => pCond t14 (pIadr w a i fun t19 => pLoad true w t19 H fun t20 => pIadr w b i fun t23 => pLoad true w t23 H fun t24 => (PR n AV).call tb (.fn g [] []) [t20, t24] H fun t25 H => pUn .not t25 fun t26 => pCond t26 (k (.sc (.bool false)) H) (pBin .add i (.sc (.int .i64 1)) fun t16 => L k m a b t16 H)) (k (.sc (.bool true)) H))
  (hF : ∀ a b H k, evalFn E0 (n + 1) AV f [a, b] H k = pLen a fun t7 => pLen b fun t9 => pBin .neq t7 t9 fun t10 => pCond t10 (k (.sc (.bool false)) H) (L k n a b (.sc (.int .i64 0)) H))
  (l : List α) (heq : ∀ x ∈ l, tree E0 n tb g [.agg (enc x), .agg (enc x)] = some (.sc (.bool true))) (hlen : l.length ≤ 1048576) (hn : 1048576 < n) (tb' : Nat) :
  tree E0 (n + 1) tb' f [.ro l.length (l.map enc).flatten, .ro l.length (l.map enc).flatten] = some (.sc (.bool true)) := by
 rw [tree_def, hF, len_ro, len_ro, neq_nat, cond_b, if_neg (by simp)]
 have key := eq_loop (n := n) (tb := tb) (g := g) enc (fun x H => ownTree ti0 E0.tp tb' H x) hw h0 hfl hh (L fun x H => ownTree ti0 E0.tp tb' H x) (hL fun x H => ownTree ti0 E0.tp tb' H x) l heq hlen [] l [] n (by simp) (by omega)
 simp only [List.length_nil, Int.natCast_zero] at key
 rw [key]
 rfl
theorem eqf_loop {α : Type} {n : Nat} (e : α → Value) (k : AV → Heap → Option β) (hne : ∀ (x : α) (γ : Type) (k : AV → Option γ), pBin .neq (.sc (e x)) (.sc (e x)) k = k (.sc (.bool false))) (L : Nat → AV → AV → AV → Heap → Option β)
  (hL : ∀ m a b i H, L (m + 1) a b i H = pLen a fun t13 => pBin .lss i t13 fun t14 => pCond t14 (pIadr 1 a i fun t19 => pLoad false 1 t19 H fun t20 => pIadr 1 b i fun t23 => pLoad false 1 t23 H fun t24 => pBin .neq t20 t24 fun t25 => pCond t25 (k (.sc (.bool false)) H) (pBin .add i (.sc (.int .i64 1)) fun t16 => L m a b t16 H)) (k (.sc (.bool true)) H))
  (l : List α) (hlen : l.length ≤ 1048576) (H : Heap) : ∀ (r pre : List α) (m : Nat), l = pre ++ r → r.length < m →
   L m (.ro l.length (l.map fun x => .sc (e x))) (.ro l.length (l.map fun x => .sc (e x))) (.sc (.int .i64 pre.length)) H = k (.sc (.bool true)) H
 | [], pre, m + 1, hl, hm => by
  rw [List.append_nil] at hl
  subst hl
  rw [hL, len_ro, lss_nat, cond_b]
  simp
 | x :: r, pre, m + 1, hl, hm => by
  have hlt : pre.length < l.length := by rw [hl]; simp
  rw [hL, len_ro, lss_nat, cond_b, if_pos (by simpa using hlt)]
  have hd : (l.map fun x => AV.sc (e x)).drop (pre.length * 1) = .sc (e x) :: r.map fun x => .sc (e x) := by
   rw [Nat.mul_one, hl, List.map_append, List.drop_append_of_le_length (by simp)]
   rw [show pre.length = (pre.map fun x => AV.sc (e x)).length by simp, List.drop_length]
   rfl
  rw [iadr_ro 1 _ _ pre.length _ hlt (by simpa using hlt), hd, ld1_rp, iadr_ro 1 _ _ pre.length _ hlt (by simpa using hlt), hd, ld1_rp, hne, cond_b, if_neg (by simp), inc_nat _ _ (by omega)]
  have ih := eqf_loop (n := n) e k hne L hL l hlen H r (pre ++ [x]) m (by rw [hl]; simp) (by simpa using hm)
  rw [List.length_append, List.length_singleton] at ih
  exact ih
theorem eq_flat {α : Type} {n f : Nat} (e : α → Value) (hne : ∀ (x : α) (γ : Type) (k : AV → Option γ), pBin .neq (.sc (e x)) (.sc (e x)) k = k (.sc (.bool false))) (L : (AV → Heap → Option AV) → Nat → AV → AV → AV → Heap → Option AV)
  (hL : ∀ k m a b i H, L k (m + 1) a b i H = pLen a fun t13 => pBin .lss i t13 fun t14 => pCond t14 (pIadr 1 a i fun t19 => pLoad false 1 t19 H fun t20 => pIadr 1 b i fun t23 => pLoad false 1 t23 H fun t24 => pBin .neq t20 t24 fun t25 => pCond t25 (k (.sc (.bool false)) H) (pBin .add i (.sc (.int .i64 1)) fun t16 => L k m a b t16 H)) (k (.sc (.bool true)) H))
  (hF : ∀ a b H k, evalFn E0 (n + 1) AV f [a, b] H k = pLen a fun t7 => pLen b fun t9 => pBin .neq t7 t9 fun t10 => pCond t10 (k (.sc (.bool false)) H) (L k n a b (.sc (.int .i64 0)) H))
  (l : List α) (hlen : l.length ≤ 1048576) (hn : 1048576 < n) (tb' : Nat) :
  tree E0 (n + 1) tb' f [.ro l.length (l.map fun x => .sc (e x)), .ro l.length (l.map fun x => .sc (e x))] = some (.sc (.bool true)) := by
 rw [tree_def, hF, len_ro, len_ro, neq_nat, cond_b, if_neg (by simp)]
 have key := eqf_loop (n := n) e (fun x H => ownTree ti0 E0.tp tb' H x) hne (L fun x H => ownTree ti0 E0.tp tb' H x) (hL fun x H => ownTree ti0 E0.tp tb' H x) l hlen [] l [] n (by simp) (by omega)
 simp only [List.length_nil, Int.natCast_zero] at key
 rw [key]
 rfl
def szR (w : Nat) (left : Int) : Int := if left < w then -1 else left - w
def wtL {α : Type} (wt : α → Nat) : List α → Nat
 | [] => 0
 | x :: l => 1 + wt x + wtL wt l
def wtS {α : Type} (wt : α → Nat) : List α → Nat
 | [] => 0
 | x :: l => wt x + wtS wt l
theorem wtL_eq {α : Type} (wt : α → Nat) : ∀ l : List α, wtL wt l = l.length + wtS wt l
 | [] => rfl
 | x :: l => by rw [wtL, wtS, wtL_eq wt l, List.length_cons]; omega
theorem wtS_mem {α : Type} {wt : α → Nat} : ∀ {l : List α} {x : α}, x ∈ l → wt x ≤ wtS wt l
 | y :: l, x, h => by
  rw [wtS]
  rcases List.mem_cons.1 h with rfl | h
  ·omega
  ·have := wtS_mem (wt := wt) h
   omega
theorem sz_loop {α : Type} {n ty g w : Nat} (enc : α → List AV) (wt : α → Nat) (k : AV → Heap → Option β) (hw : ∀ x, (enc x).length = w) (h0 : 0 < w) (hfl : ∀ x, (enc x).all isFl = true) (hh : plainF g = false) (L : Nat → AV → AV → AV → Heap → Option β)
  (hL : ∀ m a l i H, L (m + 1) a l i H = pLen a fun t14 => pBin .lss i t14 fun t15 => pCond t15 (pIadr w a i fun t20 => pLoad true w t20 H fun t21 => (PR n β).call ty (.fn g [] []) [t21, l] H fun t23 H => pBin .lss t23 (.sc (.int .i64 0)) fun t25 => pCond t25 (k (.sc (.int .i64 (-1))) H) (pBin .add i (.sc (.int .i64 1)) fun t17 => L m a t23 t17 H)) (k l H))
  (l : List α) (hsz : ∀ x ∈ l, ∀ left : Int, 0 ≤ left → left ≤ 1048576 → tree E0 n ty g [.agg (enc x), .sc (.int .i64 left)] = some (.sc (.int .i64 (szR (wt x) left)))) (hlen : l.length ≤ 1048576) (H : Heap) : ∀ (r pre : List α) (m : Nat) (left : Int), 0 ≤ left → left ≤ 1048576 → l = pre ++ r → r.length < m →
   L m (.ro l.length (l.map enc).flatten) (.sc (.int .i64 left)) (.sc (.int .i64 pre.length)) H = k (.sc (.int .i64 (szR (wtS wt r) left))) H
 | [], pre, m + 1, left, hl0, hl1, hl, hm => by
  rw [List.append_nil] at hl
  subst hl
  rw [hL, len_ro, lss_nat, cond_b]
  have : szR (wtS wt []) left = left := by simp [szR, wtS]; omega
  rw [this]
  simp
 | x :: r, pre, m + 1, left, hl0, hl1, hl, hm => by
  have hlt : pre.length < l.length := by rw [hl]; simp
  rw [hL, len_ro, lss_nat, cond_b, if_pos (by simpa using hlt)]
  have hel := fun k => el_ro (β := β) hw h0 pre x r k
  rw [← hl] at hel
  rw [hel, ld_rp w _ _ _ _ (hw x)]
  rw [PR_call (vs := [.agg (enc x), .sc (.int .i64 left)]) hh (by simp only [List.mapM_cons, (Vw_agg _ (hfl x)).now]; rfl) (hsz x (by rw [hl]; simp) left hl0 hl1)]
  rw [instT_sc]
  simp only [List.append_nil]
  rw [lss64, cond_b]
  by_cases hs : left < wt x
  ·have e1 : szR (wt x) left = -1 := by simp [szR, hs]
   have e2 : szR (wtS wt (x :: r)) left = -1 := by
    rw [wtS, szR, if_pos]; omega
   rw [e1, e2]
   simp
  ·have e1 : szR (wt x) left = left - wt x := by simp [szR, hs]
   have e2 : szR (wtS wt (x :: r)) left = szR (wtS wt r) (left - wt x) := by
    unfold szR
    rw [wtS]
    by_cases h : left < ((wt x + wtS wt r : Nat) : Int)
    ·rw [if_pos h, if_pos (by omega)]
    ·rw [if_neg h, if_neg (by omega)]; omega
   rw [e1, e2, if_neg (by simp; omega), inc_nat _ _ (by omega)]
   have ih := sz_loop enc wt k hw h0 hfl hh L hL l hsz hlen H r (pre ++ [x]) m (left - wt x) (by omega) (by omega) (by rw [hl]; simp) (by simpa using hm)
   rw [List.length_append, List.length_singleton] at ih
   exact ih
theorem sz_slice {α : Type} {n ty f g w : Nat} (enc : α → List AV) (wt : α → Nat) (hw : ∀ x, (enc x).length = w) (h0 : 0 < w) (hfl : ∀ x, (enc x).all isFl = true) (hh : plainF g = false) (L : (AV → Heap → Option AV) → Nat → AV → AV → AV → Heap → Option AV)
  (hL : ∀ k m a l i H, L k (m + 1) a l i H = pLen a fun t14 => pBin .lss i t14 fun t15 => pCond t15 (pIadr w a i fun t20 => pLoad true w t20 H fun t21 => (PR n AV).call ty (.fn g [] []) [t21, l] H fun t23 H => pBin .lss t23 (.sc (.int .i64 0)) fun t25 => pCond t25 (k (.sc (.int .i64 (-1))) H) (pBin .add i (.sc (.int .i64 1)) fun t17 => L k m a t23 t17 H)) (k l H))
  (hF : ∀ a b H k, evalFn E0 (n + 1) AV f [a, b] H k = pLen a fun t8 => pBin .sub b t8 fun t9 => pBin .lss t9 (.sc (.int .i64 0)) fun t11 => pCond t11 (k (.sc (.int .i64 (-1))) H) (L k n a t9 (.sc (.int .i64 0)) H))
  (l : List α) (hsz : ∀ x ∈ l, ∀ left : Int, 0 ≤ left → left ≤ 1048576 → tree E0 n ty g [.agg (enc x), .sc (.int .i64 left)] = some (.sc (.int .i64 (szR (wt x) left)))) (hmax : l.length ≤ 9223372036854775807) (hn : 1048576 < n) (left : Int) (hl0 : 0 ≤ left) (hl1 : left ≤ 1048576) (ty' : Nat) :
  tree E0 (n + 1) ty' f [.ro l.length (l.map enc).flatten, .sc (.int .i64 left)] = some (.sc (.int .i64 (szR (wtL wt l) left))) := by
 rw [tree_def, hF, len_ro, sub64 _ _ _ (by omega) (by omega), lss64, cond_b]
 by_cases h : left - (l.length : Int) < 0
 ·have e : szR (wtL wt l) left = -1 := by rw [wtL_eq, szR, if_pos]; omega
  rw [if_pos (by simpa using h), e]
  rfl
 ·have e : szR (wtL wt l) left = szR (wtS wt l) (left - l.length) := by
   rw [wtL_eq]
   unfold szR
   by_cases h : left < ((l.length + wtS wt l : Nat) : Int)
   ·rw [if_pos h, if_pos (by omega)]
   ·rw [if_neg h, if_neg (by omega)]; omega
  rw [if_neg (by simpa using h), e]
  have key := sz_loop (n := n) (ty := ty) (g := g) enc wt (fun x H => ownTree ti0 E0.tp ty' H x) hw h0 hfl hh (L fun x H => ownTree ti0 E0.tp ty' H x) (hL fun x H => ownTree ti0 E0.tp ty' H x) l hsz (by omega) [] l [] n (left - l.length) (by omega) (by omega) (by simp) (by omega)
  simp only [List.length_nil, Int.natCast_zero] at key
  rw [key]
  rfl
theorem sz_len {n f : Nat} (hF : ∀ a b H k, evalFn E0 (n + 1) AV f [a, b] H k = pLen a fun t8 => pBin .sub b t8 fun t9 => pBin .lss t9 (.sc (.int .i64 0)) fun t11 => pCond t11 (k (.sc (.int .i64 (-1))) H) (k t9 H))
  (len : Nat) (cells : List AV) (hmax : len ≤ 9223372036854775807) (left : Int) (hl0 : 0 ≤ left) (hl1 : left ≤ 1048576) (ty' : Nat) :
  tree E0 (n + 1) ty' f [.ro len cells, .sc (.int .i64 left)] = some (.sc (.int .i64 (szR len left))) := by
 rw [tree_def, hF, len_ro, sub64 _ _ _ (by omega) (by omega), lss64, cond_b]
 by_cases h : left - (len : Int) < 0
 ·have e : szR len left = -1 := by rw [szR, if_pos]; omega
  rw [if_pos (by simpa using h), e]
  rfl
 ·have e : szR len left = left - len := by rw [szR, if_neg]; omega
  rw [if_neg (by simpa using h), e]
  rfl
end ops
end Go.Proofs.YtejjggnchdldoaaDoor.Abs
set_option linter.unusedVariables false
set_option linter.unusedSimpArgs false
namespace Go.Proofs.YtejjggnchdldoaaDoor.Abs
open Go
variable {β : Type} {n : Nat}
theorem box_fl (cs : List AV) (H : Heap) (k : AV → Heap → Option β) (h : cs.all isFl = true) : pBox (.agg cs) H k = k (.ptr H.length 0) (H ++ [⟨cs, true, true⟩]) := by
 rw [pBox, fl_cells h]
 rfl
theorem ldT {m id off : Nat} {H : Heap} {cs : List AV} (h : rdCells H id off m = some cs) (k : AV → Option β) : pLoad true m (.ptr id off) H k = k (.agg cs) := by
 simp only [pLoad, h, Option.bind_some, if_true]
theorem ldF {id off : Nat} {H : Heap} {c : AV} (h : rdCells H id off 1 = some [c]) (k : AV → Option β) : pLoad false 1 (.ptr id off) H k = k c := by
 simp only [pLoad, h, Option.bind_some, Bool.false_eq_true, if_false, one]
noncomputable def FrB (b0 b1 : Blk) (ts : List Nat) (cs z : List AV) : Heap := b0 :: b1 :: ⟨(instL ti0 E0.tp 3 ts cs).1 ++ z, true, true⟩ :: (instL ti0 E0.tp 3 ts cs).2
theorem fr_put {b0 b1 : Blk} {ts : List Nat} {cs z0 z : List AV} {w o : Nat} {y : AV} {ys : List AV} {B : List Blk} {ts' : List Nat} {cs' : List AV} (hl : ts.length = cs.length) (ho : o = cs.length) (hw : z0.length = w) (hc : cellsA y = some ys) (hy : ys.length = w)
  (hB : instL ti0 E0.tp (3 + (instL ti0 E0.tp 3 ts cs).2.length) ts' cs' = (ys, B)) (K : Heap → Option β) :
  pStore w (.ptr 2 o) y (FrB b0 b1 ts cs (z0 ++ z) ++ B) K = K (FrB b0 b1 (ts ++ ts') (cs ++ cs') z) := by
 have hP : (instL ti0 E0.tp 3 ts cs).1.length = cs.length := instL_len _ _ _
 rw [st_at w 2 o y ⟨(instL ti0 E0.tp 3 ts cs).1 ++ (z0 ++ z), true, true⟩ ys _ _ rfl hc hy (by simp [hP, ho, hw]) rfl]
 congr 1
 have hs : splice ((instL ti0 E0.tp 3 ts cs).1 ++ (z0 ++ z)) o ys = (instL ti0 E0.tp 3 ts cs).1 ++ (ys ++ z) := by
  rw [ho, ← hP]
  exact splice_mid _ _ _ _ (by rw [hw, hy])
 simp only [FrB, List.cons_append, List.set_cons_succ, List.set_cons_zero, hs, instL_append ts cs ts' cs' 3 hl, hB, List.append_assoc]
theorem to_sc {b0 b1 : Blk} {ts : List Nat} {cs z z' : List AV} {o : Nat} {t : Nat} {v : Value} {c : AV} {K : Heap → Option β} {r : Option β} (hr : rdCells (FrB b0 b1 ts cs z) 0 o 1 = some [.sc v]) (hv : leafV v = true) (hl : ts.length = cs.length) (ho : o = cs.length) (hz : z = c :: z')
  (h : K (FrB b0 b1 (ts ++ [t]) (cs ++ [.sc v]) z') = r) :
  (pFadr o (.ptr 0 0) fun t4 => pLoad false 1 t4 (FrB b0 b1 ts cs z) fun t5 => pFadr o (.ptr 2 0) fun t6 => pStore 1 t6 t5 (FrB b0 b1 ts cs z) fun H => K H) = r := by
 subst hz
 simp only [pFadr, Nat.zero_add]
 rw [ldF hr]
 have := fr_put (β := β) (b0 := b0) (b1 := b1) (ts := ts) (cs := cs) (z0 := [c]) (z := z') (w := 1) (o := o) (y := .sc v) (ys := [.sc v]) (B := []) (ts' := [t]) (cs' := [.sc v]) hl ho rfl (by simp only [cellsA, isLeaf, hv, if_true]) rfl (by simp [instL, instT]) K
 rw [List.append_nil] at this
 exact this.trans h
theorem to_ro {b0 b1 : Blk} {ts : List Nat} {cs z z' : List AV} {o t g len : Nat} {c : AV} {cells : List AV} {K : Heap → Option β} {r : Option β} (hr : rdCells (FrB b0 b1 ts cs z) 0 o 1 = some [.ro len cells]) (hh : plainF g = false) (ht : tree E0 n t g [.ro len cells] = some (.ro len cells)) (hl : ts.length = cs.length) (ho : o = cs.length) (hz : z = c :: z')
  (h : K (FrB b0 b1 (ts ++ [t]) (cs ++ [.ro len cells]) z') = r) :
  (pFadr o (.ptr 0 0) fun t4 => pLoad false 1 t4 (FrB b0 b1 ts cs z) fun t5 => (PR n β).call t (.fn g [] []) [t5] (FrB b0 b1 ts cs z) fun t9 H => pFadr o (.ptr 2 0) fun t6 => pStore 1 t6 t9 H fun H => K H) = r := by
 subst hz
 simp only [pFadr, Nat.zero_add]
 rw [ldF hr, PR_call (vs := [.ro len cells]) hh (by simp only [List.mapM_cons, viewV_ro]; rfl) ht]
 have hH : (FrB b0 b1 ts cs (c :: z')).length = 3 + (instL ti0 E0.tp 3 ts cs).2.length := by simp [FrB]; omega
 rw [hH]
 have hi : ∀ N, ∃ s : AV, isLeaf s = true ∧ (instT ti0 E0.tp N t (.ro len cells)).1 = s ∧ cellsA s = some [s] := fun N => by
  refine ⟨_, ?_, rfl, ?_⟩ <;> simp [instT, isLeaf, cellsA]
 obtain ⟨s, _, hs, hc⟩ := hi (3 + (instL ti0 E0.tp 3 ts cs).2.length)
 have := fr_put (β := β) (b0 := b0) (b1 := b1) (ts := ts) (cs := cs) (z0 := [c]) (z := z') (w := 1) (o := o) (y := s) (ys := [s]) (ts' := [t]) (cs' := [.ro len cells]) (B := (instT ti0 E0.tp (3 + (instL ti0 E0.tp 3 ts cs).2.length) t (.ro len cells)).2) hl ho rfl hc rfl (by simp only [instL, List.headD_cons, List.append_nil, hs]) K
 rw [hs]
 exact this.trans h
theorem to_agg {b0 b1 : Blk} {ts cty : List Nat} {cs z z0 z' : List AV} {o t g w : Nat} {cells : List AV} {K : Heap → Option β} {r : Option β} (hr : rdCells (FrB b0 b1 ts cs z) 0 o w = some cells) (hh : plainF g = false) (hfl : cells.all isFl = true) (ht : tree E0 n t g [.agg cells] = some (.agg cells)) (hty : ∃ i, ti0 t = some i ∧ i.cty = cty) (hw : cells.length = w) (hl : ts.length = cs.length) (ho : o = cs.length) (hz : z = z0 ++ z') (hz0 : z0.length = w)
  (h : K (FrB b0 b1 (ts ++ cty) (cs ++ cells) z') = r) :
  (pFadr o (.ptr 0 0) fun t4 => pLoad true w t4 (FrB b0 b1 ts cs z) fun t5 => (PR n β).call t (.fn g [] []) [t5] (FrB b0 b1 ts cs z) fun t9 H => pFadr o (.ptr 2 0) fun t6 => pStore w t6 t9 H fun H => K H) = r := by
 subst hz
 obtain ⟨i, hi, rfl⟩ := hty
 simp only [pFadr, Nat.zero_add]
 rw [ldT hr, PR_call (vs := [.agg cells]) hh (by rw [List.mapM_cons, (Vw_agg _ hfl).now]; rfl) ht]
 have hH : (FrB b0 b1 ts cs (z0 ++ z')).length = 3 + (instL ti0 E0.tp 3 ts cs).2.length := by simp [FrB]; omega
 rw [hH, instT_agg, hi, Option.getD_some]
 have hleaf := instL_leaf (ti := ti0) (tp := E0.tp) cells (3 + (instL ti0 E0.tp 3 ts cs).2.length) i.cty hfl
 have hlen := instL_len (ti := ti0) (tp := E0.tp) (3 + (instL ti0 E0.tp 3 ts cs).2.length) i.cty cells
 have := fr_put (β := β) (b0 := b0) (b1 := b1) (ts := ts) (cs := cs) (z0 := z0) (z := z') (w := w) (o := o) (y := .agg (instL ti0 E0.tp (3 + (instL ti0 E0.tp 3 ts cs).2.length) i.cty cells).1) (ys := (instL ti0 E0.tp (3 + (instL ti0 E0.tp 3 ts cs).2.length) i.cty cells).1) (ts' := i.cty) (cs' := cells) (B := (instL ti0 E0.tp (3 + (instL ti0 E0.tp 3 ts cs).2.length) i.cty cells).2) hl ho hz0 (by
  show (if _ then _ else none) = _
  rw [if_pos hleaf]) (by rw [hlen, hw]) rfl K
 exact this.trans h
theorem to_end {b0 : Blk} {z1 cells : List AV} {cty : List Nat} {w ty : Nat} (hw : cells.length = w) (hz : z1.length = w) (hfl : cells.all isFl = true) (hty : ∃ i, ti0 ty = some i ∧ i.cty = cty) (hok : okLW (okW ti0 E0.tp 7) cty cells) :
  (pLoad true w (.ptr 2 0) (FrB b0 ⟨z1, true, true⟩ cty cells []) fun t14 => pStore w (.ptr 1 0) t14 (FrB b0 ⟨z1, true, true⟩ cty cells []) fun H => pLoad true w (.ptr 1 0) H fun r0 => ownTree ti0 E0.tp ty H r0) = some (.agg cells) := by
 obtain ⟨i, hi, rfl⟩ := hty
 have hlen := instL_len (ti := ti0) (tp := E0.tp) 3 i.cty cells
 have hleaf := instL_leaf (ti := ti0) (tp := E0.tp) cells 3 i.cty hfl
 have h1 : rdCells (FrB b0 ⟨z1, true, true⟩ i.cty cells []) 2 0 w = some (instL ti0 E0.tp 3 i.cty cells).1 := by
  simp [rdCells, FrB, hlen, hw, List.take_of_length_le]
 rw [ldT h1]
 have hc : cellsA (.agg (instL ti0 E0.tp 3 i.cty cells).1) = some (instL ti0 E0.tp 3 i.cty cells).1 := by
  show (if _ then _ else none) = _
  rw [if_pos hleaf]
 rw [st_at w 1 0 _ ⟨z1, true, true⟩ _ _ _ rfl hc (by rw [hlen, hw]) (by simp [hz]) rfl]
 have hs : splice z1 0 (instL ti0 E0.tp 3 i.cty cells).1 = (instL ti0 E0.tp 3 i.cty cells).1 := by
  unfold splice
  rw [List.take_zero, List.nil_append, List.drop_of_length_le (by rw [hlen, hw, hz]; omega), List.append_nil]
 simp only [hs]
 have h2 : rdCells ((FrB b0 ⟨z1, true, true⟩ i.cty cells []).set 1 ⟨(instL ti0 E0.tp 3 i.cty cells).1, true, true⟩) 1 0 w = some (instL ti0 E0.tp 3 i.cty cells).1 := by
  simp [rdCells, FrB, hlen, hw, List.take_of_length_le]
 rw [ldT h2]
 have hok' : okW ti0 E0.tp 8 ty (.agg cells) := ⟨i, hi, hok⟩
 have := own_ret [b0, ⟨(instL ti0 E0.tp 3 i.cty cells).1, true, true⟩, ⟨(instL ti0 E0.tp 3 i.cty cells).1 ++ [], true, true⟩] ty _ hok'
 rw [instT_agg, hi] at this
 exact this
noncomputable def StB (T : List Nat) (C Z : List AV) (o : Nat) : Heap := FrB ⟨C, true, true⟩ ⟨Z, true, true⟩ (T.take o) (C.take o) (Z.drop o)
theorem StB_rd {T : List Nat} {C Z : List AV} {o p w : Nat} {cs : List AV} (h : (C.drop p).take w = cs) (hl : cs.length = w) (hw : 0 < w) : rdCells (StB T C Z o) 0 p w = some cs := by
 have hle : p + w ≤ C.length := by
  have := congrArg List.length h
  rw [hl, List.length_take, List.length_drop] at this
  omega
 show (match (some ⟨C, true, true⟩ : Option Blk) with | some b => if b.live then (if p + w ≤ b.cells.length then some ((b.cells.drop p).take w) else none) else none | none => none) = _
 simp only [if_true, hle, h]
theorem one_of {C : List AV} {o : Nat} {c : AV} (h : C[o]? = some c) : (C.drop o).take 1 = [c] := by
 obtain ⟨hlt, e⟩ := List.getElem?_eq_some_iff.1 h
 rw [List.drop_eq_getElem_cons hlt, e]
 rfl
theorem take_w {α : Type} {T : List α} {o w o' : Nat} {c : List α} (h : (T.drop o).take w = c) (ho : o' = o + w) : T.take o' = T.take o ++ c := by
 rw [ho, List.take_add, h]
theorem st_sc {T : List Nat} {C Z : List AV} {o o' : Nat} {v : Value} {K : Heap → Option β} {r : Option β} (hT : T.length = C.length) (hZ : Z.length = C.length) (hC : C[o]? = some (.sc v)) (hv : leafV v = true) (ho : o' = o + 1) (h : K (StB T C Z o') = r) :
  (pFadr o (.ptr 0 0) fun t4 => pLoad false 1 t4 (StB T C Z o) fun t5 => pFadr o (.ptr 2 0) fun t6 => pStore 1 t6 t5 (StB T C Z o) fun H => K H) = r := by
 obtain ⟨hlt, _⟩ := List.getElem?_eq_some_iff.1 hC
 have hz : Z.drop o = Z[o]'(by omega) :: Z.drop o' := by rw [ho]; exact List.drop_eq_getElem_cons _
 refine to_sc (t := T[o]'(by omega)) (z' := Z.drop o') (StB_rd (one_of hC) rfl (by decide)) hv (by simp [hT]) (by simp; omega) hz ?_
 have e1 : T.take o' = T.take o ++ [T[o]'(by omega)] := take_w (w := 1) (by rw [List.drop_eq_getElem_cons (by omega)]; rfl) ho
 have e2 : C.take o' = C.take o ++ [.sc v] := take_w (one_of hC) ho
 rw [← e1, ← e2]
 exact h
theorem st_ro {T : List Nat} {C Z : List AV} {o o' t g len : Nat} {cells : List AV} {K : Heap → Option β} {r : Option β} (hT : T.length = C.length) (hZ : Z.length = C.length) (hC : C[o]? = some (.ro len cells)) (hTt : T[o]? = some t) (hh : plainF g = false) (ht : tree E0 n t g [.ro len cells] = some (.ro len cells)) (ho : o' = o + 1) (h : K (StB T C Z o') = r) :
  (pFadr o (.ptr 0 0) fun t4 => pLoad false 1 t4 (StB T C Z o) fun t5 => (PR n β).call t (.fn g [] []) [t5] (StB T C Z o) fun t9 H => pFadr o (.ptr 2 0) fun t6 => pStore 1 t6 t9 H fun H => K H) = r := by
 obtain ⟨hlt, _⟩ := List.getElem?_eq_some_iff.1 hC
 obtain ⟨hlt2, hTe⟩ := List.getElem?_eq_some_iff.1 hTt
 have hz : Z.drop o = Z[o]'(by omega) :: Z.drop o' := by rw [ho]; exact List.drop_eq_getElem_cons _
 refine to_ro (z' := Z.drop o') (StB_rd (one_of hC) rfl (by decide)) hh ht (by simp [hT]) (by simp; omega) hz ?_
 have e1 : T.take o' = T.take o ++ [t] := take_w (w := 1) (by rw [List.drop_eq_getElem_cons hlt2, hTe]; rfl) ho
 have e2 : C.take o' = C.take o ++ [.ro len cells] := take_w (one_of hC) ho
 rw [← e1, ← e2]
 exact h
theorem st_agg {T cty : List Nat} {C Z : List AV} {o o' t g w : Nat} {cells : List AV} {K : Heap → Option β} {r : Option β} (hT : T.length = C.length) (hZ : Z.length = C.length) (hC : (C.drop o).take w = cells) (hTt : (T.drop o).take w = cty) (hh : plainF g = false) (hfl : cells.all isFl = true) (ht : tree E0 n t g [.agg cells] = some (.agg cells)) (hty : ∃ i, ti0 t = some i ∧ i.cty = cty) (hw : cells.length = w) (hw0 : 0 < w) (ho : o' = o + w) (h : K (StB T C Z o') = r) :
  (pFadr o (.ptr 0 0) fun t4 => pLoad true w t4 (StB T C Z o) fun t5 => (PR n β).call t (.fn g [] []) [t5] (StB T C Z o) fun t9 H => pFadr o (.ptr 2 0) fun t6 => pStore w t6 t9 H fun H => K H) = r := by
 have hle : o + w ≤ C.length := by
  have := congrArg List.length hC
  rw [hw, List.length_take, List.length_drop] at this
  omega
 have hz : Z.drop o = (Z.drop o).take w ++ Z.drop o' := by
  rw [ho]
  conv => lhs; rw [← List.take_append_drop w (Z.drop o)]
  rw [List.drop_drop]
 refine to_agg (z0 := (Z.drop o).take w) (z' := Z.drop o') (StB_rd hC hw hw0) hh hfl ht hty hw (by simp [hT]) (by simp; omega) hz (by simp; omega) ?_
 have e1 : T.take o' = T.take o ++ cty := take_w hTt ho
 have e2 : C.take o' = C.take o ++ cells := take_w hC ho
 rw [← e1, ← e2]
 exact h
theorem st_end {T : List Nat} {C Z : List AV} {w ty : Nat} (hT : T.length = C.length) (hZ : Z.length = C.length) (hw : C.length = w) (hfl : C.all isFl = true) (hty : ∃ i, ti0 ty = some i ∧ i.cty = T) (hok : okLW (okW ti0 E0.tp 7) T C) :
  (pLoad true w (.ptr 2 0) (StB T C Z w) fun t14 => pStore w (.ptr 1 0) t14 (StB T C Z w) fun H => pLoad true w (.ptr 1 0) H fun r0 => ownTree ti0 E0.tp ty H r0) = some (.agg C) := by
 have e : StB T C Z w = FrB ⟨C, true, true⟩ ⟨Z, true, true⟩ T C [] := by
  unfold StB
  rw [List.take_of_length_le (by omega), List.take_of_length_le (by omega), List.drop_of_length_le (by omega)]
 rw [e]
 exact to_end hw (by omega) hfl hty hok
theorem eq_sc {o : Nat} {H : Heap} {v : Value} {A K r : Option β} (h0 : rdCells H 0 o 1 = some [.sc v]) (h1 : rdCells H 1 o 1 = some [.sc v]) (hv : ∀ k : AV → Option β, pBin .neq (.sc v) (.sc v) k = k (.sc (.bool false))) (h : K = r) :
  (pFadr o (.ptr 0 0) fun t5 => pLoad false 1 t5 H fun t6 => pFadr o (.ptr 1 0) fun t7 => pLoad false 1 t7 H fun t8 => pBin .neq t6 t8 fun t9 => pCond t9 A K) = r := by
 simp only [pFadr, Nat.zero_add]
 rw [ldF h0, ldF h1, hv, cond_b]
 exact h
theorem eq_b {o : Nat} {H : Heap} {b : Bool} {A K r : Option β} (h0 : rdCells H 0 o 1 = some [.sc (.bool b)]) (h1 : rdCells H 1 o 1 = some [.sc (.bool b)]) (h : K = r) :
  (pFadr o (.ptr 0 0) fun t5 => pLoad false 1 t5 H fun t6 => pFadr o (.ptr 1 0) fun t7 => pLoad false 1 t7 H fun t8 => pBinB .neq t6 t8 fun t9 => pCond t9 A K) = r := by
 simp only [pFadr, Nat.zero_add]
 rw [ldF h0, ldF h1]
 simp only [pBinB, asB, Option.bind_some, binB, beq_self_eq_true, Bool.not_true]
 exact h
theorem eq_ro {o tb g : Nat} {H : Heap} {len : Nat} {cells : List AV} {A : Heap → Option β} {K : Heap → Option β} {r : Option β} (h0 : rdCells H 0 o 1 = some [.ro len cells]) (h1 : rdCells H 1 o 1 = some [.ro len cells]) (hh : plainF g = false) (ht : tree E0 n tb g [.ro len cells, .ro len cells] = some (.sc (.bool true))) (h : K H = r) :
  (pFadr o (.ptr 0 0) fun t5 => pLoad false 1 t5 H fun t6 => pFadr o (.ptr 1 0) fun t7 => pLoad false 1 t7 H fun t8 => (PR n β).call tb (.fn g [] []) [t6, t8] H fun t H => pUn .not t fun t9 => pCond t9 (A H) (K H)) = r := by
 simp only [pFadr, Nat.zero_add]
 rw [ldF h0, ldF h1, PR_call (vs := [.ro len cells, .ro len cells]) hh (by simp only [List.mapM_cons, viewV_ro]; rfl) ht, instT_sc, List.append_nil]
 exact h
theorem eq_agg {o tb g w : Nat} {H : Heap} {cells : List AV} {A : Heap → Option β} {K : Heap → Option β} {r : Option β} (h0 : rdCells H 0 o w = some cells) (h1 : rdCells H 1 o w = some cells) (hh : plainF g = false) (hfl : cells.all isFl = true) (ht : tree E0 n tb g [.agg cells, .agg cells] = some (.sc (.bool true))) (h : K H = r) :
  (pFadr o (.ptr 0 0) fun t5 => pLoad true w t5 H fun t6 => pFadr o (.ptr 1 0) fun t7 => pLoad true w t7 H fun t8 => (PR n β).call tb (.fn g [] []) [t6, t8] H fun t H => pUn .not t fun t9 => pCond t9 (A H) (K H)) = r := by
 simp only [pFadr, Nat.zero_add]
 rw [ldT h0, ldT h1, PR_call (vs := [.agg cells, .agg cells]) hh (by simp only [List.mapM_cons, (Vw_agg _ hfl).now]; rfl) ht, instT_sc, List.append_nil]
 exact h
theorem ne_int (z : Int) (k : AV → Option β) : pBin .neq (.sc (.int .i64 z)) (.sc (.int .i64 z)) k = k (.sc (.bool false)) := by
 show k (.sc (.bool (z != z))) = _
 rw [bne_self_eq_false]
theorem ne_str (s : ByteArray) (k : AV → Option β) : pBin .neq (.sc (.string s)) (.sc (.string s)) k = k (.sc (.bool false)) := by
 show k (.sc (.bool (!(s.toList == s.toList)))) = _
 rw [beq_self_eq_true, Bool.not_true]
theorem ne_u8 (z : Int) (k : AV → Option β) : pBin .neq (.sc (.int .u8 z)) (.sc (.int .u8 z)) k = k (.sc (.bool false)) := by
 show k (.sc (.bool (z != z))) = _
 rw [bne_self_eq_false]
def szA (W : Nat) (left : Int) : Option AV := some (.sc (.int .i64 (szR W left)))
theorem szR_cut {s W : Nat} {left : Int} (h : left < s) : szR (s + W) left = -1 := by rw [szR, if_pos]; omega
theorem szR_go {s W : Nat} {left : Int} (h : ¬ left < s) : szR (s + W) left = szR W (left - s) := by
 unfold szR
 by_cases h2 : left < ((s + W : Nat) : Int)
 ·rw [if_pos h2, if_pos (by omega)]
 ·rw [if_neg h2, if_neg (by omega)]; omega
theorem sz_str {o : Nat} {H : Heap} {s : ByteArray} {W : Nat} {left : Int} {A : Option AV} {K : AV → Option AV} (hr : rdCells H 0 o 1 = some [.sc (.string s)]) (h0 : 0 ≤ left) (h1 : left ≤ 1048576) (hs : s.size ≤ 9223372036854775807) (hA : A = some (.sc (.int .i64 (-1)))) (hK : 0 ≤ left - s.size → left - s.size ≤ 1048576 → K (.sc (.int .i64 (left - s.size))) = szA W (left - s.size)) :
  (pFadr o (.ptr 0 0) fun t6 => pLoad false 1 t6 H fun t7 => pLenS t7 fun t8 => pBin .sub (.sc (.int .i64 left)) t8 fun t9 => pBin .lss t9 (.sc (.int .i64 0)) fun t11 => pCond t11 A (K t9)) = szA (s.size + W) left := by
 simp only [pFadr, Nat.zero_add]
 rw [ldF hr]
 simp only [pLenS, asS, Option.bind_some]
 rw [sub64 _ _ _ (by omega) (by omega), lss64, cond_b]
 by_cases h : left < s.size
 ·rw [if_pos (by simpa using (show left - (s.size : Int) < 0 by omega)), hA, szA, szR_cut h]
 ·rw [if_neg (by simpa using (show ¬ left - (s.size : Int) < 0 by omega)), hK (by omega) (by omega), szA, szA, szR_go h]
theorem sz_ro {o ty g : Nat} {H : Heap} {len : Nat} {cells : List AV} {w W : Nat} {left : Int} {A : Heap → Option AV} {K : AV → Heap → Option AV} (hr : rdCells H 0 o 1 = some [.ro len cells]) (h0 : 0 ≤ left) (h1 : left ≤ 1048576) (hh : plainF g = false) (ht : tree E0 n ty g [.ro len cells, .sc (.int .i64 left)] = some (.sc (.int .i64 (szR w left)))) (hA : A H = some (.sc (.int .i64 (-1)))) (hK : 0 ≤ left - w → left - w ≤ 1048576 → K (.sc (.int .i64 (left - w))) H = szA W (left - w)) :
  (pFadr o (.ptr 0 0) fun t6 => pLoad false 1 t6 H fun t7 => (PR n AV).call ty (.fn g [] []) [t7, .sc (.int .i64 left)] H fun t15 H => pBin .lss t15 (.sc (.int .i64 0)) fun t11 => pCond t11 (A H) (K t15 H)) = szA (w + W) left := by
 simp only [pFadr, Nat.zero_add]
 rw [ldF hr, PR_call (vs := [.ro len cells, .sc (.int .i64 left)]) hh (by simp only [List.mapM_cons, viewV_ro, viewV_sc]; rfl) ht, instT_sc, List.append_nil]
 simp only
 rw [lss64, cond_b]
 by_cases h : left < w
 ·have e : szR w left = -1 := by rw [szR, if_pos h]
  rw [e, if_pos (by decide), hA, szA, szR_cut h]
 ·have e : szR w left = left - w := by rw [szR, if_neg h]
  rw [e, if_neg (by simpa using (show ¬ left - (w : Int) < 0 by omega)), hK (by omega) (by omega), szA, szA, szR_go h]
theorem sz_agg {o ty g wd : Nat} {H : Heap} {cells : List AV} {w W : Nat} {left : Int} {A : Heap → Option AV} {K : AV → Heap → Option AV} (hr : rdCells H 0 o wd = some cells) (h0 : 0 ≤ left) (h1 : left ≤ 1048576) (hh : plainF g = false) (hfl : cells.all isFl = true) (ht : tree E0 n ty g [.agg cells, .sc (.int .i64 left)] = some (.sc (.int .i64 (szR w left)))) (hA : A H = some (.sc (.int .i64 (-1)))) (hK : 0 ≤ left - w → left - w ≤ 1048576 → K (.sc (.int .i64 (left - w))) H = szA W (left - w)) :
  (pFadr o (.ptr 0 0) fun t6 => pLoad true wd t6 H fun t7 => (PR n AV).call ty (.fn g [] []) [t7, .sc (.int .i64 left)] H fun t15 H => pBin .lss t15 (.sc (.int .i64 0)) fun t11 => pCond t11 (A H) (K t15 H)) = szA (w + W) left := by
 simp only [pFadr, Nat.zero_add]
 rw [ldT hr, PR_call (vs := [.agg cells, .sc (.int .i64 left)]) hh (by simp only [List.mapM_cons, (Vw_agg _ hfl).now, viewV_sc]; rfl) ht, instT_sc, List.append_nil]
 simp only
 rw [lss64, cond_b]
 by_cases h : left < w
 ·have e : szR w left = -1 := by rw [szR, if_pos h]
  rw [e, if_pos (by decide), hA, szA, szR_cut h]
 ·have e : szR w left = left - w := by rw [szR, if_neg h]
  rw [e, if_neg (by simpa using (show ¬ left - (w : Int) < 0 by omega)), hK (by omega) (by omega), szA, szA, szR_go h]
theorem sz_end {left : Int} (h0 : 0 ≤ left) : some (AV.sc (.int .i64 left)) = szA 0 left := by
 rw [szA, szR, if_neg (by omega)]
 simp
abbrev bytesC (s : ByteArray) : AV := .ro s.size (bytesAV s)
abbrev intsC (l : List Int) : AV := .ro l.length (l.map fun z => .sc (.int .i64 z))
abbrev strsC (l : List ByteArray) : AV := .ro l.length (l.map fun s => .sc (.string s))
abbrev rowsC {α : Type} (enc : α → List AV) (l : List α) : AV := .ro l.length (l.map enc).flatten
def okI (z : Int) : Prop := -9223372036854775808 ≤ z ∧ z ≤ 9223372036854775807
def okS (s : ByteArray) : Prop := s.size ≤ 9223372036854775807
theorem okLW_flat {f : Nat → AV → Prop} {α : Type} (e : α → Value) (hf : ∀ t v, f t (.sc v)) : ∀ (ts : List Nat) (l : List α), ts.length = l.length → okLW f ts (l.map fun x => .sc (e x))
 | [], [], _ => trivial
 | t :: ts, x :: l, h => ⟨hf _ _, okLW_flat e hf ts l (by simpa using h)⟩
 | [], _ :: _, h => by simp at h
 | _ :: _, [], h => by simp at h
theorem okW_flat {α : Type} {ty d : Nat} (e : α → Value) (hty : ∃ i j, ti0 ty = some i ∧ ti0 i.elem = some j ∧ j.size = 1 ∧ j.cty.length = 1) (l : List α) : okW ti0 E0.tp (d + 2) ty (.ro l.length (l.map fun x => .sc (e x))) := by
 obtain ⟨i, j, h1, h2, h3, h4⟩ := hty
 exact ⟨i, j, h1, h2, by simp [h3], okLW_flat e (fun _ _ => trivial) _ l (by simp [h4])⟩
theorem okW_bytes {d ty : Nat} (hty : ∃ i j, ti0 ty = some i ∧ ti0 i.elem = some j ∧ j.size = 1 ∧ j.cty.length = 1) (s : ByteArray) : okW ti0 E0.tp (d + 2) ty (bytesC s) := by
 have := okW_flat (d := d) (fun b : UInt8 => .int .u8 b.toNat) hty s.data.toList
 have e : s.data.toList.length = s.size := by simp
 rw [e] at this
 exact this
theorem okW_rows {α : Type} {ty d w : Nat} {cty : List Nat} {enc : α → List AV} (hw : ∀ x, (enc x).length = w) (hty : ∃ i j, ti0 ty = some i ∧ ti0 i.elem = some j ∧ j.size = w ∧ j.cty = cty) (he : ∀ x, okLW (okW ti0 E0.tp d) cty (enc x)) (l : List α) : okW ti0 E0.tp (d + 1) ty (rowsC enc l) := by
 obtain ⟨i, j, h1, h2, h3, rfl⟩ := hty
 exact ⟨i, j, h1, h2, by rw [rows_len hw, h3], okLW_rows l fun x _ => he x⟩
theorem okT_rows {α : Type} {enc : α → List AV} {ok : α → Prop} {n t e : Nat} {cs : List AV} (hi : ∃ i, ti0 t = some i ∧ i.isB = false ∧ i.ik = none ∧ i.isStr = false ∧ i.sl = true ∧ i.elem = e) (hel : ∀ n cs, okT ti0 n e cs → ∃ x, cs = enc x ∧ ok x) (h : okT ti0 n t cs) :
  ∃ l : List α, cs = [rowsC enc l] ∧ l.length ≤ 9223372036854775807 ∧ ∀ x ∈ l, ok x := by
 cases n with
 | zero => cases h
 | succ n =>
  obtain ⟨i, h1, h2, h3, h4, h5, rfl⟩ := hi
  obtain ⟨i', hi', h⟩ := h
  rw [h1] at hi'
  obtain rfl := Option.some.inj hi'
  simp only [h2, h3, h4, h5] at h
  obtain ⟨rows, rfl, hl, hr⟩ := h
  have hm : maxLen = 9223372036854775807 := by decide
  rw [hm] at hl
  have key : ∀ rows : List (List AV), (∀ r ∈ rows, okT ti0 n i.elem r) → ∃ l : List α, rows = l.map enc ∧ ∀ x ∈ l, ok x := by
   intro rows
   induction rows with
   | nil => intro _; exact ⟨[], rfl, fun x h => by cases h⟩
   | cons r rows ih =>
    intro h
    obtain ⟨l, h1, h2⟩ := ih fun r hr => h r (List.mem_cons_of_mem _ hr)
    obtain ⟨x, hx, hox⟩ := hel n r (h r List.mem_cons_self)
    exact ⟨x :: l, by rw [h1, hx]; rfl, fun y hy => by rcases List.mem_cons.1 hy with rfl | hy; exact hox; exact h2 y hy⟩
  obtain ⟨l, rfl, h2⟩ := key rows hr
  exact ⟨l, by simp, by simpa using hl, h2⟩
theorem okT_str' {n : Nat} {cs : List AV} (h : okT ti0 n 9 cs) : ∃ s : ByteArray, cs = [.sc (.string s)] ∧ okS s := by
 cases n with
 | zero => cases h
 | succ n =>
  obtain ⟨i, hi, h⟩ := h
  obtain rfl := Option.some.inj (show some _ = some i from hi)
  have hm : maxLen = 9223372036854775807 := by decide
  obtain ⟨s, h1, h2⟩ := (show ∃ s : ByteArray, cs = [.sc (.string s)] ∧ s.size ≤ maxLen from h)
  exact ⟨s, h1, by rw [hm] at h2; exact h2⟩
theorem okT_int' {n : Nat} {cs : List AV} (h : okT ti0 n 3 cs) : ∃ z : Int, cs = [.sc (.int .i64 z)] ∧ okI z := by
 cases n with
 | zero => cases h
 | succ n =>
  obtain ⟨i, hi, h⟩ := h
  obtain rfl := Option.some.inj (show some _ = some i from hi)
  obtain ⟨z, h1, h2⟩ := (show ∃ z, cs = [.sc (.int .i64 z)] ∧ (Lit.int .i64 z).wf = true from h)
  refine ⟨z, h1, ?_⟩
  have hw' : IntKind.i64.min ≤ z ∧ z ≤ IntKind.i64.max := by simpa [Lit.wf] using h2
  have e1 : IntKind.i64.min = -9223372036854775808 := by decide
  have e2 : IntKind.i64.max = 9223372036854775807 := by decide
  rw [e1, e2] at hw'
  exact hw'
theorem okT_bool' {n : Nat} {cs : List AV} (h : okT ti0 n 4 cs) : ∃ b : Bool, cs = [.sc (.bool b)] := by
 cases n with
 | zero => cases h
 | succ n =>
  obtain ⟨i, hi, h⟩ := h
  obtain rfl := Option.some.inj (show some _ = some i from hi)
  exact h
theorem okT_byte' {n : Nat} {cs : List AV} (h : okT ti0 n 5 cs) : ∃ b : UInt8, cs = [.sc (.int .u8 b.toNat)] := by
 cases n with
 | zero => cases h
 | succ n =>
  obtain ⟨i, hi, h⟩ := h
  obtain rfl := Option.some.inj (show some _ = some i from hi)
  obtain ⟨z, rfl, hw⟩ := (show ∃ z, cs = [.sc (.int .u8 z)] ∧ (Lit.int .u8 z).wf = true from h)
  have hz : 0 ≤ z ∧ z < 256 := by
   have hw' : IntKind.u8.min ≤ z ∧ z ≤ IntKind.u8.max := by simpa [Lit.wf] using hw
   have e1 : IntKind.u8.min = 0 := by decide
   have e2 : IntKind.u8.max = 255 := by decide
   rw [e1, e2] at hw'
   omega
  refine ⟨UInt8.ofNat z.toNat, ?_⟩
  have : (UInt8.ofNat z.toNat).toNat = z.toNat := by simp [UInt8.toNat_ofNat']; omega
  rw [this, Int.toNat_of_nonneg hz.1]
theorem flat_one {α : Type} (e : α → AV) (l : List α) : (l.map fun x => [e x]).flatten = l.map e := by
 induction l with
 | nil => rfl
 | cons x l ih => rw [List.map_cons, List.flatten_cons, ih]; rfl
theorem okT_bytes' {n t : Nat} {cs : List AV} (hi : ∃ i, ti0 t = some i ∧ i.isB = false ∧ i.ik = none ∧ i.isStr = false ∧ i.sl = true ∧ i.elem = 5) (h : okT ti0 n t cs) : ∃ s : ByteArray, cs = [bytesC s] ∧ okS s := by
 obtain ⟨l, rfl, h1, _⟩ := okT_rows (α := UInt8) (enc := fun b => [.sc (.int .u8 b.toNat)]) (ok := fun _ => True) hi (fun n cs h => by obtain ⟨b, h⟩ := okT_byte' h; exact ⟨b, h, trivial⟩) h
 refine ⟨⟨l.toArray⟩, ?_, ?_⟩
 ·rw [rowsC, flat_one]
  simp [bytesC, bytesAV]
  rfl
 ·exact h1
theorem okT_ints' {n t : Nat} {cs : List AV} (hi : ∃ i, ti0 t = some i ∧ i.isB = false ∧ i.ik = none ∧ i.isStr = false ∧ i.sl = true ∧ i.elem = 3) (h : okT ti0 n t cs) : ∃ l : List Int, cs = [intsC l] ∧ l.length ≤ 9223372036854775807 ∧ ∀ z ∈ l, okI z := by
 obtain ⟨l, rfl, h1, h2⟩ := okT_rows (α := Int) (enc := fun z => [.sc (.int .i64 z)]) (ok := okI) hi (fun n cs h => okT_int' h) h
 exact ⟨l, by rw [rowsC, flat_one], h1, h2⟩
theorem okT_strs' {n t : Nat} {cs : List AV} (hi : ∃ i, ti0 t = some i ∧ i.isB = false ∧ i.ik = none ∧ i.isStr = false ∧ i.sl = true ∧ i.elem = 9) (h : okT ti0 n t cs) : ∃ l : List ByteArray, cs = [strsC l] ∧ l.length ≤ 9223372036854775807 ∧ ∀ s ∈ l, okS s := by
 obtain ⟨l, rfl, h1, h2⟩ := okT_rows (α := ByteArray) (enc := fun s => [.sc (.string s)]) (ok := okS) hi (fun n cs h => okT_str' h) h
 exact ⟨l, by rw [rowsC, flat_one], h1, h2⟩
theorem okT_struct {n t : Nat} {cs : List AV} {fs : List (Nat × Nat)} (hi : ∃ i, ti0 t = some i ∧ i.isB = false ∧ i.ik = none ∧ i.isStr = false ∧ i.sl = false ∧ i.isAgg = true ∧ i.fields = fs) (h : okT ti0 n t cs) : ∃ m, okFs (okT ti0 m) fs cs := by
 cases n with
 | zero => cases h
 | succ n =>
  obtain ⟨i, h1, h2, h3, h4, h5, h6, rfl⟩ := hi
  obtain ⟨i', hi', h⟩ := h
  rw [h1] at hi'
  obtain rfl := Option.some.inj hi'
  simp only [h2, h3, h4, h5, h6] at h
  exact ⟨n, h⟩
end Go.Proofs.YtejjggnchdldoaaDoor.Abs
set_option linter.unusedVariables false
set_option linter.unusedSimpArgs false
namespace Go.Proofs.YtejjggnchdldoaaDoor.Abs
open Go
variable {β : Type} {n : Nat} {H : Heap} {r : Option β}
theorem vnil : ([] : List AV).mapM (viewV H 8) = some [] := rfl
theorem vcons {x v : AV} {xs vs : List AV} (h : Vw H x v) (hs : xs.mapM (viewV H 8) = some vs) : (x :: xs).mapM (viewV H 8) = some (v :: vs) := by
 simp only [List.mapM_cons, h.now, hs, Option.pure_def, Option.bind_eq_bind, Option.bind_some]
theorem blk_grow {i : Nat} {b : Blk} (h : H[i]? = some b) (X : List Blk) : (H ++ X)[i]? = some b := by
 rw [List.getElem?_append_left (List.getElem?_eq_some_iff.1 h).1]
 exact h
theorem lw_box {cs : List AV} {K : AV → Heap → Option β} (hf : cs.all isFl = true) (h : ∀ i, (H ++ [⟨cs, true, true⟩])[i]? = some ⟨cs, true, true⟩ → K (.ptr i 0) (H ++ [⟨cs, true, true⟩]) = r) : pBox (.agg cs) H (fun x H => K x H) = r := by
 rw [box_fl cs H _ hf]
 exact h _ (by rw [List.getElem?_append_right (Nat.le_refl _), Nat.sub_self]; rfl)
theorem lw_ld {i w : Nat} {cs : List AV} {K : AV → Option β} (hi : H[i]? = some ⟨cs, true, true⟩) (hw : cs.length = w) (h : K (.agg cs) = r) : pLoad true w (.ptr i 0) H (fun x => K x) = r := by
 have e : rdCells H i 0 w = some cs := by
  simp only [rdCells, hi, if_true, List.drop_zero, Nat.zero_add, ← hw, Nat.le_refl, List.take_length]
 rw [ldT e]
 exact h
theorem lw_sc {ty f : Nat} {args vs : List AV} {v : Value} {K : AV → Heap → Option β} (hh : plainF f = false) (hv : args.mapM (viewV H 8) = some vs) (ht : tree E0 n ty f vs = some (.sc v)) (h : K (.sc v) H = r) : (PR n β).call ty (.fn f [] []) args H (fun x H => K x H) = r := by
 rw [PR_call hh hv ht, instT_sc, List.append_nil]
 exact h
theorem lw_tree {ty f : Nat} {args vs : List AV} {t : AV} {K : AV → Heap → Option β} (hh : plainF f = false) (hv : args.mapM (viewV H 8) = some vs) (ht : tree E0 n ty f vs = some t) (hok : okW ti0 E0.tp 8 ty t) (h : ∀ X y, Vw (H ++ X) y t → K y (H ++ X) = r) : (PR n β).call ty (.fn f [] []) args H (fun x H => K x H) = r := by
 rw [PR_call hh hv ht]
 exact h _ _ (Vw_inst H ty t hok)
theorem lw_agg {ty f : Nat} {args vs cs : List AV} {K : AV → Heap → Option β} (hh : plainF f = false) (hv : args.mapM (viewV H 8) = some vs) (ht : tree E0 n ty f vs = some (.agg cs)) (hf : cs.all isFl = true) (hok : okW ti0 E0.tp 8 ty (.agg cs)) (h : ∀ X (ys : List AV), ys.length = cs.length → ys.all isLeaf = true → Vw (H ++ X) (.agg ys) (.agg cs) → K (.agg ys) (H ++ X) = r) : (PR n β).call ty (.fn f [] []) args H (fun x H => K x H) = r := by
 rw [PR_call hh hv ht, instT_agg]
 refine h _ _ (instL_len _ _ _) (instL_leaf _ _ _ hf) ?_
 have := Vw_inst H ty (.agg cs) hok
 rwa [instT_agg] at this
theorem lw_put {w : Nat} {z ys : List AV} {K : AV → Heap → Option β} (hz : z.length = w) (hy : ys.length = w) (hl : ys.all isLeaf = true) (h : ∀ i, (H ++ [⟨ys, true, true⟩])[i]? = some ⟨ys, true, true⟩ → K (.ptr i 0) (H ++ [⟨ys, true, true⟩]) = r) :
  pNew z H (fun t H => pStore w t (.agg ys) H fun H => K t H) = r := by
 have hg : (H ++ [(⟨z, true, true⟩ : Blk)])[H.length]? = some ⟨z, true, true⟩ := by rw [List.getElem?_append_right (Nat.le_refl _), Nat.sub_self]; rfl
 have hc : cellsA (.agg ys) = some ys := by
  show (if ys.all isLeaf then some ys else none) = _
  rw [if_pos hl]
 show pStore w (.ptr H.length 0) (.agg ys) (H ++ [⟨z, true, true⟩]) _ = r
 rw [st_at w H.length 0 _ ⟨z, true, true⟩ ys _ _ hg hc hy (by rw [hz]; omega) rfl]
 have hs : splice z 0 ys = ys := by
  unfold splice
  rw [List.take_zero, List.nil_append, List.drop_of_length_le (by rw [hz, hy]; omega), List.append_nil]
 have e : (H ++ [(⟨z, true, true⟩ : Blk)]).set H.length ⟨ys, true, true⟩ = H ++ [⟨ys, true, true⟩] := by
  rw [List.set_append_right _ _ (Nat.le_refl _), Nat.sub_self]
  rfl
 simp only [hs, e]
 exact h _ (by rw [List.getElem?_append_right (Nat.le_refl _), Nat.sub_self]; rfl)
theorem lw_sz {ty f W : Nat} {args vs : List AV} {left : Int} {A : Heap → Option β} {K : AV → Heap → Option β} (hh : plainF f = false) (hv : args.mapM (viewV H 8) = some vs) (ht : tree E0 n ty f vs = some (.sc (.int .i64 (szR W left)))) (h0 : 0 ≤ left) (hA : A H = r) (h : (W : Int) ≤ left → K (.sc (.int .i64 (left - W))) H = r) :
  (PR n β).call ty (.fn f [] []) args H (fun t H => pBin .lss t (.sc (.int .i64 0)) fun t' => pCond t' (A H) (K t H)) = r := by
 rw [PR_call hh hv ht, instT_sc, List.append_nil]
 simp only
 rw [lss64, cond_b]
 by_cases hw : left < W
 ·have e : szR W left = -1 := by rw [szR, if_pos hw]
  rw [e, if_pos (by decide)]
  exact hA
 ·have e : szR W left = left - W := by rw [szR, if_neg hw]
  rw [e, if_neg (by simpa using (show ¬ left - (W : Int) < 0 by omega))]
  exact h (by omega)
theorem lw_str {s : ByteArray} {A K : Option β} (hA : A = r) (h : s.size ≤ 1048576 → K = r) : (pLenS (.sc (.string s)) fun t => pBin .gtr t (.sc (.int .i64 1048576)) fun t' => pCond t' A K) = r := by
 simp only [pLenS, asS, Option.bind_some]
 show pCond (.sc (.bool (decide ((s.size : Int) > 1048576)))) A K = r
 rw [cond_b]
 by_cases hs : s.size ≤ 1048576
 ·rw [if_neg (by simp; omega)]
  exact h hs
 ·rw [if_pos (by simp; omega)]
  exact hA
theorem lw_neb {b : Bool} {A K : Option β} (h : K = r) : (pBinB .neq (.sc (.bool b)) (.sc (.bool b)) fun t => pCond t A K) = r := by
 simp only [pBinB, asB, Option.bind_some, binB, beq_self_eq_true, Bool.not_true]
 exact h
theorem lw_nei {z : Int} {A K : Option β} (h : K = r) : (pBin .neq (.sc (.int .i64 z)) (.sc (.int .i64 z)) fun t => pCond t A K) = r := by
 rw [ne_int, cond_b]
 exact h
theorem lw_eq {ty f : Nat} {args vs : List AV} {A : Heap → Option β} {K : Heap → Option β} (hh : plainF f = false) (hv : args.mapM (viewV H 8) = some vs) (ht : tree E0 n ty f vs = some (.sc (.bool true))) (h : K H = r) : (PR n β).call ty (.fn f [] []) args H (fun t H => pUn .not t fun t' => pCond t' (A H) (K H)) = r := by
 rw [PR_call hh hv ht, instT_sc, List.append_nil]
 exact h
theorem eql64 (a b : Int) (k : AV → Option β) : pBin .eql (.sc (.int .i64 a)) (.sc (.int .i64 b)) k = k (.sc (.bool (a == b))) := rfl
theorem neq64 (a b : Int) (k : AV → Option β) : pBin .neq (.sc (.int .i64 a)) (.sc (.int .i64 b)) k = k (.sc (.bool (a != b))) := rfl
theorem leq64 (a b : Int) (k : AV → Option β) : pBin .leq (.sc (.int .i64 a)) (.sc (.int .i64 b)) k = k (.sc (.bool (decide (a ≤ b)))) := rfl
theorem gtr64 (a b : Int) (k : AV → Option β) : pBin .gtr (.sc (.int .i64 a)) (.sc (.int .i64 b)) k = k (.sc (.bool (decide (a > b)))) := rfl
theorem geq64 (a b : Int) (k : AV → Option β) : pBin .geq (.sc (.int .i64 a)) (.sc (.int .i64 b)) k = k (.sc (.bool (decide (a ≥ b)))) := rfl
theorem add64 (a b : Int) (k : AV → Option β) : pBin .add (.sc (.int .i64 a)) (.sc (.int .i64 b)) k = k (.sc (.int .i64 (IntKind.i64.wrap (a + b)))) := rfl
theorem sub64w (a b : Int) (k : AV → Option β) : pBin .sub (.sc (.int .i64 a)) (.sc (.int .i64 b)) k = k (.sc (.int .i64 (IntKind.i64.wrap (a - b)))) := rfl
theorem mul64 (a b : Int) (k : AV → Option β) : pBin .mul (.sc (.int .i64 a)) (.sc (.int .i64 b)) k = k (.sc (.int .i64 (IntKind.i64.wrap (a * b)))) := rfl
theorem eqlS (a b : ByteArray) (k : AV → Option β) : pBin .eql (.sc (.string a)) (.sc (.string b)) k = k (.sc (.bool (a.toList == b.toList))) := rfl
theorem neqS (a b : ByteArray) (k : AV → Option β) : pBin .neq (.sc (.string a)) (.sc (.string b)) k = k (.sc (.bool (!(a.toList == b.toList)))) := rfl
theorem eqlB (a b : Bool) (k : AV → Option β) : pBinB .eql (.sc (.bool a)) (.sc (.bool b)) k = k (.sc (.bool (a == b))) := rfl
theorem neqB (a b : Bool) (k : AV → Option β) : pBinB .neq (.sc (.bool a)) (.sc (.bool b)) k = k (.sc (.bool (!(a == b)))) := rfl
theorem notB (a : Bool) (k : AV → Option β) : pUn .not (.sc (.bool a)) k = k (.sc (.bool (!a))) := rfl
theorem gdT (m : (AV → Heap → Option β) → Option β) (k : AV → Heap → Option β) : pGuard (.sc (.bool true)) true H m k = m k := rfl
theorem gdF (m : (AV → Heap → Option β) → Option β) (k : AV → Heap → Option β) : pGuard (.sc (.bool false)) true H m k = k (.sc undef) H := rfl
theorem gfT (m : (AV → Heap → Option β) → Option β) (k : AV → Heap → Option β) : pGuard (.sc (.bool true)) false H m k = k (.sc undef) H := rfl
theorem gfF (m : (AV → Heap → Option β) → Option β) (k : AV → Heap → Option β) : pGuard (.sc (.bool false)) false H m k = m k := rfl
theorem pkT (a b : Value) (k : AV → Option β) : pPick (.sc (.bool true)) (.sc a) (.sc b) k = k (.sc a) := rfl
theorem pkF (a b : Value) (k : AV → Option β) : pPick (.sc (.bool false)) (.sc a) (.sc b) k = k (.sc b) := rfl
theorem fadr_p (o id off : Nat) (k : AV → Option β) : pFadr o (.ptr id off) k = k (.ptr id (off + o)) := rfl
theorem lenSc (s : ByteArray) (k : AV → Option β) : pLenS (.sc (.string s)) k = k (.sc (.int .i64 s.size)) := rfl
theorem own_v (ty : Nat) (H : Heap) (v : Value) : ownTree ti0 E0.tp ty H (.sc v) = some (.sc v) := rfl
theorem okW_agg {ty : Nat} {cty : List Nat} {cs : List AV} (hty : ∃ i, ti0 ty = some i ∧ i.cty = cty) (h : okLW (okW ti0 E0.tp 7) cty cs) : okW ti0 E0.tp 8 ty (.agg cs) := by
 obtain ⟨i, hi, rfl⟩ := hty
 exact ⟨i, hi, h⟩
end Go.Proofs.YtejjggnchdldoaaDoor.Abs
set_option linter.unusedVariables false
set_option linter.unusedSimpArgs false
namespace Go.Proofs.YtejjggnchdldoaaDoor.Abs
open Go
section
variable {β : Type} {n : Nat} {H : Heap} {r : Option β} {K : AV → Option β} {KH : AV → Heap → Option β}
theorem w_box {cs : List AV} (hf : cs.all isFl = true) (h : ∀ i, i = H.length → (H ++ [⟨cs, true, true⟩])[i]? = some ⟨cs, true, true⟩ → KH (.ptr i 0) (H ++ [⟨cs, true, true⟩]) = r) : pBox (.agg cs) H (fun x H => KH x H) = r := by
 rw [box_fl cs H _ hf]
 exact h _ rfl (by rw [List.getElem?_append_right (Nat.le_refl _), Nat.sub_self]; rfl)
theorem w_new {cs : List AV} (h : ∀ i, i = H.length → (H ++ [⟨cs, true, true⟩])[i]? = some ⟨cs, true, true⟩ → KH (.ptr i 0) (H ++ [⟨cs, true, true⟩]) = r) : pNew cs H (fun x H => KH x H) = r :=
 h _ rfl (by rw [List.getElem?_append_right (Nat.le_refl _), Nat.sub_self]; rfl)
theorem w_newSl {len sz : Nat} {cs : List AV} (h : ∀ i, i = H.length → (H ++ [⟨cs, true, true⟩])[i]? = some ⟨cs, true, true⟩ → KH (.sl i 0 len sz) (H ++ [⟨cs, true, true⟩]) = r) : pNewSl len sz cs true H (fun x H => KH x H) = r :=
 h _ rfl (by rw [List.getElem?_append_right (Nat.le_refl _), Nat.sub_self]; rfl)
theorem w_fill {zs cs : List AV} {ps : List (Nat × Nat × AV)} {KL : List AV → Option β} (hf : fillA zs ps = some cs) (h : KL cs = r) : ((fillA zs ps).bind fun c => KL c) = r := by
 rw [hf]
 exact h
theorem w_fadr {o id off : Nat} (h : K (.ptr id (off + o)) = r) : pFadr o (.ptr id off) (fun x => K x) = r := h
theorem w_fadr_rp {o : Nat} {cells : List AV} (h : K (.rp (cells.drop o)) = r) : pFadr o (.rp cells) (fun x => K x) = r := h
theorem w_ld {i off : Nat} {cs : List AV} {c : AV} (hi : H[i]? = some ⟨cs, true, true⟩) (hl : off < cs.length) (hc : (cs.drop off).take 1 = [c]) (h : K c = r) : pLoad false 1 (.ptr i off) H (fun x => K x) = r := by
 have e : rdCells H i off 1 = some [c] := by
  simp only [rdCells, hi, if_true]
  rw [if_pos (by omega), hc]
 rw [ldF e]
 exact h
theorem w_ldA {i off w : Nat} {cs ds : List AV} (hi : H[i]? = some ⟨cs, true, true⟩) (hl : off + w ≤ cs.length) (hc : (cs.drop off).take w = ds) (h : K (.agg ds) = r) : pLoad true w (.ptr i off) H (fun x => K x) = r := by
 have e : rdCells H i off w = some ds := by
  simp only [rdCells, hi, if_true]
  rw [if_pos hl, hc]
 rw [ldT e]
 exact h
theorem w_ld_rp {cells : List AV} {c : AV} (hc : cells.take 1 = [c]) (h : K c = r) : pLoad false 1 (.rp cells) H (fun x => K x) = r := by
 cases cells with
 | nil => cases hc
 | cons x xs =>
  obtain rfl : x = c := by simpa using hc
  rw [ld1_rp]
  exact h
theorem w_ldA_rp {w : Nat} {cells ds : List AV} (hl : w ≤ cells.length) (hc : cells.take w = ds) (h : K (.agg ds) = r) : pLoad true w (.rp cells) H (fun x => K x) = r := by
 simp only [pLoad, hl, if_true, hc]
 exact h
theorem w_bin {op : BinOp} {x y v : AV} (e : ∀ k : AV → Option β, pBin op x y k = k v) (h : K v = r) : pBin op x y (fun t => K t) = r := (e _).trans h
theorem w_binB {op : BinOp} {x y v : AV} (e : ∀ k : AV → Option β, pBinB op x y k = k v) (h : K v = r) : pBinB op x y (fun t => K t) = r := (e _).trans h
theorem w_binA {op : BinOp} {qs : List Nat} {x y v : AV} (e : ∀ k : AV → Option β, pBinA op qs x y k = k v) (h : K v = r) : pBinA op qs x y (fun t => K t) = r := (e _).trans h
theorem w_not {b : Bool} (h : K (.sc (.bool (!b))) = r) : pUn .not (.sc (.bool b)) (fun t => K t) = r := h
theorem w_lenS {s : ByteArray} (h : K (.sc (.int .i64 s.size)) = r) : pLenS (.sc (.string s)) (fun t => K t) = r := h
theorem w_len {m : Nat} {cs : List AV} (h : K (.sc (.int .i64 m)) = r) : pLen (.ro m cs) (fun t => K t) = r := h
theorem w_split {g : Prop} (b : Bool) (ht : b = true → g) (hf : b = false → g) : g := by
 cases h : b
 ·exact hf h
 ·exact ht h
theorem w_cT {b : Bool} {x y : Option β} (hb : b = true) (h : x = r) : pCond (.sc (.bool b)) x y = r := by subst hb; exact h
theorem w_cF {b : Bool} {x y : Option β} (hb : b = false) (h : y = r) : pCond (.sc (.bool b)) x y = r := by subst hb; exact h
theorem w_gT {b : Bool} {m : (AV → Heap → Option β) → Option β} (hb : b = true) (h : m (fun x H => KH x H) = r) : pGuard (.sc (.bool b)) true H m (fun x H => KH x H) = r := by subst hb; exact h
theorem w_gF {b : Bool} {m : (AV → Heap → Option β) → Option β} (hb : b = false) (h : KH (.sc undef) H = r) : pGuard (.sc (.bool b)) true H m (fun x H => KH x H) = r := by subst hb; exact h
theorem w_hT {b : Bool} {m : (AV → Heap → Option β) → Option β} (hb : b = false) (h : m (fun x H => KH x H) = r) : pGuard (.sc (.bool b)) false H m (fun x H => KH x H) = r := by subst hb; exact h
theorem w_hF {b : Bool} {m : (AV → Heap → Option β) → Option β} (hb : b = true) (h : KH (.sc undef) H = r) : pGuard (.sc (.bool b)) false H m (fun x H => KH x H) = r := by subst hb; exact h
theorem w_u {t : Bool} {m : (AV → Heap → Option β) → Option β} (h : KH (.sc undef) H = r) : pGuard (.sc undef) t H m (fun x H => KH x H) = r := h
theorem w_pT {b : Bool} {x y : AV} (hb : b = true) (h : K x = r) : pPick (.sc (.bool b)) x y (fun t => K t) = r := by
 subst hb
 cases x <;> cases y <;> exact h
theorem w_pF {b : Bool} {x y : AV} (hb : b = false) (h : K y = r) : pPick (.sc (.bool b)) x y (fun t => K t) = r := by
 subst hb
 cases x <;> cases y <;> exact h
def all2 {α : Type} (p : α → α → Bool) : List α → List α → Bool
 | x :: a, y :: b => if p x y then all2 p a b else false
 | _, _ => true
theorem eqv_loop {α : Type} {w : Nat} (enc : α → List AV) (hw : ∀ x, (enc x).length = w) (h0 : 0 < w) (pk : α → AV) (LOAD : AV → (AV → Option β) → Option β) (hld : ∀ x rest k, LOAD (.rp (enc x ++ rest)) k = k (pk x)) (NE : AV → AV → (AV → Option β) → Option β) (pr : α → α → Bool) (hne : ∀ x y k, NE (pk x) (pk y) k = k (.sc (.bool (!(pr x y)))))
  (l q : List α) (hlq : l.length = q.length) (hlen : l.length ≤ 1048576) (L : Nat → AV → Option β) (KF KT : Option β)
  (hL : ∀ m i, L (m + 1) i = pBin .lss i (.sc (.int .i64 l.length)) fun t14 => pCond t14 (pIadr w (rowsC enc l) i fun t19 => LOAD t19 fun t20 => pIadr w (rowsC enc q) i fun t23 => LOAD t23 fun t24 => NE t20 t24 fun t25 => pCond t25 KF (pBin .add i (.sc (.int .i64 1)) fun t16 => L m t16)) KT) :
  ∀ (s t pl pq : List α) (m : Nat), l = pl ++ s → q = pq ++ t → pl.length = pq.length → s.length < m → L m (.sc (.int .i64 pl.length)) = if all2 pr s t then KT else KF
 | [], t, pl, pq, m + 1, hl, hq, hpp, hm => by
  rw [List.append_nil] at hl
  subst hl
  rw [hL, lss_nat, cond_b]
  cases t <;> simp [all2]
 | x :: s, [], pl, pq, m + 1, hl, hq, hpp, hm => by
  have h1 := congrArg List.length hl
  have h2 := congrArg List.length hq
  simp only [List.length_append, List.length_cons, List.length_nil] at h1 h2
  omega
 | x :: s, y :: t, pl, pq, m + 1, hl, hq, hpp, hm => by
  have hlt : pl.length < l.length := by rw [hl]; simp
  rw [hL, lss_nat, cond_b, if_pos (by simpa using hlt)]
  have hel := fun k => el_ro (β := β) hw h0 pl x s k
  rw [← hl] at hel
  have heq := fun k => el_ro (β := β) hw h0 pq y t k
  rw [← hq, ← hpp] at heq
  rw [hel, hld, heq, hld, hne, cond_b, all2]
  cases hpx : pr x y
  ·simp
  ·simp only [Bool.not_true, Bool.false_eq_true, if_false, if_true]
   rw [inc_nat _ _ (by omega)]
   have ih := eqv_loop enc hw h0 pk LOAD hld NE pr hne l q hlq hlen L KF KT hL s t (pl ++ [x]) (pq ++ [y]) m (by rw [hl]; simp) (by rw [hq]; simp) (by simp [hpp]) (by simpa using hm)
   rw [List.length_append, List.length_singleton] at ih
   exact ih
def encI (z : Int) : List AV := [.sc (.int .i64 z)]
def encS (s : ByteArray) : List AV := [.sc (.string s)]
theorem ints_rows (l : List Int) : intsC l = rowsC encI l := by
 rw [rowsC, show (encI) = fun z => [AV.sc (.int .i64 z)] from rfl, flat_one]
theorem strs_rows (l : List ByteArray) : strsC l = rowsC encS l := by
 rw [rowsC, show (encS) = fun z => [AV.sc (.string z)] from rfl, flat_one]
theorem ldI (z : Int) (rest : List AV) (H : Heap) (k : AV → Option β) : pLoad false 1 (.rp (encI z ++ rest)) H k = k (.sc (.int .i64 z)) := ld1_rp _ _ _ _
theorem ldS (z : ByteArray) (rest : List AV) (H : Heap) (k : AV → Option β) : pLoad false 1 (.rp (encS z ++ rest)) H k = k (.sc (.string z)) := ld1_rp _ _ _ _
def eqI (x y : Int) : Bool := x == y
def eqSt (x y : ByteArray) : Bool := x.toList == y.toList
def eqList {α : Type} (p : α → α → Bool) (a b : List α) : Bool := if a.length = b.length then all2 p a b else false
theorem neI (x y : Int) (k : AV → Option β) : pBin .neq (.sc (.int .i64 x)) (.sc (.int .i64 y)) k = k (.sc (.bool (!(eqI x y)))) := rfl
theorem neS (x y : ByteArray) (k : AV → Option β) : pBin .neq (.sc (.string x)) (.sc (.string y)) k = k (.sc (.bool (!(eqSt x y)))) := rfl
theorem binA_ne (qs : List Nat) (cs ds : List AV) (b : Bool) (h : eqCells qs cs ds = some b) (k : AV → Option β) : pBinA .neq qs (.agg cs) (.agg ds) k = k (.sc (.bool (!b))) := by
 simp only [pBinA, h, Option.bind_some]
theorem w_merge {X : Option β} (e : Bool) {K : Bool → Option β} (h1 : ∀ b, b = e → X = K b) (h2 : ∀ b, b = e → K b = r) : X = r := (h1 e rfl).trans (h2 e rfl)
theorem w_pTb {c v b : Bool} {y : AV} (hc : c = true) (hv : v = b) (h : K (.sc (.bool b)) = r) : pPick (.sc (.bool c)) (.sc (.bool v)) y (fun t => K t) = r := by
 subst hc
 subst hv
 cases y <;> exact h
theorem w_pFb {c v b : Bool} {x : AV} (hc : c = false) (hv : v = b) (h : K (.sc (.bool b)) = r) : pPick (.sc (.bool c)) x (.sc (.bool v)) (fun t => K t) = r := by
 subst hc
 subst hv
 cases x <;> exact h
theorem mAT {b c v : Bool} (hb : b = (c && v)) (h : c = true) : v = b := by rw [hb, h]; rfl
theorem mAF {b c v : Bool} (hb : b = (c && v)) (h : c = false) : false = b := by rw [hb, h]; rfl
theorem mOT {b c v : Bool} (hb : b = (c || v)) (h : c = true) : true = b := by rw [hb, h]; rfl
theorem mOF {b c v : Bool} (hb : b = (c || v)) (h : c = false) : v = b := by rw [hb, h]; rfl
theorem w_letJ {α : Sort _} {γ : Type} {x : α} {f : α → Option γ} {r : Option γ} (h : f x = r) : letJ x f = r := h
theorem w_endB {ty : Nat} {b b' : Bool} (h : b = b') : ownTree ti0 E0.tp ty H (.sc (.bool b)) = some (.sc (.bool b')) := by subst h; rfl
theorem w_endI {ty : Nat} {b b' : Int} (h : b = b') : ownTree ti0 E0.tp ty H (.sc (.int .i64 b)) = some (.sc (.int .i64 b')) := by subst h; rfl
theorem w_iadr0 {α : Type} {w : Nat} {enc : α → List AV} {l : List α} (hw : ∀ x, (enc x).length = w) (h0 : 0 < w) (hl : 0 < l.length) (h : ∀ x t, l = x :: t → K (.rp (enc x ++ (t.map enc).flatten)) = r) : pIadr w (rowsC enc l) (.sc (.int .i64 0)) (fun t => K t) = r := by
 cases l with
 | nil => simp at hl
 | cons x t =>
  have := el_ro (β := β) hw h0 [] x t (fun t => K t)
  simp only [List.nil_append, List.length_nil, Int.natCast_zero] at this
  rw [this]
  exact h x t rfl
theorem PR_callC {ty : Nat} {f : FuncId} {caps args vs : List AV} {t : AV} {k : AV → Heap → Option β} (hh : plainF f = false) (hv : (args ++ caps).mapM (viewV H 8) = some vs) (ht : tree E0 n ty f vs = some t) :
  (PR n β).call ty (.fn f [] caps) args H k = k (instT ti0 E0.tp H.length ty t).1 (H ++ (instT ti0 E0.tp H.length ty t).2) := by
 show callF E0 (evalFn E0 n) ty f ([] ++ args ++ caps) H k = _
 simp only [callF, plain_ext hh, plain_hm hh, List.nil_append, Bool.false_eq_true, if_false, callT, hv, Option.bind_some]
 have ht : treeOf E0 (evalFn E0 n) ty f vs = some t := ht
 rw [ht]
 rfl
theorem Vw_rp (H : Heap) (cs : List AV) : Vw H (.rp cs) (.rp cs) := fun _ => rfl
def idxOf {α : Type} (p : α → Bool) : List α → Nat → Int
 | [], _ => -1
 | x :: l, i => if p x then i else idxOf p l (i + 1)
theorem index_loop {α : Type} {tb g w : Nat} {caps : List AV} (enc : α → List AV) (pr : α → Bool) (k : AV → Heap → Option β) (hw : ∀ x, (enc x).length = w) (h0 : 0 < w) (hfl : ∀ x, (enc x).all isFl = true) (hh : plainF g = false) (hcv : ∀ H, caps.mapM (viewV H 8) = some caps) (L : Nat → AV → AV → AV → AV → Heap → Option β)
  (hL : ∀ m a b c i H, L (m + 1) a b c i H = pBin .lss i c fun t9 => pCond t9 (pIadr w a i fun t14 => pLoad true w t14 H fun t15 => (PR n β).call tb b [t15] H fun t16 H => pCond t16 (k i H) (pBin .add i (.sc (.int .i64 1)) fun t18 => L m a b c t18 H)) (k (.sc (.int .i64 (-1))) H))
  (l : List α) (hp : ∀ x ∈ l, tree E0 n tb g (.agg (enc x) :: caps) = some (.sc (.bool (pr x)))) (hlen : l.length ≤ 1048576) (H : Heap) : ∀ (t pre : List α) (m : Nat), l = pre ++ t → t.length < m →
   L m (rowsC enc l) (.fn g [] caps) (.sc (.int .i64 l.length)) (.sc (.int .i64 pre.length)) H = k (.sc (.int .i64 (idxOf pr t pre.length))) H
 | [], pre, m + 1, hl, hm => by
  rw [List.append_nil] at hl
  subst hl
  rw [hL, lss_nat, cond_b]
  simp [idxOf]
 | x :: t, pre, m + 1, hl, hm => by
  have hlt : pre.length < l.length := by rw [hl]; simp
  rw [hL, lss_nat, cond_b, if_pos (by simpa using hlt)]
  have hel := fun k => el_ro (β := β) hw h0 pre x t k
  rw [← hl] at hel
  rw [hel, ld_rp w _ _ _ _ (hw x)]
  rw [PR_callC (vs := .agg (enc x) :: caps) hh (by simp only [List.cons_append, List.nil_append, List.mapM_cons, (Vw_agg _ (hfl x)).now, hcv]; rfl) (hp x (by rw [hl]; simp)), instT_sc, List.append_nil]
  simp only
  rw [cond_b, idxOf]
  cases hpx : pr x
  ·simp only [Bool.false_eq_true, if_false]
   rw [inc_nat _ _ (by omega)]
   have ih := index_loop enc pr k hw h0 hfl hh hcv L hL l hp hlen H t (pre ++ [x]) m (by rw [hl]; simp) (by simpa using hm)
   rw [List.length_append, List.length_singleton] at ih
   exact ih
  ·simp only [if_true]
theorem Vw_fn1 {i g : Nat} {cs : List AV} (hi : H[i]? = some ⟨cs, true, true⟩) (hfl : cs.all isFl = true) : Vw H (.fn g [] [.ptr i 0]) (.fn g [] [.rp cs]) := fun X => by
 have hg : (H ++ X)[i]? = some ⟨cs, true, true⟩ := blk_grow hi X
 have hr : rdCells (H ++ X) i 0 (cs.length - 0) = some cs := by
  simp only [rdCells, hg, if_true, Nat.sub_zero, Nat.zero_add, Nat.le_refl, List.drop_zero, List.take_length]
 have hp : viewV (H ++ X) 7 (.ptr i 0) = some (.rp cs) := by
  show ((H ++ X)[i]?).bind (fun b => (rdCells (H ++ X) i 0 (b.cells.length - 0)).bind fun cs => (cs.mapM (viewV (H ++ X) 6)).bind fun vs => some (AV.rp vs)) = _
  rw [hg, Option.bind_some]
  show (rdCells (H ++ X) i 0 (cs.length - 0)).bind _ = _
  rw [hr, Option.bind_some, fl_view hfl]
  rfl
 show (([] : List AV).mapM (viewV (H ++ X) 7)).bind (fun us => ([AV.ptr i 0].mapM (viewV (H ++ X) 7)).bind fun cs => some (AV.fn g us cs)) = _
 simp only [List.mapM_cons, List.mapM_nil, hp, Option.pure_def, Option.bind_eq_bind, Option.bind_some]
theorem w_boxS {v : Value} (hv : leafV v = true) (h : ∀ i, i = H.length → (H ++ [⟨[.sc v], true, true⟩])[i]? = some ⟨[.sc v], true, true⟩ → KH (.ptr i 0) (H ++ [⟨[.sc v], true, true⟩]) = r) : pBox (.sc v) H (fun x H => KH x H) = r := by
 have e : cellsA (.sc v) = some [.sc v] := by simp only [cellsA, isLeaf, hv, if_true]
 show (cellsA (.sc v)).bind _ = r
 rw [e]
 exact h _ rfl (by rw [List.getElem?_append_right (Nat.le_refl _), Nat.sub_self]; rfl)
theorem idx_s (s : ByteArray) (i : Nat) (b : UInt8) (k : AV → Option β) (h : s.data.toList[i]? = some b) : pIdx (.sc (.string s)) (.sc (.int .i64 i)) k = k (.sc (.int .u8 b.toNat)) := by
 have hlt : i < s.size := by
  have := (List.getElem?_eq_some_iff.1 h).1
  simpa using this
 have hb : s[i]'hlt = b := by
  have := (List.getElem?_eq_some_iff.1 h).2
  simp only [Array.getElem_toList] at this
  exact this
 simp only [pIdx, asI, asS, Option.bind_some, Int.toNat_natCast]
 rw [dif_pos ⟨by omega, hlt⟩, hb]
theorem slice_rows {α : Type} {w : Nat} {enc : α → List AV} (hw : ∀ x, (enc x).length = w) (l : List α) (d : Nat) (hd : d ≤ l.length) (k : AV → Option β) : pSlice w (rowsC enc l) (some (.sc (.int .i64 d))) none k = k (rowsC enc (l.drop d)) := by
 simp only [pSlice, lenA, bound, asI, Option.bind_some]
 rw [if_pos (by omega)]
 have h1 : ((l.length : Int) - d).toNat = (l.drop d).length := by rw [List.length_drop]; omega
 have h2 : ((l.map enc).flatten.drop (d * w)) = ((l.drop d).map enc).flatten := by
  have := drop_rows hw (l.take d) (l.drop d)
  rw [List.take_append_drop, List.length_take, Nat.min_eq_left hd] at this
  exact this
 rw [h1, Int.toNat_natCast, h2, ← rows_len hw, List.take_length]
theorem eqfunc_loop {α : Type} {tb g w : Nat} (enc : α → List AV) (pr : α → α → Bool) (k : AV → Heap → Option β) (hk : ∀ v H H', k (.sc v) H = k (.sc v) H') (z : List AV) (hz : z.length = w) (hw : ∀ x, (enc x).length = w) (h0 : 0 < w) (hfl : ∀ x, (enc x).all isFl = true) (hh : plainF g = false) (L : Nat → AV → AV → AV → AV → AV → Heap → Option β)
  (hL : ∀ m b f a c i H, L (m + 1) b f a c i H = pBin .lss i c fun t18 => pCond t18 (pIadr w a i fun t20 => pLoad true w t20 H fun t21 => pNew z H fun t8 H => pStore w t8 t21 H fun H => pIadr w b i fun t24 => pLoad true w t24 H fun t25 => pNew z H fun t9 H => pStore w t9 t25 H fun H => pLoad true w t8 H fun t27 => pLoad true w t9 H fun t28 => (PR n β).call tb f [t27, t28] H fun t29 H => pUn .not t29 fun t30 => pCond t30 (k (.sc (.bool false)) H) (pBin .add i (.sc (.int .i64 1)) fun t31 => L m b f a c t31 H)) (k (.sc (.bool true)) H))
  (l q : List α) (hp : ∀ x y, x ∈ l → y ∈ q → tree E0 n tb g [.agg (enc x), .agg (enc y)] = some (.sc (.bool (pr x y)))) (hlq : l.length = q.length) (hlen : l.length ≤ 1048576) : ∀ (s t pl pq : List α) (m : Nat) (H : Heap), l = pl ++ s → q = pq ++ t → pl.length = pq.length → s.length < m →
   L m (rowsC enc q) (.fn g [] []) (rowsC enc l) (.sc (.int .i64 l.length)) (.sc (.int .i64 pl.length)) H = k (.sc (.bool (all2 pr s t))) []
 | [], t, pl, pq, m + 1, H, hl, hq, hpp, hm => by
  have ht : t = [] := by
   have h1 := congrArg List.length hl
   have h2 := congrArg List.length hq
   simp only [List.length_append, List.length_nil] at h1 h2
   exact List.eq_nil_of_length_eq_zero (by omega)
  subst ht
  rw [List.append_nil] at hl
  subst hl
  rw [hL, lss_nat, cond_b]
  simp only [Nat.lt_irrefl, decide_false, Bool.false_eq_true, if_false, all2]
  exact hk _ _ _
 | x :: s, [], pl, pq, m + 1, H, hl, hq, hpp, hm => by
  have h1 := congrArg List.length hl
  have h2 := congrArg List.length hq
  simp only [List.length_append, List.length_cons, List.length_nil] at h1 h2
  omega
 | x :: s, y :: t, pl, pq, m + 1, H, hl, hq, hpp, hm => by
  have hlt : pl.length < l.length := by rw [hl]; simp
  rw [hL, lss_nat, cond_b, if_pos (by simpa using hlt)]
  have hel := fun k => el_ro (β := β) hw h0 pl x s k
  rw [← hl] at hel
  have heq := fun k => el_ro (β := β) hw h0 pq y t k
  rw [← hq, ← hpp] at heq
  rw [hel, ld_rp w _ _ _ _ (hw x)]
  refine lw_put hz (hw x) (fl_leaf (hfl x)) fun i hi => ?_
  rw [heq, ld_rp w _ _ _ _ (hw y)]
  refine lw_put hz (hw y) (fl_leaf (hfl y)) fun j hj => ?_
  replace hi := blk_grow hi [⟨enc y, true, true⟩]
  refine lw_ld hi (hw x) ?_
  refine lw_ld hj (hw y) ?_
  refine lw_sc hh (vcons (Vw_agg _ (hfl x)) (vcons (Vw_agg _ (hfl y)) vnil)) (hp x y (by rw [hl]; simp) (by rw [hq]; simp)) ?_
  rw [notB, cond_b, all2]
  cases hpx : pr x y
  ·simp only [Bool.not_false, if_true, Bool.false_eq_true, if_false]
   exact hk _ _ _
  ·simp only [Bool.not_true, Bool.false_eq_true, if_false, if_true]
   rw [inc_nat _ _ (by omega)]
   have ih := eqfunc_loop enc pr k hk z hz hw h0 hfl hh L hL l q hp hlq hlen s t (pl ++ [x]) (pq ++ [y]) m ((H ++ [⟨enc x, true, true⟩]) ++ [⟨enc y, true, true⟩]) (by rw [hl]; simp) (by rw [hq]; simp) (by simp [hpp]) (by simpa using hm)
   rw [List.length_append, List.length_singleton] at ih
   exact ih
theorem ends_loop {α : Type} {tb g w : Nat} (enc : α → List AV) (pr : α → α → Bool) (k : AV → Heap → Option β) (hw : ∀ x, (enc x).length = w) (h0 : 0 < w) (hfl : ∀ x, (enc x).all isFl = true) (hh : plainF g = false) (L : Nat → AV → AV → AV → Heap → Option β)
  (hL : ∀ m a b i H, L (m + 1) a b i H = pLen b fun t13 => pBin .lss i t13 fun t14 => pCond t14 (pLen a fun t19 => pLen b fun t21 => pBin .sub t19 t21 fun t22 => pBin .add t22 i fun t24 => pIadr w a t24 fun t25 => pLoad true w t25 H fun t26 => pIadr w b i fun t29 => pLoad true w t29 H fun t30 => (PR n β).call tb (.fn g [] []) [t26, t30] H fun t31 H => pUn .not t31 fun t32 => pCond t32 (k (.sc (.bool false)) H) (pBin .add i (.sc (.int .i64 1)) fun t16 => L m a b t16 H)) (k (.sc (.bool true)) H))
  (l q : List α) (hp : ∀ x y, x ∈ l → y ∈ q → tree E0 n tb g [.agg (enc x), .agg (enc y)] = some (.sc (.bool (pr x y)))) (hlq : q.length ≤ l.length) (hlen : l.length ≤ 1048576) (H : Heap) : ∀ (t s pq pl : List α) (m : Nat), l = pl ++ s → q = pq ++ t → pl.length = l.length - q.length + pq.length → t.length < m →
   L m (rowsC enc l) (rowsC enc q) (.sc (.int .i64 pq.length)) H = k (.sc (.bool (all2 pr s t))) H
 | [], s, pq, pl, m + 1, hl, hq, hpp, hm => by
  rw [List.append_nil] at hq
  subst hq
  have e : all2 pr s [] = true := by cases s <;> rfl
  rw [hL, len_ro, lss_nat, cond_b, e]
  simp
 | y :: t, [], pq, pl, m + 1, hl, hq, hpp, hm => by
  have h1 := congrArg List.length hl
  have h2 := congrArg List.length hq
  simp only [List.length_append, List.length_cons, List.length_nil] at h1 h2
  omega
 | y :: t, x :: s, pq, pl, m + 1, hl, hq, hpp, hm => by
  have hlt : pq.length < q.length := by rw [hq]; simp
  rw [hL, len_ro, lss_nat, cond_b, if_pos (by simpa using hlt)]
  have hel := fun k => el_ro (β := β) hw h0 pl x s k
  rw [← hl] at hel
  have heq := fun k => el_ro (β := β) hw h0 pq y t k
  rw [← hq] at heq
  have hi : ((l.length : Int) - (q.length : Int)) = ((l.length - q.length : Nat) : Int) := by omega
  have ha : (((l.length - q.length : Nat) : Int) + (pq.length : Int)) = (pl.length : Int) := by omega
  rw [len_ro, len_ro, sub64 _ _ _ (by omega) (by omega), hi, add64, ha, wrap64 _ (by omega) (by omega)]
  rw [hel, ld_rp w _ _ _ _ (hw x), heq, ld_rp w _ _ _ _ (hw y)]
  refine lw_sc hh (vcons (Vw_agg _ (hfl x)) (vcons (Vw_agg _ (hfl y)) vnil)) (hp x y (by rw [hl]; simp) (by rw [hq]; simp)) ?_
  rw [notB, cond_b, all2]
  cases hpx : pr x y
  ·simp only [Bool.not_false, if_true, Bool.false_eq_true, if_false]
  ·simp only [Bool.not_true, Bool.false_eq_true, if_false, if_true]
   rw [inc_nat _ _ (by omega)]
   have ih := ends_loop enc pr k hw h0 hfl hh L hL l q hp hlq hlen H t s (pq ++ [y]) (pl ++ [x]) m (by rw [hl]; simp) (by rw [hq]; simp) (by simp [hpp]; omega) (by simpa using hm)
   rw [List.length_append, List.length_singleton] at ih
   exact ih
theorem nT {b : Bool} (h : b = false) : (!b) = true := by rw [h]; rfl
theorem nF {b : Bool} (h : b = true) : (!b) = false := by rw [h]; rfl
end
end Go.Proofs.YtejjggnchdldoaaDoor.Abs
