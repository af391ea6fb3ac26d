/- The program's functions as plain functions over abstract values, and that the evaluator comes to them (written by gen.py). -/
import Derived.Test.YtnkelipioodhjaaProg
import Derived.Test.YtnkelipioodhjaaAbs
import Derived.KernelRfl
set_option linter.unusedVariables false
set_option linter.unusedSimpArgs false
set_option maxRecDepth 100000
namespace Go.Proofs.Ytnkelipioodhjaa.Abs
open Go
variable {β : Type}
noncomputable def tis : List (Option TI) := [none,
  none,
  none,
  some ⟨false, false, 1, 8, [(.int .i64 0)], 0, [], some .i64, false, false, [3], false⟩,
  some ⟨false, false, 1, 1, [(.bool false)], 0, [], none, false, true, [4], false⟩,
  some ⟨false, false, 1, 1, [(.int .u8 0)], 0, [], some .u8, false, false, [5], false⟩,
  none,
  none,
  none,
  some ⟨false, false, 1, 16, [(.string ⟨#[]⟩)], 0, [], none, true, false, [9], false⟩,
  none,
  none,
  none,
  none,
  none,
  none,
  none,
  none,
  none,
  none,
  none,
  none,
  none,
  none,
  none,
  none,
  none,
  none,
  none,
  none,
  none,
  none,
  none,
  some ⟨false, true, 1, 24, [(.slice none 0 0)], 5, [], none, false, false, [33], false⟩,
  none,
  none,
  none,
  none,
  some ⟨true, false, 4, 56, [(.string ⟨#[]⟩), (.slice none 0 0), (.int .i64 0), (.bool false)], 0, [(0, 9), (1, 33), (2, 3), (3, 4)], none, false, false, [9, 33, 3, 4], false⟩,
  none,
  none,
  none,
  none,
  none,
  none,
  some ⟨true, false, 4, 56, [(.string ⟨#[]⟩), (.slice none 0 0), (.int .i64 0), (.bool false)], 0, [(0, 9), (1, 33), (2, 3), (3, 4)], none, false, false, [9, 33, 3, 4], false⟩,
  none,
  none,
  none,
  none,
  none,
  some ⟨false, true, 1, 24, [(.slice none 0 0)], 154, [], none, false, false, [51], false⟩,
  some ⟨false, true, 1, 24, [(.slice none 0 0)], 9, [], none, false, false, [52], false⟩,
  some ⟨false, true, 1, 24, [(.slice none 0 0)], 3, [], none, false, false, [53], false⟩,
  none,
  some ⟨true, false, 25, 320, [(.int .i64 0), (.bool false), (.int .i64 0), (.bool false), (.int .i64 0), (.string ⟨#[]⟩), (.slice none 0 0), (.string ⟨#[]⟩), (.int .i64 0), (.bool false), (.int .i64 0), (.bool false), (.string ⟨#[]⟩), (.slice none 0 0), (.int .i64 0), (.bool false), (.bool false), (.string ⟨#[]⟩), (.bool false), (.slice none 0 0), (.int .i64 0), (.bool false), (.slice none 0 0), (.slice none 0 0), (.slice none 0 0)], 0, [(0, 3), (1, 4), (2, 3), (3, 4), (4, 3), (5, 9), (6, 33), (7, 9), (8, 3), (9, 4), (10, 3), (11, 4), (12, 9), (13, 33), (14, 3), (15, 4), (16, 4), (17, 9), (18, 4), (19, 33), (20, 3), (21, 4), (22, 51), (23, 52), (24, 53)], none, false, false, [3, 4, 3, 4, 3, 9, 33, 9, 3, 4, 3, 4, 9, 33, 3, 4, 4, 9, 4, 33, 3, 4, 51, 52, 53], false⟩,
  some ⟨false, true, 1, 24, [(.slice none 0 0)], 136, [], none, false, false, [56], false⟩,
  some ⟨false, true, 1, 24, [(.slice none 0 0)], 38, [], none, false, false, [57], false⟩,
  none,
  none,
  none,
  none,
  some ⟨false, true, 1, 24, [(.slice none 0 0)], 148, [], none, false, false, [62], false⟩,
  none,
  some ⟨true, false, 25, 320, [(.int .i64 0), (.bool false), (.int .i64 0), (.bool false), (.int .i64 0), (.string ⟨#[]⟩), (.slice none 0 0), (.string ⟨#[]⟩), (.int .i64 0), (.bool false), (.int .i64 0), (.bool false), (.string ⟨#[]⟩), (.slice none 0 0), (.int .i64 0), (.bool false), (.bool false), (.string ⟨#[]⟩), (.bool false), (.slice none 0 0), (.int .i64 0), (.bool false), (.slice none 0 0), (.slice none 0 0), (.slice none 0 0)], 0, [(0, 3), (1, 4), (2, 3), (3, 4), (4, 3), (5, 9), (6, 33), (7, 9), (8, 3), (9, 4), (10, 3), (11, 4), (12, 9), (13, 33), (14, 3), (15, 4), (16, 4), (17, 9), (18, 4), (19, 33), (20, 3), (21, 4), (22, 62), (23, 52), (24, 53)], none, false, false, [3, 4, 3, 4, 3, 9, 33, 9, 3, 4, 3, 4, 9, 33, 3, 4, 4, 9, 4, 33, 3, 4, 62, 52, 53], false⟩,
  some ⟨false, true, 1, 24, [(.slice none 0 0)], 122, [], none, false, false, [65], false⟩,
  some ⟨false, true, 1, 24, [(.slice none 0 0)], 45, [], none, false, false, [66], false⟩,
  none,
  none,
  none,
  none,
  none,
  none,
  some ⟨true, false, 40, 488, [(.int .i64 0), (.int .i64 0), (.int .i64 0), (.string ⟨#[]⟩), (.int .i64 0), (.bool false), (.int .i64 0), (.bool false), (.int .i64 0), (.string ⟨#[]⟩), (.slice none 0 0), (.string ⟨#[]⟩), (.int .i64 0), (.bool false), (.int .i64 0), (.bool false), (.string ⟨#[]⟩), (.slice none 0 0), (.int .i64 0), (.bool false), (.bool false), (.string ⟨#[]⟩), (.bool false), (.slice none 0 0), (.int .i64 0), (.bool false), (.slice none 0 0), (.slice none 0 0), (.slice none 0 0), (.int .i64 0), (.int .i64 0), (.int .i64 0), (.bool false), (.int .i64 0), (.int .i64 0), (.bool false), (.bool false), (.slice none 0 0), (.slice none 0 0), (.slice none 0 0)], 0, [(0, 3), (1, 3), (2, 3), (3, 9), (4, 55), (29, 3), (30, 3), (31, 3), (32, 4), (33, 3), (34, 3), (35, 4), (36, 4), (37, 56), (38, 53), (39, 57)], none, false, false, [3, 3, 3, 9, 3, 4, 3, 4, 3, 9, 33, 9, 3, 4, 3, 4, 9, 33, 3, 4, 4, 9, 4, 33, 3, 4, 51, 52, 53, 3, 3, 3, 4, 3, 3, 4, 4, 56, 53, 57], false⟩,
  none,
  none,
  none,
  some ⟨true, false, 40, 488, [(.int .i64 0), (.int .i64 0), (.int .i64 0), (.string ⟨#[]⟩), (.int .i64 0), (.bool false), (.int .i64 0), (.bool false), (.int .i64 0), (.string ⟨#[]⟩), (.slice none 0 0), (.string ⟨#[]⟩), (.int .i64 0), (.bool false), (.int .i64 0), (.bool false), (.string ⟨#[]⟩), (.slice none 0 0), (.int .i64 0), (.bool false), (.bool false), (.string ⟨#[]⟩), (.bool false), (.slice none 0 0), (.int .i64 0), (.bool false), (.slice none 0 0), (.slice none 0 0), (.slice none 0 0), (.int .i64 0), (.int .i64 0), (.int .i64 0), (.bool false), (.int .i64 0), (.int .i64 0), (.bool false), (.bool false), (.slice none 0 0), (.slice none 0 0), (.slice none 0 0)], 0, [(0, 3), (1, 3), (2, 3), (3, 9), (4, 64), (29, 3), (30, 3), (31, 3), (32, 4), (33, 3), (34, 3), (35, 4), (36, 4), (37, 65), (38, 53), (39, 66)], none, false, false, [3, 3, 3, 9, 3, 4, 3, 4, 3, 9, 33, 9, 3, 4, 3, 4, 9, 33, 3, 4, 4, 9, 4, 33, 3, 4, 62, 52, 53, 3, 3, 3, 4, 3, 3, 4, 4, 65, 53, 66], false⟩,
  none,
  none,
  none,
  none,
  none,
  none,
  none,
  none,
  none,
  none,
  none,
  none,
  none,
  none,
  none,
  none,
  none,
  none,
  none,
  none,
  none,
  none,
  none,
  none,
  none,
  none,
  none,
  none,
  none,
  none,
  none,
  none,
  none,
  none,
  none,
  none,
  none,
  none,
  none,
  none,
  none,
  none,
  none,
  none,
  some ⟨true, false, 3, 32, [(.string ⟨#[]⟩), (.int .i64 0), (.int .i64 0)], 0, [(0, 9), (1, 3), (2, 3)], none, false, false, [9, 3, 3], true⟩,
  none,
  none,
  none,
  none,
  none,
  none,
  none,
  none,
  none,
  none,
  none,
  none,
  none,
  some ⟨true, false, 3, 32, [(.string ⟨#[]⟩), (.int .i64 0), (.int .i64 0)], 0, [(0, 9), (1, 3), (2, 3)], none, false, false, [9, 3, 3], false⟩,
  none,
  none,
  none,
  none,
  none,
  none,
  none,
  none,
  none,
  none,
  none,
  some ⟨true, false, 2, 24, [(.string ⟨#[]⟩), (.int .i64 0)], 0, [(0, 9), (1, 3)], none, false, false, [9, 3], true⟩,
  none,
  none,
  none,
  none,
  none,
  some ⟨true, false, 2, 24, [(.string ⟨#[]⟩), (.int .i64 0)], 0, [(0, 9), (1, 3)], none, false, false, [9, 3], false⟩]
noncomputable def bodyOf (f : Func) : Code := match f.body with | some c => c | none => .skip
noncomputable def c49 : Code := bodyOf Go.Proofs.Try.f49
noncomputable def c117 : Code := bodyOf Go.Proofs.Try.f117
noncomputable def c89 : Code := bodyOf Go.Proofs.Try.f89
noncomputable def c90 : Code := bodyOf Go.Proofs.Try.f90
noncomputable def c68 : Code := bodyOf Go.Proofs.Try.f68
noncomputable def c58 : Code := bodyOf Go.Proofs.Try.f58
noncomputable def c91 : Code := bodyOf Go.Proofs.Try.f91
noncomputable def c59 : Code := bodyOf Go.Proofs.Try.f59
noncomputable def c48 : Code := bodyOf Go.Proofs.Try.f48
noncomputable def c60 : Code := bodyOf Go.Proofs.Try.f60
noncomputable def c26 : Code := bodyOf Go.Proofs.Try.f26
noncomputable def c53 : Code := bodyOf Go.Proofs.Try.f53
noncomputable def c118 : Code := bodyOf Go.Proofs.Try.f118
noncomputable def c92 : Code := bodyOf Go.Proofs.Try.f92
noncomputable def c93 : Code := bodyOf Go.Proofs.Try.f93
noncomputable def c69 : Code := bodyOf Go.Proofs.Try.f69
noncomputable def c62 : Code := bodyOf Go.Proofs.Try.f62
noncomputable def c94 : Code := bodyOf Go.Proofs.Try.f94
noncomputable def c63 : Code := bodyOf Go.Proofs.Try.f63
noncomputable def c52 : Code := bodyOf Go.Proofs.Try.f52
noncomputable def c64 : Code := bodyOf Go.Proofs.Try.f64
noncomputable def c28 : Code := bodyOf Go.Proofs.Try.f28
noncomputable def c107 : Code := bodyOf Go.Proofs.Try.f107
noncomputable def c78 : Code := bodyOf Go.Proofs.Try.f78
noncomputable def c79 : Code := bodyOf Go.Proofs.Try.f79
noncomputable def c80 : Code := bodyOf Go.Proofs.Try.f80
noncomputable def c125 : Code := bodyOf Go.Proofs.Try.f125
noncomputable def c108 : Code := bodyOf Go.Proofs.Try.f108
noncomputable def c81 : Code := bodyOf Go.Proofs.Try.f81
noncomputable def c39 : Code := bodyOf Go.Proofs.Try.f39
noncomputable def c109 : Code := bodyOf Go.Proofs.Try.f109
noncomputable def c110 : Code := bodyOf Go.Proofs.Try.f110
noncomputable def c111 : Code := bodyOf Go.Proofs.Try.f111
noncomputable def c84 : Code := bodyOf Go.Proofs.Try.f84
noncomputable def c82 : Code := bodyOf Go.Proofs.Try.f82
noncomputable def c83 : Code := bodyOf Go.Proofs.Try.f83
noncomputable def c112 : Code := bodyOf Go.Proofs.Try.f112
noncomputable def c113 : Code := bodyOf Go.Proofs.Try.f113
noncomputable def c85 : Code := bodyOf Go.Proofs.Try.f85
noncomputable def c40 : Code := bodyOf Go.Proofs.Try.f40
noncomputable def c57 : Code := bodyOf Go.Proofs.Try.f57
noncomputable def c119 : Code := bodyOf Go.Proofs.Try.f119
noncomputable def c95 : Code := bodyOf Go.Proofs.Try.f95
noncomputable def c96 : Code := bodyOf Go.Proofs.Try.f96
noncomputable def c70 : Code := bodyOf Go.Proofs.Try.f70
noncomputable def c65 : Code := bodyOf Go.Proofs.Try.f65
noncomputable def c97 : Code := bodyOf Go.Proofs.Try.f97
noncomputable def c66 : Code := bodyOf Go.Proofs.Try.f66
noncomputable def c56 : Code := bodyOf Go.Proofs.Try.f56
noncomputable def c67 : Code := bodyOf Go.Proofs.Try.f67
noncomputable def c30 : Code := bodyOf Go.Proofs.Try.f30
noncomputable def c10 : Code := bodyOf Go.Proofs.Try.f10
noncomputable def o49 : List (Nat × List Nat) := []
noncomputable def o117 : List (Nat × List Nat) := []
noncomputable def o89 : List (Nat × List Nat) := []
noncomputable def o90 : List (Nat × List Nat) := []
noncomputable def o68 : List (Nat × List Nat) := []
noncomputable def o58 : List (Nat × List Nat) := []
noncomputable def o91 : List (Nat × List Nat) := []
noncomputable def o59 : List (Nat × List Nat) := []
noncomputable def o48 : List (Nat × List Nat) := []
noncomputable def o60 : List (Nat × List Nat) := []
noncomputable def o26 : List (Nat × List Nat) := []
noncomputable def o53 : List (Nat × List Nat) := []
noncomputable def o118 : List (Nat × List Nat) := []
noncomputable def o92 : List (Nat × List Nat) := []
noncomputable def o93 : List (Nat × List Nat) := []
noncomputable def o69 : List (Nat × List Nat) := []
noncomputable def o62 : List (Nat × List Nat) := []
noncomputable def o94 : List (Nat × List Nat) := []
noncomputable def o63 : List (Nat × List Nat) := []
noncomputable def o52 : List (Nat × List Nat) := []
noncomputable def o64 : List (Nat × List Nat) := []
noncomputable def o28 : List (Nat × List Nat) := []
noncomputable def o107 : List (Nat × List Nat) := []
noncomputable def o78 : List (Nat × List Nat) := [(6, [0, 1, 2, 3, 4, 5, 6, 7, 8, 9, 10]), (11, [0, 1, 2, 3, 4, 5, 6, 7, 8, 9, 10]), (16, [0, 1, 2, 3, 4, 5, 6, 7, 8, 9, 10])]
noncomputable def o79 : List (Nat × List Nat) := [(6, [0, 1, 2, 3, 4, 5, 6, 7, 8])]
noncomputable def o80 : List (Nat × List Nat) := [(6, [0, 1, 2, 3, 4, 5, 6, 7, 8])]
noncomputable def o125 : List (Nat × List Nat) := []
noncomputable def o108 : List (Nat × List Nat) := [(6, [0, 1, 2, 3, 4, 5, 6, 7, 8, 9, 10, 11, 12, 13, 14, 15])]
noncomputable def o81 : List (Nat × List Nat) := []
noncomputable def o39 : List (Nat × List Nat) := []
noncomputable def o109 : List (Nat × List Nat) := []
noncomputable def o110 : List (Nat × List Nat) := [(6, [0, 1, 2, 3, 4, 5, 6, 7, 8])]
noncomputable def o111 : List (Nat × List Nat) := [(6, [0, 1, 2, 3, 4, 5, 6, 7, 8])]
noncomputable def o84 : List (Nat × List Nat) := [(6, [0, 1, 2, 3, 4, 5, 6, 7, 8])]
noncomputable def o82 : List (Nat × List Nat) := []
noncomputable def o83 : List (Nat × List Nat) := [(6, [0, 1, 2, 3, 4, 5, 6, 7, 8])]
noncomputable def o112 : List (Nat × List Nat) := []
noncomputable def o113 : List (Nat × List Nat) := []
noncomputable def o85 : List (Nat × List Nat) := []
noncomputable def o40 : List (Nat × List Nat) := []
noncomputable def o57 : List (Nat × List Nat) := [(6, [0, 1, 2, 3, 4, 5, 6, 7, 8])]
noncomputable def o119 : List (Nat × List Nat) := []
noncomputable def o95 : List (Nat × List Nat) := [(6, [0, 1, 2, 3, 4, 5, 6, 7, 8, 9])]
noncomputable def o96 : List (Nat × List Nat) := [(6, [0, 1, 2, 3, 4, 5, 6, 7, 8])]
noncomputable def o70 : List (Nat × List Nat) := [(6, [0, 1, 2, 3, 4, 5, 6, 7, 8])]
noncomputable def o65 : List (Nat × List Nat) := []
noncomputable def o97 : List (Nat × List Nat) := []
noncomputable def o66 : List (Nat × List Nat) := [(6, [0, 1, 2, 3, 4, 5, 6, 7, 8, 9])]
noncomputable def o56 : List (Nat × List Nat) := []
noncomputable def o67 : List (Nat × List Nat) := [(6, [0, 1, 2, 3, 4, 5, 6, 7, 8, 9])]
noncomputable def o30 : List (Nat × List Nat) := []
noncomputable def o10 : List (Nat × List Nat) := [(8, [0, 2, 1, 3, 4, 5]), (14, [0, 1, 2, 3, 4]), (16, [0, 1, 2, 3, 4])]
noncomputable def ti0 (t : Nat) : Option TI := (tis[t]?).getD none
noncomputable def cd : Code → List Nat → Code
  | c, [] => c
  | .seq a b, i :: p => cd (if i = 0 then a else b) p
  | .cond _ a b, i :: p => cd (if i = 1 then a else b) p
  | .block _ a, _ :: p => cd a p
  | .loop a, _ :: p => cd a p
  | c, _ => c

/-! 49 loop.example/g00480/laws.szByteS -/
noncomputable def f49 (p : Pr β) (n : Nat) (a0 a1 : AV) (H : Heap) (k : AV → Heap → Option β) : Option β :=
  p.len a0 fun t7 =>
  p.bin .sub a1 t7 fun t8 =>
  p.bin .lss t8 (.sc (.int .i64 0)) fun t10 =>
  p.cond t10
  (k (.sc (.int .i64 (-1))) H)
  (k t8 H)
theorem f49_body (p : Pr β) (n : Nat) (a0 a1 : AV) (H : Heap) (k : AV → Heap → Option β) : evalBody ti0 p n ⟨c49, 12, Go.Proofs.Try.f49.results.toList, o49⟩ [a0, a1] H k = f49 p n a0 a1 H k := by kernel_rfl

/-! 117 loop.example/g00480/laws.szWant -/
noncomputable def f117 (p : Pr β) (n : Nat) (a0 a1 : AV) (H : Heap) (k : AV → Heap → Option β) : Option β :=
  p.box a0 H fun t2 H =>
  p.fadr 0 t2 fun t6 =>
  p.load false 1 t6 H fun t7 =>
  p.lenS t7 fun t8 =>
  p.bin .sub a1 t8 fun t9 =>
  p.bin .lss t9 (.sc (.int .i64 0)) fun t11 =>
  p.cond t11
  (k (.sc (.int .i64 (-1))) H)
  (k t9 H)
theorem f117_body (p : Pr β) (n : Nat) (a0 a1 : AV) (H : Heap) (k : AV → Heap → Option β) : evalBody ti0 p n ⟨c117, 13, Go.Proofs.Try.f117.results.toList, o117⟩ [a0, a1] H k = f117 p n a0 a1 H k := by kernel_rfl

/-! 89 loop.example/g00480/laws.szWantS -/
noncomputable def f89_l0 (p : Pr β) (n : Nat)  (k : AV → Heap → Option β) : Nat → AV → AV → AV → Heap → Option β
  | 0, _, _, _, _ => none
  | m + 1, t0, t1, t5, H => p.len t0 fun t14 =>
      p.bin .lss t5 t14 fun t15 =>
      p.cond t15
      (p.iadr 2 t0 t5 fun t20 =>
      p.load true 2 t20 H fun t21 =>
      p.call 3 (.fn 117 [] []) [t21, t1] H fun t23 H =>
      p.bin .lss t23 (.sc (.int .i64 0)) fun t25 =>
      p.cond t25
      (k (.sc (.int .i64 (-1))) H)
      (p.bin .add t5 (.sc (.int .i64 1)) fun t17 =>
      f89_l0 p n  k m t0 t23 t17 H))
      (k t1 H)
noncomputable def f89 (p : Pr β) (n : Nat) (a0 a1 : AV) (H : Heap) (k : AV → Heap → Option β) : Option β :=
  p.len a0 fun t8 =>
  p.bin .sub a1 t8 fun t9 =>
  p.bin .lss t9 (.sc (.int .i64 0)) fun t11 =>
  p.cond t11
  (k (.sc (.int .i64 (-1))) H)
  (f89_l0 p n  k n a0 t9 (.sc (.int .i64 0)) H)
noncomputable def f89_L0 (p : Pr β) (n : Nat)  (k : AV → Heap → Option β) (m : Nat) (tm : Tm) (H : Heap) : Option β :=
  iterC 27 (fun tm H k => evalCode ti0 p o89 27 n (cd c89 [1, 1, 1, 0, 1, 0, 0]) tm H k) (blkK 0 (seqK (fun tm H => evalCode ti0 p o89 27 n (cd c89 [1, 1, 1, 1]) tm H (endK ti0 p Go.Proofs.Try.f89.results.toList k)) (endK ti0 p Go.Proofs.Try.f89.results.toList k))) m tm H
theorem f89_L0_step (p : Pr β) (n : Nat)  (k : AV → Heap → Option β) (m0 : Nat) (t0 t1 t2 t3 t4 t5 t6 t7 t8 t9 t10 t11 t12 t13 t14 t15 t16 t17 t18 t19 t20 t21 t22 t23 t24 t25 t26 : AV) (H : Heap) : f89_L0 p n  k (m0 + 1) [(0, t0), (1, t1), (2, t2), (3, t3), (4, t4), (5, t5), (6, t6), (7, t7), (8, t8), (9, t9), (10, t10), (11, t11), (12, t12), (13, t13), (14, t14), (15, t15), (16, t16), (17, t17), (18, t18), (19, t19), (20, t20), (21, t21), (22, t22), (23, t23), (24, t24), (25, t25), (26, t26)] H =
  p.len t0 fun t14 =>
  p.bin .lss t5 t14 fun t15 =>
  p.cond t15
  (p.iadr 2 t0 t5 fun t20 =>
  p.load true 2 t20 H fun t21 =>
  p.call 3 (.fn 117 [] []) [t21, t1] H fun t23 H =>
  p.bin .lss t23 (.sc (.int .i64 0)) fun t25 =>
  p.cond t25
  (k (.sc (.int .i64 (-1))) H)
  (p.bin .add t5 (.sc (.int .i64 1)) fun t17 =>
  f89_L0 p n  k m0 [(0, t0), (1, t23), (2, t2), (3, t3), (4, t4), (5, t17), (6, t6), (7, t7), (8, t8), (9, t9), (10, t10), (11, t11), (12, t5), (13, t0), (14, t14), (15, t15), (16, t5), (17, t17), (18, t0), (19, t5), (20, t20), (21, t21), (22, t1), (23, t23), (24, t23), (25, t25), (26, t26)] H))
  (k t1 H) := by kernel_rfl
theorem f89_l0_eq (p : Pr β) (n : Nat)  (k : AV → Heap → Option β)   (m0 : Nat) : ∀ (t0 t1 t2 t3 t4 t5 t6 t7 t8 t9 t10 t11 t12 t13 t14 t15 t16 t17 t18 t19 t20 t21 t22 t23 t24 t25 t26 : AV) (H : Heap), f89_L0 p n  k m0 [(0, t0), (1, t1), (2, t2), (3, t3), (4, t4), (5, t5), (6, t6), (7, t7), (8, t8), (9, t9), (10, t10), (11, t11), (12, t12), (13, t13), (14, t14), (15, t15), (16, t16), (17, t17), (18, t18), (19, t19), (20, t20), (21, t21), (22, t22), (23, t23), (24, t24), (25, t25), (26, t26)] H = f89_l0 p n  k m0 t0 t1 t5 H := by
  induction m0 with
  | zero => intros; rfl
  | succ m0 ih =>
    intro t0 t1 t2 t3 t4 t5 t6 t7 t8 t9 t10 t11 t12 t13 t14 t15 t16 t17 t18 t19 t20 t21 t22 t23 t24 t25 t26 H
    rw [f89_L0_step]
    simp only [ih]
    rfl
theorem f89_raw (p : Pr β) (n : Nat) (a0 a1 : AV) (H : Heap) (k : AV → Heap → Option β) : evalBody ti0 p n ⟨c89, 27, Go.Proofs.Try.f89.results.toList, o89⟩ [a0, a1] H k =
  p.len a0 fun t8 =>
  p.bin .sub a1 t8 fun t9 =>
  p.bin .lss t9 (.sc (.int .i64 0)) fun t11 =>
  p.cond t11
  (k (.sc (.int .i64 (-1))) H)
  (f89_L0 p n  k n [(0, a0), (1, t9), (2, (.sc undef)), (3, (.sc undef)), (4, (.sc (.int .i64 0))), (5, (.sc (.int .i64 0))), (6, a1), (7, a0), (8, t8), (9, t9), (10, t9), (11, t11), (12, (.sc undef)), (13, (.sc undef)), (14, (.sc undef)), (15, (.sc undef)), (16, (.sc undef)), (17, (.sc undef)), (18, (.sc undef)), (19, (.sc undef)), (20, (.sc undef)), (21, (.sc undef)), (22, (.sc undef)), (23, (.sc undef)), (24, (.sc undef)), (25, (.sc undef)), (26, (.sc undef))] H) := by kernel_rfl
theorem f89_body (p : Pr β) (n : Nat) (a0 a1 : AV) (H : Heap) (k : AV → Heap → Option β) : evalBody ti0 p n ⟨c89, 27, Go.Proofs.Try.f89.results.toList, o89⟩ [a0, a1] H k = f89 p n a0 a1 H k := by
  rw [f89_raw]
  simp only [f89_l0_eq]
  rfl

/-! 90 loop.example/g00480/laws.szStringS -/
noncomputable def f90_l0 (p : Pr β) (n : Nat)  (k : AV → Heap → Option β) : Nat → AV → AV → AV → Heap → Option β
  | 0, _, _, _, _ => none
  | m + 1, t0, t1, t5, H => p.len t0 fun t14 =>
      p.bin .lss t5 t14 fun t15 =>
      p.cond t15
      (p.iadr 1 t0 t5 fun t21 =>
      p.load false 1 t21 H fun t22 =>
      p.lenS t22 fun t23 =>
      p.bin .sub t1 t23 fun t24 =>
      p.bin .lss t24 (.sc (.int .i64 0)) fun t26 =>
      p.cond t26
      (k (.sc (.int .i64 (-1))) H)
      (p.bin .add t5 (.sc (.int .i64 1)) fun t17 =>
      f90_l0 p n  k m t0 t24 t17 H))
      (k t1 H)
noncomputable def f90 (p : Pr β) (n : Nat) (a0 a1 : AV) (H : Heap) (k : AV → Heap → Option β) : Option β :=
  p.len a0 fun t8 =>
  p.bin .sub a1 t8 fun t9 =>
  p.bin .lss t9 (.sc (.int .i64 0)) fun t11 =>
  p.cond t11
  (k (.sc (.int .i64 (-1))) H)
  (f90_l0 p n  k n a0 t9 (.sc (.int .i64 0)) H)
noncomputable def f90_L0 (p : Pr β) (n : Nat)  (k : AV → Heap → Option β) (m : Nat) (tm : Tm) (H : Heap) : Option β :=
  iterC 28 (fun tm H k => evalCode ti0 p o90 28 n (cd c90 [1, 1, 1, 0, 1, 0, 0]) tm H k) (blkK 0 (seqK (fun tm H => evalCode ti0 p o90 28 n (cd c90 [1, 1, 1, 1]) tm H (endK ti0 p Go.Proofs.Try.f90.results.toList k)) (endK ti0 p Go.Proofs.Try.f90.results.toList k))) m tm H
theorem f90_L0_step (p : Pr β) (n : Nat)  (k : AV → Heap → Option β) (m0 : Nat) (t0 t1 t2 t3 t4 t5 t6 t7 t8 t9 t10 t11 t12 t13 t14 t15 t16 t17 t18 t19 t20 t21 t22 t23 t24 t25 t26 t27 : AV) (H : Heap) : f90_L0 p n  k (m0 + 1) [(0, t0), (1, t1), (2, t2), (3, t3), (4, t4), (5, t5), (6, t6), (7, t7), (8, t8), (9, t9), (10, t10), (11, t11), (12, t12), (13, t13), (14, t14), (15, t15), (16, t16), (17, t17), (18, t18), (19, t19), (20, t20), (21, t21), (22, t22), (23, t23), (24, t24), (25, t25), (26, t26), (27, t27)] H =
  p.len t0 fun t14 =>
  p.bin .lss t5 t14 fun t15 =>
  p.cond t15
  (p.iadr 1 t0 t5 fun t21 =>
  p.load false 1 t21 H fun t22 =>
  p.lenS t22 fun t23 =>
  p.bin .sub t1 t23 fun t24 =>
  p.bin .lss t24 (.sc (.int .i64 0)) fun t26 =>
  p.cond t26
  (k (.sc (.int .i64 (-1))) H)
  (p.bin .add t5 (.sc (.int .i64 1)) fun t17 =>
  f90_L0 p n  k m0 [(0, t0), (1, t24), (2, t2), (3, t3), (4, t4), (5, t17), (6, t6), (7, t7), (8, t8), (9, t9), (10, t10), (11, t11), (12, t5), (13, t0), (14, t14), (15, t15), (16, t5), (17, t17), (18, t1), (19, t0), (20, t5), (21, t21), (22, t22), (23, t23), (24, t24), (25, t24), (26, t26), (27, t27)] H))
  (k t1 H) := by kernel_rfl
theorem f90_l0_eq (p : Pr β) (n : Nat)  (k : AV → Heap → Option β)   (m0 : Nat) : ∀ (t0 t1 t2 t3 t4 t5 t6 t7 t8 t9 t10 t11 t12 t13 t14 t15 t16 t17 t18 t19 t20 t21 t22 t23 t24 t25 t26 t27 : AV) (H : Heap), f90_L0 p n  k m0 [(0, t0), (1, t1), (2, t2), (3, t3), (4, t4), (5, t5), (6, t6), (7, t7), (8, t8), (9, t9), (10, t10), (11, t11), (12, t12), (13, t13), (14, t14), (15, t15), (16, t16), (17, t17), (18, t18), (19, t19), (20, t20), (21, t21), (22, t22), (23, t23), (24, t24), (25, t25), (26, t26), (27, t27)] H = f90_l0 p n  k m0 t0 t1 t5 H := by
  induction m0 with
  | zero => intros; rfl
  | succ m0 ih =>
    intro t0 t1 t2 t3 t4 t5 t6 t7 t8 t9 t10 t11 t12 t13 t14 t15 t16 t17 t18 t19 t20 t21 t22 t23 t24 t25 t26 t27 H
    rw [f90_L0_step]
    simp only [ih]
    rfl
theorem f90_raw (p : Pr β) (n : Nat) (a0 a1 : AV) (H : Heap) (k : AV → Heap → Option β) : evalBody ti0 p n ⟨c90, 28, Go.Proofs.Try.f90.results.toList, o90⟩ [a0, a1] H k =
  p.len a0 fun t8 =>
  p.bin .sub a1 t8 fun t9 =>
  p.bin .lss t9 (.sc (.int .i64 0)) fun t11 =>
  p.cond t11
  (k (.sc (.int .i64 (-1))) H)
  (f90_L0 p n  k n [(0, a0), (1, t9), (2, (.sc undef)), (3, (.sc undef)), (4, (.sc (.int .i64 0))), (5, (.sc (.int .i64 0))), (6, a1), (7, a0), (8, t8), (9, t9), (10, t9), (11, t11), (12, (.sc undef)), (13, (.sc undef)), (14, (.sc undef)), (15, (.sc undef)), (16, (.sc undef)), (17, (.sc undef)), (18, (.sc undef)), (19, (.sc undef)), (20, (.sc undef)), (21, (.sc undef)), (22, (.sc undef)), (23, (.sc undef)), (24, (.sc undef)), (25, (.sc undef)), (26, (.sc undef)), (27, (.sc undef))] H) := by kernel_rfl
theorem f90_body (p : Pr β) (n : Nat) (a0 a1 : AV) (H : Heap) (k : AV → Heap → Option β) : evalBody ti0 p n ⟨c90, 28, Go.Proofs.Try.f90.results.toList, o90⟩ [a0, a1] H k = f90 p n a0 a1 H k := by
  rw [f90_raw]
  simp only [f90_l0_eq]
  rfl

/-! 68 loop.example/g00480/laws.szIntS -/
noncomputable def f68 (p : Pr β) (n : Nat) (a0 a1 : AV) (H : Heap) (k : AV → Heap → Option β) : Option β :=
  p.len a0 fun t7 =>
  p.bin .sub a1 t7 fun t8 =>
  p.bin .lss t8 (.sc (.int .i64 0)) fun t10 =>
  p.cond t10
  (k (.sc (.int .i64 (-1))) H)
  (k t8 H)
theorem f68_body (p : Pr β) (n : Nat) (a0 a1 : AV) (H : Heap) (k : AV → Heap → Option β) : evalBody ti0 p n ⟨c68, 12, Go.Proofs.Try.f68.results.toList, o68⟩ [a0, a1] H k = f68 p n a0 a1 H k := by kernel_rfl

/-! 58 loop.example/g00480/laws.szPacket -/
noncomputable def f58 (p : Pr β) (n : Nat) (a0 a1 : AV) (H : Heap) (k : AV → Heap → Option β) : Option β :=
  p.box a0 H fun t2 H =>
  p.fadr 5 t2 fun t6 =>
  p.load false 1 t6 H fun t7 =>
  p.lenS t7 fun t8 =>
  p.bin .sub a1 t8 fun t9 =>
  p.bin .lss t9 (.sc (.int .i64 0)) fun t11 =>
  p.cond t11
  (k (.sc (.int .i64 (-1))) H)
  (p.fadr 6 t2 fun t12 =>
  p.load false 1 t12 H fun t13 =>
  p.call 3 (.fn 49 [] []) [t13, t9] H fun t15 H =>
  p.bin .lss t15 (.sc (.int .i64 0)) fun t17 =>
  p.cond t17
  (k (.sc (.int .i64 (-1))) H)
  (p.fadr 7 t2 fun t19 =>
  p.load false 1 t19 H fun t20 =>
  p.lenS t20 fun t21 =>
  p.bin .sub t15 t21 fun t22 =>
  p.bin .lss t22 (.sc (.int .i64 0)) fun t24 =>
  p.cond t24
  (k (.sc (.int .i64 (-1))) H)
  (p.fadr 12 t2 fun t26 =>
  p.load false 1 t26 H fun t27 =>
  p.lenS t27 fun t28 =>
  p.bin .sub t22 t28 fun t29 =>
  p.bin .lss t29 (.sc (.int .i64 0)) fun t31 =>
  p.cond t31
  (k (.sc (.int .i64 (-1))) H)
  (p.fadr 13 t2 fun t32 =>
  p.load false 1 t32 H fun t33 =>
  p.call 3 (.fn 49 [] []) [t33, t29] H fun t35 H =>
  p.bin .lss t35 (.sc (.int .i64 0)) fun t37 =>
  p.cond t37
  (k (.sc (.int .i64 (-1))) H)
  (p.fadr 17 t2 fun t39 =>
  p.load false 1 t39 H fun t40 =>
  p.lenS t40 fun t41 =>
  p.bin .sub t35 t41 fun t42 =>
  p.bin .lss t42 (.sc (.int .i64 0)) fun t44 =>
  p.cond t44
  (k (.sc (.int .i64 (-1))) H)
  (p.fadr 19 t2 fun t45 =>
  p.load false 1 t45 H fun t46 =>
  p.call 3 (.fn 49 [] []) [t46, t42] H fun t48 H =>
  p.bin .lss t48 (.sc (.int .i64 0)) fun t50 =>
  p.cond t50
  (k (.sc (.int .i64 (-1))) H)
  (p.fadr 22 t2 fun t51 =>
  p.load false 1 t51 H fun t52 =>
  p.call 3 (.fn 89 [] []) [t52, t48] H fun t54 H =>
  p.bin .lss t54 (.sc (.int .i64 0)) fun t56 =>
  p.cond t56
  (k (.sc (.int .i64 (-1))) H)
  (p.fadr 23 t2 fun t57 =>
  p.load false 1 t57 H fun t58 =>
  p.call 3 (.fn 90 [] []) [t58, t54] H fun t60 H =>
  p.bin .lss t60 (.sc (.int .i64 0)) fun t62 =>
  p.cond t62
  (k (.sc (.int .i64 (-1))) H)
  (p.fadr 24 t2 fun t63 =>
  p.load false 1 t63 H fun t64 =>
  p.call 3 (.fn 68 [] []) [t64, t60] H fun t66 H =>
  p.bin .lss t66 (.sc (.int .i64 0)) fun t68 =>
  p.cond t68
  (k (.sc (.int .i64 (-1))) H)
  (k t66 H))))))))))
theorem f58_body (p : Pr β) (n : Nat) (a0 a1 : AV) (H : Heap) (k : AV → Heap → Option β) : evalBody ti0 p n ⟨c58, 70, Go.Proofs.Try.f58.results.toList, o58⟩ [a0, a1] H k = f58 p n a0 a1 H k := by kernel_rfl

/-! 91 loop.example/g00480/laws.szSub -/
noncomputable def f91 (p : Pr β) (n : Nat) (a0 a1 : AV) (H : Heap) (k : AV → Heap → Option β) : Option β :=
  p.box a0 H fun t2 H =>
  p.fadr 0 t2 fun t6 =>
  p.load false 1 t6 H fun t7 =>
  p.lenS t7 fun t8 =>
  p.bin .sub a1 t8 fun t9 =>
  p.bin .lss t9 (.sc (.int .i64 0)) fun t11 =>
  p.cond t11
  (k (.sc (.int .i64 (-1))) H)
  (k t9 H)
theorem f91_body (p : Pr β) (n : Nat) (a0 a1 : AV) (H : Heap) (k : AV → Heap → Option β) : evalBody ti0 p n ⟨c91, 13, Go.Proofs.Try.f91.results.toList, o91⟩ [a0, a1] H k = f91 p n a0 a1 H k := by kernel_rfl

/-! 59 loop.example/g00480/laws.szSubS -/
noncomputable def f59_l0 (p : Pr β) (n : Nat)  (k : AV → Heap → Option β) : Nat → AV → AV → AV → Heap → Option β
  | 0, _, _, _, _ => none
  | m + 1, t0, t1, t5, H => p.len t0 fun t14 =>
      p.bin .lss t5 t14 fun t15 =>
      p.cond t15
      (p.iadr 3 t0 t5 fun t20 =>
      p.load true 3 t20 H fun t21 =>
      p.call 3 (.fn 91 [] []) [t21, t1] H fun t23 H =>
      p.bin .lss t23 (.sc (.int .i64 0)) fun t25 =>
      p.cond t25
      (k (.sc (.int .i64 (-1))) H)
      (p.bin .add t5 (.sc (.int .i64 1)) fun t17 =>
      f59_l0 p n  k m t0 t23 t17 H))
      (k t1 H)
noncomputable def f59 (p : Pr β) (n : Nat) (a0 a1 : AV) (H : Heap) (k : AV → Heap → Option β) : Option β :=
  p.len a0 fun t8 =>
  p.bin .sub a1 t8 fun t9 =>
  p.bin .lss t9 (.sc (.int .i64 0)) fun t11 =>
  p.cond t11
  (k (.sc (.int .i64 (-1))) H)
  (f59_l0 p n  k n a0 t9 (.sc (.int .i64 0)) H)
noncomputable def f59_L0 (p : Pr β) (n : Nat)  (k : AV → Heap → Option β) (m : Nat) (tm : Tm) (H : Heap) : Option β :=
  iterC 27 (fun tm H k => evalCode ti0 p o59 27 n (cd c59 [1, 1, 1, 0, 1, 0, 0]) tm H k) (blkK 0 (seqK (fun tm H => evalCode ti0 p o59 27 n (cd c59 [1, 1, 1, 1]) tm H (endK ti0 p Go.Proofs.Try.f59.results.toList k)) (endK ti0 p Go.Proofs.Try.f59.results.toList k))) m tm H
theorem f59_L0_step (p : Pr β) (n : Nat)  (k : AV → Heap → Option β) (m0 : Nat) (t0 t1 t2 t3 t4 t5 t6 t7 t8 t9 t10 t11 t12 t13 t14 t15 t16 t17 t18 t19 t20 t21 t22 t23 t24 t25 t26 : AV) (H : Heap) : f59_L0 p n  k (m0 + 1) [(0, t0), (1, t1), (2, t2), (3, t3), (4, t4), (5, t5), (6, t6), (7, t7), (8, t8), (9, t9), (10, t10), (11, t11), (12, t12), (13, t13), (14, t14), (15, t15), (16, t16), (17, t17), (18, t18), (19, t19), (20, t20), (21, t21), (22, t22), (23, t23), (24, t24), (25, t25), (26, t26)] H =
  p.len t0 fun t14 =>
  p.bin .lss t5 t14 fun t15 =>
  p.cond t15
  (p.iadr 3 t0 t5 fun t20 =>
  p.load true 3 t20 H fun t21 =>
  p.call 3 (.fn 91 [] []) [t21, t1] H fun t23 H =>
  p.bin .lss t23 (.sc (.int .i64 0)) fun t25 =>
  p.cond t25
  (k (.sc (.int .i64 (-1))) H)
  (p.bin .add t5 (.sc (.int .i64 1)) fun t17 =>
  f59_L0 p n  k m0 [(0, t0), (1, t23), (2, t2), (3, t3), (4, t4), (5, t17), (6, t6), (7, t7), (8, t8), (9, t9), (10, t10), (11, t11), (12, t5), (13, t0), (14, t14), (15, t15), (16, t5), (17, t17), (18, t0), (19, t5), (20, t20), (21, t21), (22, t1), (23, t23), (24, t23), (25, t25), (26, t26)] H))
  (k t1 H) := by kernel_rfl
theorem f59_l0_eq (p : Pr β) (n : Nat)  (k : AV → Heap → Option β)   (m0 : Nat) : ∀ (t0 t1 t2 t3 t4 t5 t6 t7 t8 t9 t10 t11 t12 t13 t14 t15 t16 t17 t18 t19 t20 t21 t22 t23 t24 t25 t26 : AV) (H : Heap), f59_L0 p n  k m0 [(0, t0), (1, t1), (2, t2), (3, t3), (4, t4), (5, t5), (6, t6), (7, t7), (8, t8), (9, t9), (10, t10), (11, t11), (12, t12), (13, t13), (14, t14), (15, t15), (16, t16), (17, t17), (18, t18), (19, t19), (20, t20), (21, t21), (22, t22), (23, t23), (24, t24), (25, t25), (26, t26)] H = f59_l0 p n  k m0 t0 t1 t5 H := by
  induction m0 with
  | zero => intros; rfl
  | succ m0 ih =>
    intro t0 t1 t2 t3 t4 t5 t6 t7 t8 t9 t10 t11 t12 t13 t14 t15 t16 t17 t18 t19 t20 t21 t22 t23 t24 t25 t26 H
    rw [f59_L0_step]
    simp only [ih]
    rfl
theorem f59_raw (p : Pr β) (n : Nat) (a0 a1 : AV) (H : Heap) (k : AV → Heap → Option β) : evalBody ti0 p n ⟨c59, 27, Go.Proofs.Try.f59.results.toList, o59⟩ [a0, a1] H k =
  p.len a0 fun t8 =>
  p.bin .sub a1 t8 fun t9 =>
  p.bin .lss t9 (.sc (.int .i64 0)) fun t11 =>
  p.cond t11
  (k (.sc (.int .i64 (-1))) H)
  (f59_L0 p n  k n [(0, a0), (1, t9), (2, (.sc undef)), (3, (.sc undef)), (4, (.sc (.int .i64 0))), (5, (.sc (.int .i64 0))), (6, a1), (7, a0), (8, t8), (9, t9), (10, t9), (11, t11), (12, (.sc undef)), (13, (.sc undef)), (14, (.sc undef)), (15, (.sc undef)), (16, (.sc undef)), (17, (.sc undef)), (18, (.sc undef)), (19, (.sc undef)), (20, (.sc undef)), (21, (.sc undef)), (22, (.sc undef)), (23, (.sc undef)), (24, (.sc undef)), (25, (.sc undef)), (26, (.sc undef))] H) := by kernel_rfl
theorem f59_body (p : Pr β) (n : Nat) (a0 a1 : AV) (H : Heap) (k : AV → Heap → Option β) : evalBody ti0 p n ⟨c59, 27, Go.Proofs.Try.f59.results.toList, o59⟩ [a0, a1] H k = f59 p n a0 a1 H k := by
  rw [f59_raw]
  simp only [f59_l0_eq]
  rfl

/-! 48 loop.example/g00480/laws.szMsg -/
noncomputable def f48 (p : Pr β) (n : Nat) (a0 a1 : AV) (H : Heap) (k : AV → Heap → Option β) : Option β :=
  p.box a0 H fun t2 H =>
  p.fadr 0 t2 fun t6 =>
  p.load false 1 t6 H fun t7 =>
  p.lenS t7 fun t8 =>
  p.bin .sub a1 t8 fun t9 =>
  p.bin .lss t9 (.sc (.int .i64 0)) fun t11 =>
  p.cond t11
  (k (.sc (.int .i64 (-1))) H)
  (p.fadr 1 t2 fun t12 =>
  p.load false 1 t12 H fun t13 =>
  p.call 3 (.fn 49 [] []) [t13, t9] H fun t15 H =>
  p.bin .lss t15 (.sc (.int .i64 0)) fun t17 =>
  p.cond t17
  (k (.sc (.int .i64 (-1))) H)
  (k t15 H))
theorem f48_body (p : Pr β) (n : Nat) (a0 a1 : AV) (H : Heap) (k : AV → Heap → Option β) : evalBody ti0 p n ⟨c48, 19, Go.Proofs.Try.f48.results.toList, o48⟩ [a0, a1] H k = f48 p n a0 a1 H k := by kernel_rfl

/-! 60 loop.example/g00480/laws.szMsgS -/
noncomputable def f60_l0 (p : Pr β) (n : Nat)  (k : AV → Heap → Option β) : Nat → AV → AV → AV → Heap → Option β
  | 0, _, _, _, _ => none
  | m + 1, t0, t1, t5, H => p.len t0 fun t14 =>
      p.bin .lss t5 t14 fun t15 =>
      p.cond t15
      (p.iadr 4 t0 t5 fun t20 =>
      p.load true 4 t20 H fun t21 =>
      p.call 3 (.fn 48 [] []) [t21, t1] H fun t23 H =>
      p.bin .lss t23 (.sc (.int .i64 0)) fun t25 =>
      p.cond t25
      (k (.sc (.int .i64 (-1))) H)
      (p.bin .add t5 (.sc (.int .i64 1)) fun t17 =>
      f60_l0 p n  k m t0 t23 t17 H))
      (k t1 H)
noncomputable def f60 (p : Pr β) (n : Nat) (a0 a1 : AV) (H : Heap) (k : AV → Heap → Option β) : Option β :=
  p.len a0 fun t8 =>
  p.bin .sub a1 t8 fun t9 =>
  p.bin .lss t9 (.sc (.int .i64 0)) fun t11 =>
  p.cond t11
  (k (.sc (.int .i64 (-1))) H)
  (f60_l0 p n  k n a0 t9 (.sc (.int .i64 0)) H)
noncomputable def f60_L0 (p : Pr β) (n : Nat)  (k : AV → Heap → Option β) (m : Nat) (tm : Tm) (H : Heap) : Option β :=
  iterC 27 (fun tm H k => evalCode ti0 p o60 27 n (cd c60 [1, 1, 1, 0, 1, 0, 0]) tm H k) (blkK 0 (seqK (fun tm H => evalCode ti0 p o60 27 n (cd c60 [1, 1, 1, 1]) tm H (endK ti0 p Go.Proofs.Try.f60.results.toList k)) (endK ti0 p Go.Proofs.Try.f60.results.toList k))) m tm H
theorem f60_L0_step (p : Pr β) (n : Nat)  (k : AV → Heap → Option β) (m0 : Nat) (t0 t1 t2 t3 t4 t5 t6 t7 t8 t9 t10 t11 t12 t13 t14 t15 t16 t17 t18 t19 t20 t21 t22 t23 t24 t25 t26 : AV) (H : Heap) : f60_L0 p n  k (m0 + 1) [(0, t0), (1, t1), (2, t2), (3, t3), (4, t4), (5, t5), (6, t6), (7, t7), (8, t8), (9, t9), (10, t10), (11, t11), (12, t12), (13, t13), (14, t14), (15, t15), (16, t16), (17, t17), (18, t18), (19, t19), (20, t20), (21, t21), (22, t22), (23, t23), (24, t24), (25, t25), (26, t26)] H =
  p.len t0 fun t14 =>
  p.bin .lss t5 t14 fun t15 =>
  p.cond t15
  (p.iadr 4 t0 t5 fun t20 =>
  p.load true 4 t20 H fun t21 =>
  p.call 3 (.fn 48 [] []) [t21, t1] H fun t23 H =>
  p.bin .lss t23 (.sc (.int .i64 0)) fun t25 =>
  p.cond t25
  (k (.sc (.int .i64 (-1))) H)
  (p.bin .add t5 (.sc (.int .i64 1)) fun t17 =>
  f60_L0 p n  k m0 [(0, t0), (1, t23), (2, t2), (3, t3), (4, t4), (5, t17), (6, t6), (7, t7), (8, t8), (9, t9), (10, t10), (11, t11), (12, t5), (13, t0), (14, t14), (15, t15), (16, t5), (17, t17), (18, t0), (19, t5), (20, t20), (21, t21), (22, t1), (23, t23), (24, t23), (25, t25), (26, t26)] H))
  (k t1 H) := by kernel_rfl
theorem f60_l0_eq (p : Pr β) (n : Nat)  (k : AV → Heap → Option β)   (m0 : Nat) : ∀ (t0 t1 t2 t3 t4 t5 t6 t7 t8 t9 t10 t11 t12 t13 t14 t15 t16 t17 t18 t19 t20 t21 t22 t23 t24 t25 t26 : AV) (H : Heap), f60_L0 p n  k m0 [(0, t0), (1, t1), (2, t2), (3, t3), (4, t4), (5, t5), (6, t6), (7, t7), (8, t8), (9, t9), (10, t10), (11, t11), (12, t12), (13, t13), (14, t14), (15, t15), (16, t16), (17, t17), (18, t18), (19, t19), (20, t20), (21, t21), (22, t22), (23, t23), (24, t24), (25, t25), (26, t26)] H = f60_l0 p n  k m0 t0 t1 t5 H := by
  induction m0 with
  | zero => intros; rfl
  | succ m0 ih =>
    intro t0 t1 t2 t3 t4 t5 t6 t7 t8 t9 t10 t11 t12 t13 t14 t15 t16 t17 t18 t19 t20 t21 t22 t23 t24 t25 t26 H
    rw [f60_L0_step]
    simp only [ih]
    rfl
theorem f60_raw (p : Pr β) (n : Nat) (a0 a1 : AV) (H : Heap) (k : AV → Heap → Option β) : evalBody ti0 p n ⟨c60, 27, Go.Proofs.Try.f60.results.toList, o60⟩ [a0, a1] H k =
  p.len a0 fun t8 =>
  p.bin .sub a1 t8 fun t9 =>
  p.bin .lss t9 (.sc (.int .i64 0)) fun t11 =>
  p.cond t11
  (k (.sc (.int .i64 (-1))) H)
  (f60_L0 p n  k n [(0, a0), (1, t9), (2, (.sc undef)), (3, (.sc undef)), (4, (.sc (.int .i64 0))), (5, (.sc (.int .i64 0))), (6, a1), (7, a0), (8, t8), (9, t9), (10, t9), (11, t11), (12, (.sc undef)), (13, (.sc undef)), (14, (.sc undef)), (15, (.sc undef)), (16, (.sc undef)), (17, (.sc undef)), (18, (.sc undef)), (19, (.sc undef)), (20, (.sc undef)), (21, (.sc undef)), (22, (.sc undef)), (23, (.sc undef)), (24, (.sc undef)), (25, (.sc undef)), (26, (.sc undef))] H) := by kernel_rfl
theorem f60_body (p : Pr β) (n : Nat) (a0 a1 : AV) (H : Heap) (k : AV → Heap → Option β) : evalBody ti0 p n ⟨c60, 27, Go.Proofs.Try.f60.results.toList, o60⟩ [a0, a1] H k = f60 p n a0 a1 H k := by
  rw [f60_raw]
  simp only [f60_l0_eq]
  rfl

/-! 26 loop.example/g00480/laws.szDeed -/
noncomputable def f26 (p : Pr β) (n : Nat) (a0 a1 : AV) (H : Heap) (k : AV → Heap → Option β) : Option β :=
  p.box a0 H fun t2 H =>
  p.fadr 3 t2 fun t6 =>
  p.load false 1 t6 H fun t7 =>
  p.lenS t7 fun t8 =>
  p.bin .sub a1 t8 fun t9 =>
  p.bin .lss t9 (.sc (.int .i64 0)) fun t11 =>
  p.cond t11
  (k (.sc (.int .i64 (-1))) H)
  (p.fadr 4 t2 fun t12 =>
  p.load true 25 t12 H fun t13 =>
  p.call 3 (.fn 58 [] []) [t13, t9] H fun t15 H =>
  p.bin .lss t15 (.sc (.int .i64 0)) fun t17 =>
  p.cond t17
  (k (.sc (.int .i64 (-1))) H)
  (p.fadr 37 t2 fun t18 =>
  p.load false 1 t18 H fun t19 =>
  p.call 3 (.fn 59 [] []) [t19, t15] H fun t21 H =>
  p.bin .lss t21 (.sc (.int .i64 0)) fun t23 =>
  p.cond t23
  (k (.sc (.int .i64 (-1))) H)
  (p.fadr 38 t2 fun t24 =>
  p.load false 1 t24 H fun t25 =>
  p.call 3 (.fn 68 [] []) [t25, t21] H fun t27 H =>
  p.bin .lss t27 (.sc (.int .i64 0)) fun t29 =>
  p.cond t29
  (k (.sc (.int .i64 (-1))) H)
  (p.fadr 39 t2 fun t30 =>
  p.load false 1 t30 H fun t31 =>
  p.call 3 (.fn 60 [] []) [t31, t27] H fun t33 H =>
  p.bin .lss t33 (.sc (.int .i64 0)) fun t35 =>
  p.cond t35
  (k (.sc (.int .i64 (-1))) H)
  (k t33 H)))))
theorem f26_body (p : Pr β) (n : Nat) (a0 a1 : AV) (H : Heap) (k : AV → Heap → Option β) : evalBody ti0 p n ⟨c26, 37, Go.Proofs.Try.f26.results.toList, o26⟩ [a0, a1] H k = f26 p n a0 a1 H k := by kernel_rfl

/-! 53 loop.example/g00480/laws.toByteS -/
noncomputable def f53_l0 (p : Pr β) (n : Nat)  (k : AV → Heap → Option β) : Nat → AV → AV → AV → Heap → Option β
  | 0, _, _, _, _ => none
  | m + 1, t0, t3, t4, H => p.len t0 fun t10 =>
      p.bin .lss t4 t10 fun t11 =>
      p.cond t11
      (p.iadr 1 t0 t4 fun t18 =>
      p.load false 1 t18 H fun t19 =>
      p.iadr 1 t3 t4 fun t20 =>
      p.store 1 t20 t19 H fun H =>
      p.bin .add t4 (.sc (.int .i64 1)) fun t13 =>
      f53_l0 p n  k m t0 t3 t13 H)
      (k t3 H)
noncomputable def f53 (p : Pr β) (n : Nat) (a0 : AV) (H : Heap) (k : AV → Heap → Option β) : Option β :=
  p.len a0 fun t6 =>
  p.make 1 1 [(.sc (.int .u8 0))] t6 t6 H fun t7 H =>
  f53_l0 p n  k n a0 t7 (.sc (.int .i64 0)) H
noncomputable def f53_L0 (p : Pr β) (n : Nat)  (k : AV → Heap → Option β) (m : Nat) (tm : Tm) (H : Heap) : Option β :=
  iterC 22 (fun tm H k => evalCode ti0 p o53 22 n (cd c53 [1, 1, 0, 1, 0, 0]) tm H k) (blkK 0 (seqK (fun tm H => evalCode ti0 p o53 22 n (cd c53 [1, 1, 1]) tm H (endK ti0 p Go.Proofs.Try.f53.results.toList k)) (endK ti0 p Go.Proofs.Try.f53.results.toList k))) m tm H
theorem f53_L0_step (p : Pr β) (n : Nat)  (k : AV → Heap → Option β) (m0 : Nat) (t0 t1 t2 t3 t4 t5 t6 t7 t8 t9 t10 t11 t12 t13 t14 t15 t16 t17 t18 t19 t20 t21 : AV) (H : Heap) : f53_L0 p n  k (m0 + 1) [(0, t0), (1, t1), (2, t2), (3, t3), (4, t4), (5, t5), (6, t6), (7, t7), (8, t8), (9, t9), (10, t10), (11, t11), (12, t12), (13, t13), (14, t14), (15, t15), (16, t16), (17, t17), (18, t18), (19, t19), (20, t20), (21, t21)] H =
  p.len t0 fun t10 =>
  p.bin .lss t4 t10 fun t11 =>
  p.cond t11
  (p.iadr 1 t0 t4 fun t18 =>
  p.load false 1 t18 H fun t19 =>
  p.iadr 1 t3 t4 fun t20 =>
  p.store 1 t20 t19 H fun H =>
  p.bin .add t4 (.sc (.int .i64 1)) fun t13 =>
  f53_L0 p n  k m0 [(0, t0), (1, t1), (2, t2), (3, t3), (4, t13), (5, t5), (6, t6), (7, t7), (8, t4), (9, t0), (10, t10), (11, t11), (12, t4), (13, t13), (14, t3), (15, t4), (16, t0), (17, t4), (18, t18), (19, t19), (20, t20), (21, t21)] H)
  (k t3 H) := by kernel_rfl
theorem f53_l0_eq (p : Pr β) (n : Nat)  (k : AV → Heap → Option β)   (m0 : Nat) : ∀ (t0 t1 t2 t3 t4 t5 t6 t7 t8 t9 t10 t11 t12 t13 t14 t15 t16 t17 t18 t19 t20 t21 : AV) (H : Heap), f53_L0 p n  k m0 [(0, t0), (1, t1), (2, t2), (3, t3), (4, t4), (5, t5), (6, t6), (7, t7), (8, t8), (9, t9), (10, t10), (11, t11), (12, t12), (13, t13), (14, t14), (15, t15), (16, t16), (17, t17), (18, t18), (19, t19), (20, t20), (21, t21)] H = f53_l0 p n  k m0 t0 t3 t4 H := by
  induction m0 with
  | zero => intros; rfl
  | succ m0 ih =>
    intro t0 t1 t2 t3 t4 t5 t6 t7 t8 t9 t10 t11 t12 t13 t14 t15 t16 t17 t18 t19 t20 t21 H
    rw [f53_L0_step]
    simp only [ih]
    rfl
theorem f53_raw (p : Pr β) (n : Nat) (a0 : AV) (H : Heap) (k : AV → Heap → Option β) : evalBody ti0 p n ⟨c53, 22, Go.Proofs.Try.f53.results.toList, o53⟩ [a0] H k =
  p.len a0 fun t6 =>
  p.make 1 1 [(.sc (.int .u8 0))] t6 t6 H fun t7 H =>
  f53_L0 p n  k n [(0, a0), (1, (.sc undef)), (2, .nl), (3, t7), (4, (.sc (.int .i64 0))), (5, a0), (6, t6), (7, t7), (8, (.sc undef)), (9, (.sc undef)), (10, (.sc undef)), (11, (.sc undef)), (12, (.sc undef)), (13, (.sc undef)), (14, (.sc undef)), (15, (.sc undef)), (16, (.sc undef)), (17, (.sc undef)), (18, (.sc undef)), (19, (.sc undef)), (20, (.sc undef)), (21, (.sc undef))] H := by kernel_rfl
theorem f53_body (p : Pr β) (n : Nat) (a0 : AV) (H : Heap) (k : AV → Heap → Option β) : evalBody ti0 p n ⟨c53, 22, Go.Proofs.Try.f53.results.toList, o53⟩ [a0] H k = f53 p n a0 H k := by
  rw [f53_raw]
  simp only [f53_l0_eq]
  rfl

/-! 118 loop.example/g00480/laws.toWant -/
noncomputable def f118 (p : Pr β) (n : Nat) (a0 : AV) (H : Heap) (k : AV → Heap → Option β) : Option β :=
  p.box a0 H fun t1 H =>
  p.new [(.sc (.string ⟨#[]⟩)), (.sc (.int .i64 0))] H fun t2 H =>
  p.new [(.sc (.string ⟨#[]⟩)), (.sc (.int .i64 0))] H fun t3 H =>
  p.fadr 0 t1 fun t4 =>
  p.load false 1 t4 H fun t5 =>
  p.fadr 0 t3 fun t6 =>
  p.store 1 t6 t5 H fun H =>
  p.fadr 1 t1 fun t7 =>
  p.load false 1 t7 H fun t8 =>
  p.fadr 1 t3 fun t9 =>
  p.store 1 t9 t8 H fun H =>
  p.load true 2 t3 H fun t10 =>
  p.store 2 t2 t10 H fun H =>
  p.load true 2 t2 H fun r0 =>
  k r0 H
theorem f118_body (p : Pr β) (n : Nat) (a0 : AV) (H : Heap) (k : AV → Heap → Option β) : evalBody ti0 p n ⟨c118, 11, Go.Proofs.Try.f118.results.toList, o118⟩ [a0] H k = f118 p n a0 H k := by kernel_rfl

/-! 92 loop.example/g00480/laws.toWantS -/
noncomputable def f92_l0 (p : Pr β) (n : Nat)  (k : AV → Heap → Option β) : Nat → AV → AV → AV → Heap → Option β
  | 0, _, _, _, _ => none
  | m + 1, t0, t3, t4, H => p.len t0 fun t10 =>
      p.bin .lss t4 t10 fun t11 =>
      p.cond t11
      (p.iadr 2 t0 t4 fun t18 =>
      p.load true 2 t18 H fun t19 =>
      p.call 148 (.fn 118 [] []) [t19] H fun t20 H =>
      p.iadr 2 t3 t4 fun t21 =>
      p.store 2 t21 t20 H fun H =>
      p.bin .add t4 (.sc (.int .i64 1)) fun t13 =>
      f92_l0 p n  k m t0 t3 t13 H)
      (k t3 H)
noncomputable def f92 (p : Pr β) (n : Nat) (a0 : AV) (H : Heap) (k : AV → Heap → Option β) : Option β :=
  p.len a0 fun t6 =>
  p.make 2 24 [(.sc (.string ⟨#[]⟩)), (.sc (.int .i64 0))] t6 t6 H fun t7 H =>
  f92_l0 p n  k n a0 t7 (.sc (.int .i64 0)) H
noncomputable def f92_L0 (p : Pr β) (n : Nat)  (k : AV → Heap → Option β) (m : Nat) (tm : Tm) (H : Heap) : Option β :=
  iterC 23 (fun tm H k => evalCode ti0 p o92 23 n (cd c92 [1, 1, 0, 1, 0, 0]) tm H k) (blkK 0 (seqK (fun tm H => evalCode ti0 p o92 23 n (cd c92 [1, 1, 1]) tm H (endK ti0 p Go.Proofs.Try.f92.results.toList k)) (endK ti0 p Go.Proofs.Try.f92.results.toList k))) m tm H
theorem f92_L0_step (p : Pr β) (n : Nat)  (k : AV → Heap → Option β) (m0 : Nat) (t0 t1 t2 t3 t4 t5 t6 t7 t8 t9 t10 t11 t12 t13 t14 t15 t16 t17 t18 t19 t20 t21 t22 : AV) (H : Heap) : f92_L0 p n  k (m0 + 1) [(0, t0), (1, t1), (2, t2), (3, t3), (4, t4), (5, t5), (6, t6), (7, t7), (8, t8), (9, t9), (10, t10), (11, t11), (12, t12), (13, t13), (14, t14), (15, t15), (16, t16), (17, t17), (18, t18), (19, t19), (20, t20), (21, t21), (22, t22)] H =
  p.len t0 fun t10 =>
  p.bin .lss t4 t10 fun t11 =>
  p.cond t11
  (p.iadr 2 t0 t4 fun t18 =>
  p.load true 2 t18 H fun t19 =>
  p.call 148 (.fn 118 [] []) [t19] H fun t20 H =>
  p.iadr 2 t3 t4 fun t21 =>
  p.store 2 t21 t20 H fun H =>
  p.bin .add t4 (.sc (.int .i64 1)) fun t13 =>
  f92_L0 p n  k m0 [(0, t0), (1, t1), (2, t2), (3, t3), (4, t13), (5, t5), (6, t6), (7, t7), (8, t4), (9, t0), (10, t10), (11, t11), (12, t4), (13, t13), (14, t3), (15, t4), (16, t0), (17, t4), (18, t18), (19, t19), (20, t20), (21, t21), (22, t22)] H)
  (k t3 H) := by kernel_rfl
theorem f92_l0_eq (p : Pr β) (n : Nat)  (k : AV → Heap → Option β)   (m0 : Nat) : ∀ (t0 t1 t2 t3 t4 t5 t6 t7 t8 t9 t10 t11 t12 t13 t14 t15 t16 t17 t18 t19 t20 t21 t22 : AV) (H : Heap), f92_L0 p n  k m0 [(0, t0), (1, t1), (2, t2), (3, t3), (4, t4), (5, t5), (6, t6), (7, t7), (8, t8), (9, t9), (10, t10), (11, t11), (12, t12), (13, t13), (14, t14), (15, t15), (16, t16), (17, t17), (18, t18), (19, t19), (20, t20), (21, t21), (22, t22)] H = f92_l0 p n  k m0 t0 t3 t4 H := by
  induction m0 with
  | zero => intros; rfl
  | succ m0 ih =>
    intro t0 t1 t2 t3 t4 t5 t6 t7 t8 t9 t10 t11 t12 t13 t14 t15 t16 t17 t18 t19 t20 t21 t22 H
    rw [f92_L0_step]
    simp only [ih]
    rfl
theorem f92_raw (p : Pr β) (n : Nat) (a0 : AV) (H : Heap) (k : AV → Heap → Option β) : evalBody ti0 p n ⟨c92, 23, Go.Proofs.Try.f92.results.toList, o92⟩ [a0] H k =
  p.len a0 fun t6 =>
  p.make 2 24 [(.sc (.string ⟨#[]⟩)), (.sc (.int .i64 0))] t6 t6 H fun t7 H =>
  f92_L0 p n  k n [(0, a0), (1, (.sc undef)), (2, .nl), (3, t7), (4, (.sc (.int .i64 0))), (5, a0), (6, t6), (7, t7), (8, (.sc undef)), (9, (.sc undef)), (10, (.sc undef)), (11, (.sc undef)), (12, (.sc undef)), (13, (.sc undef)), (14, (.sc undef)), (15, (.sc undef)), (16, (.sc undef)), (17, (.sc undef)), (18, (.sc undef)), (19, (.sc undef)), (20, (.sc undef)), (21, (.sc undef)), (22, (.sc undef))] H := by kernel_rfl
theorem f92_body (p : Pr β) (n : Nat) (a0 : AV) (H : Heap) (k : AV → Heap → Option β) : evalBody ti0 p n ⟨c92, 23, Go.Proofs.Try.f92.results.toList, o92⟩ [a0] H k = f92 p n a0 H k := by
  rw [f92_raw]
  simp only [f92_l0_eq]
  rfl

/-! 93 loop.example/g00480/laws.toStringS -/
noncomputable def f93_l0 (p : Pr β) (n : Nat)  (k : AV → Heap → Option β) : Nat → AV → AV → AV → Heap → Option β
  | 0, _, _, _, _ => none
  | m + 1, t0, t3, t4, H => p.len t0 fun t10 =>
      p.bin .lss t4 t10 fun t11 =>
      p.cond t11
      (p.iadr 1 t0 t4 fun t18 =>
      p.load false 1 t18 H fun t19 =>
      p.iadr 1 t3 t4 fun t20 =>
      p.store 1 t20 t19 H fun H =>
      p.bin .add t4 (.sc (.int .i64 1)) fun t13 =>
      f93_l0 p n  k m t0 t3 t13 H)
      (k t3 H)
noncomputable def f93 (p : Pr β) (n : Nat) (a0 : AV) (H : Heap) (k : AV → Heap → Option β) : Option β :=
  p.len a0 fun t6 =>
  p.make 1 16 [(.sc (.string ⟨#[]⟩))] t6 t6 H fun t7 H =>
  f93_l0 p n  k n a0 t7 (.sc (.int .i64 0)) H
noncomputable def f93_L0 (p : Pr β) (n : Nat)  (k : AV → Heap → Option β) (m : Nat) (tm : Tm) (H : Heap) : Option β :=
  iterC 22 (fun tm H k => evalCode ti0 p o93 22 n (cd c93 [1, 1, 0, 1, 0, 0]) tm H k) (blkK 0 (seqK (fun tm H => evalCode ti0 p o93 22 n (cd c93 [1, 1, 1]) tm H (endK ti0 p Go.Proofs.Try.f93.results.toList k)) (endK ti0 p Go.Proofs.Try.f93.results.toList k))) m tm H
theorem f93_L0_step (p : Pr β) (n : Nat)  (k : AV → Heap → Option β) (m0 : Nat) (t0 t1 t2 t3 t4 t5 t6 t7 t8 t9 t10 t11 t12 t13 t14 t15 t16 t17 t18 t19 t20 t21 : AV) (H : Heap) : f93_L0 p n  k (m0 + 1) [(0, t0), (1, t1), (2, t2), (3, t3), (4, t4), (5, t5), (6, t6), (7, t7), (8, t8), (9, t9), (10, t10), (11, t11), (12, t12), (13, t13), (14, t14), (15, t15), (16, t16), (17, t17), (18, t18), (19, t19), (20, t20), (21, t21)] H =
  p.len t0 fun t10 =>
  p.bin .lss t4 t10 fun t11 =>
  p.cond t11
  (p.iadr 1 t0 t4 fun t18 =>
  p.load false 1 t18 H fun t19 =>
  p.iadr 1 t3 t4 fun t20 =>
  p.store 1 t20 t19 H fun H =>
  p.bin .add t4 (.sc (.int .i64 1)) fun t13 =>
  f93_L0 p n  k m0 [(0, t0), (1, t1), (2, t2), (3, t3), (4, t13), (5, t5), (6, t6), (7, t7), (8, t4), (9, t0), (10, t10), (11, t11), (12, t4), (13, t13), (14, t3), (15, t4), (16, t0), (17, t4), (18, t18), (19, t19), (20, t20), (21, t21)] H)
  (k t3 H) := by kernel_rfl
theorem f93_l0_eq (p : Pr β) (n : Nat)  (k : AV → Heap → Option β)   (m0 : Nat) : ∀ (t0 t1 t2 t3 t4 t5 t6 t7 t8 t9 t10 t11 t12 t13 t14 t15 t16 t17 t18 t19 t20 t21 : AV) (H : Heap), f93_L0 p n  k m0 [(0, t0), (1, t1), (2, t2), (3, t3), (4, t4), (5, t5), (6, t6), (7, t7), (8, t8), (9, t9), (10, t10), (11, t11), (12, t12), (13, t13), (14, t14), (15, t15), (16, t16), (17, t17), (18, t18), (19, t19), (20, t20), (21, t21)] H = f93_l0 p n  k m0 t0 t3 t4 H := by
  induction m0 with
  | zero => intros; rfl
  | succ m0 ih =>
    intro t0 t1 t2 t3 t4 t5 t6 t7 t8 t9 t10 t11 t12 t13 t14 t15 t16 t17 t18 t19 t20 t21 H
    rw [f93_L0_step]
    simp only [ih]
    rfl
theorem f93_raw (p : Pr β) (n : Nat) (a0 : AV) (H : Heap) (k : AV → Heap → Option β) : evalBody ti0 p n ⟨c93, 22, Go.Proofs.Try.f93.results.toList, o93⟩ [a0] H k =
  p.len a0 fun t6 =>
  p.make 1 16 [(.sc (.string ⟨#[]⟩))] t6 t6 H fun t7 H =>
  f93_L0 p n  k n [(0, a0), (1, (.sc undef)), (2, .nl), (3, t7), (4, (.sc (.int .i64 0))), (5, a0), (6, t6), (7, t7), (8, (.sc undef)), (9, (.sc undef)), (10, (.sc undef)), (11, (.sc undef)), (12, (.sc undef)), (13, (.sc undef)), (14, (.sc undef)), (15, (.sc undef)), (16, (.sc undef)), (17, (.sc undef)), (18, (.sc undef)), (19, (.sc undef)), (20, (.sc undef)), (21, (.sc undef))] H := by kernel_rfl
theorem f93_body (p : Pr β) (n : Nat) (a0 : AV) (H : Heap) (k : AV → Heap → Option β) : evalBody ti0 p n ⟨c93, 22, Go.Proofs.Try.f93.results.toList, o93⟩ [a0] H k = f93 p n a0 H k := by
  rw [f93_raw]
  simp only [f93_l0_eq]
  rfl

/-! 69 loop.example/g00480/laws.toIntS -/
noncomputable def f69_l0 (p : Pr β) (n : Nat)  (k : AV → Heap → Option β) : Nat → AV → AV → AV → Heap → Option β
  | 0, _, _, _, _ => none
  | m + 1, t0, t3, t4, H => p.len t0 fun t10 =>
      p.bin .lss t4 t10 fun t11 =>
      p.cond t11
      (p.iadr 1 t0 t4 fun t18 =>
      p.load false 1 t18 H fun t19 =>
      p.iadr 1 t3 t4 fun t20 =>
      p.store 1 t20 t19 H fun H =>
      p.bin .add t4 (.sc (.int .i64 1)) fun t13 =>
      f69_l0 p n  k m t0 t3 t13 H)
      (k t3 H)
noncomputable def f69 (p : Pr β) (n : Nat) (a0 : AV) (H : Heap) (k : AV → Heap → Option β) : Option β :=
  p.len a0 fun t6 =>
  p.make 1 8 [(.sc (.int .i64 0))] t6 t6 H fun t7 H =>
  f69_l0 p n  k n a0 t7 (.sc (.int .i64 0)) H
noncomputable def f69_L0 (p : Pr β) (n : Nat)  (k : AV → Heap → Option β) (m : Nat) (tm : Tm) (H : Heap) : Option β :=
  iterC 22 (fun tm H k => evalCode ti0 p o69 22 n (cd c69 [1, 1, 0, 1, 0, 0]) tm H k) (blkK 0 (seqK (fun tm H => evalCode ti0 p o69 22 n (cd c69 [1, 1, 1]) tm H (endK ti0 p Go.Proofs.Try.f69.results.toList k)) (endK ti0 p Go.Proofs.Try.f69.results.toList k))) m tm H
theorem f69_L0_step (p : Pr β) (n : Nat)  (k : AV → Heap → Option β) (m0 : Nat) (t0 t1 t2 t3 t4 t5 t6 t7 t8 t9 t10 t11 t12 t13 t14 t15 t16 t17 t18 t19 t20 t21 : AV) (H : Heap) : f69_L0 p n  k (m0 + 1) [(0, t0), (1, t1), (2, t2), (3, t3), (4, t4), (5, t5), (6, t6), (7, t7), (8, t8), (9, t9), (10, t10), (11, t11), (12, t12), (13, t13), (14, t14), (15, t15), (16, t16), (17, t17), (18, t18), (19, t19), (20, t20), (21, t21)] H =
  p.len t0 fun t10 =>
  p.bin .lss t4 t10 fun t11 =>
  p.cond t11
  (p.iadr 1 t0 t4 fun t18 =>
  p.load false 1 t18 H fun t19 =>
  p.iadr 1 t3 t4 fun t20 =>
  p.store 1 t20 t19 H fun H =>
  p.bin .add t4 (.sc (.int .i64 1)) fun t13 =>
  f69_L0 p n  k m0 [(0, t0), (1, t1), (2, t2), (3, t3), (4, t13), (5, t5), (6, t6), (7, t7), (8, t4), (9, t0), (10, t10), (11, t11), (12, t4), (13, t13), (14, t3), (15, t4), (16, t0), (17, t4), (18, t18), (19, t19), (20, t20), (21, t21)] H)
  (k t3 H) := by kernel_rfl
theorem f69_l0_eq (p : Pr β) (n : Nat)  (k : AV → Heap → Option β)   (m0 : Nat) : ∀ (t0 t1 t2 t3 t4 t5 t6 t7 t8 t9 t10 t11 t12 t13 t14 t15 t16 t17 t18 t19 t20 t21 : AV) (H : Heap), f69_L0 p n  k m0 [(0, t0), (1, t1), (2, t2), (3, t3), (4, t4), (5, t5), (6, t6), (7, t7), (8, t8), (9, t9), (10, t10), (11, t11), (12, t12), (13, t13), (14, t14), (15, t15), (16, t16), (17, t17), (18, t18), (19, t19), (20, t20), (21, t21)] H = f69_l0 p n  k m0 t0 t3 t4 H := by
  induction m0 with
  | zero => intros; rfl
  | succ m0 ih =>
    intro t0 t1 t2 t3 t4 t5 t6 t7 t8 t9 t10 t11 t12 t13 t14 t15 t16 t17 t18 t19 t20 t21 H
    rw [f69_L0_step]
    simp only [ih]
    rfl
theorem f69_raw (p : Pr β) (n : Nat) (a0 : AV) (H : Heap) (k : AV → Heap → Option β) : evalBody ti0 p n ⟨c69, 22, Go.Proofs.Try.f69.results.toList, o69⟩ [a0] H k =
  p.len a0 fun t6 =>
  p.make 1 8 [(.sc (.int .i64 0))] t6 t6 H fun t7 H =>
  f69_L0 p n  k n [(0, a0), (1, (.sc undef)), (2, .nl), (3, t7), (4, (.sc (.int .i64 0))), (5, a0), (6, t6), (7, t7), (8, (.sc undef)), (9, (.sc undef)), (10, (.sc undef)), (11, (.sc undef)), (12, (.sc undef)), (13, (.sc undef)), (14, (.sc undef)), (15, (.sc undef)), (16, (.sc undef)), (17, (.sc undef)), (18, (.sc undef)), (19, (.sc undef)), (20, (.sc undef)), (21, (.sc undef))] H := by kernel_rfl
theorem f69_body (p : Pr β) (n : Nat) (a0 : AV) (H : Heap) (k : AV → Heap → Option β) : evalBody ti0 p n ⟨c69, 22, Go.Proofs.Try.f69.results.toList, o69⟩ [a0] H k = f69 p n a0 H k := by
  rw [f69_raw]
  simp only [f69_l0_eq]
  rfl

/-! 62 loop.example/g00480/laws.toPacket -/
noncomputable def f62 (p : Pr β) (n : Nat) (a0 : AV) (H : Heap) (k : AV → Heap → Option β) : Option β :=
  p.box a0 H fun t1 H =>
  p.new [(.sc (.int .i64 0)), (.sc (.bool false)), (.sc (.int .i64 0)), (.sc (.bool false)), (.sc (.int .i64 0)), (.sc (.string ⟨#[]⟩)), .nl, (.sc (.string ⟨#[]⟩)), (.sc (.int .i64 0)), (.sc (.bool false)), (.sc (.int .i64 0)), (.sc (.bool false)), (.sc (.string ⟨#[]⟩)), .nl, (.sc (.int .i64 0)), (.sc (.bool false)), (.sc (.bool false)), (.sc (.string ⟨#[]⟩)), (.sc (.bool false)), .nl, (.sc (.int .i64 0)), (.sc (.bool false)), .nl, .nl, .nl] H fun t2 H =>
  p.new [(.sc (.int .i64 0)), (.sc (.bool false)), (.sc (.int .i64 0)), (.sc (.bool false)), (.sc (.int .i64 0)), (.sc (.string ⟨#[]⟩)), .nl, (.sc (.string ⟨#[]⟩)), (.sc (.int .i64 0)), (.sc (.bool false)), (.sc (.int .i64 0)), (.sc (.bool false)), (.sc (.string ⟨#[]⟩)), .nl, (.sc (.int .i64 0)), (.sc (.bool false)), (.sc (.bool false)), (.sc (.string ⟨#[]⟩)), (.sc (.bool false)), .nl, (.sc (.int .i64 0)), (.sc (.bool false)), .nl, .nl, .nl] H fun t3 H =>
  p.fadr 0 t1 fun t4 =>
  p.load false 1 t4 H fun t5 =>
  p.fadr 0 t3 fun t6 =>
  p.store 1 t6 t5 H fun H =>
  p.fadr 1 t1 fun t7 =>
  p.load false 1 t7 H fun t8 =>
  p.fadr 1 t3 fun t9 =>
  p.store 1 t9 t8 H fun H =>
  p.fadr 2 t1 fun t10 =>
  p.load false 1 t10 H fun t11 =>
  p.fadr 2 t3 fun t12 =>
  p.store 1 t12 t11 H fun H =>
  p.fadr 3 t1 fun t13 =>
  p.load false 1 t13 H fun t14 =>
  p.fadr 3 t3 fun t15 =>
  p.store 1 t15 t14 H fun H =>
  p.fadr 4 t1 fun t16 =>
  p.load false 1 t16 H fun t17 =>
  p.fadr 4 t3 fun t18 =>
  p.store 1 t18 t17 H fun H =>
  p.fadr 5 t1 fun t19 =>
  p.load false 1 t19 H fun t20 =>
  p.fadr 5 t3 fun t21 =>
  p.store 1 t21 t20 H fun H =>
  p.fadr 6 t1 fun t22 =>
  p.load false 1 t22 H fun t23 =>
  p.call 33 (.fn 53 [] []) [t23] H fun t24 H =>
  p.fadr 6 t3 fun t25 =>
  p.store 1 t25 t24 H fun H =>
  p.fadr 7 t1 fun t26 =>
  p.load false 1 t26 H fun t27 =>
  p.fadr 7 t3 fun t28 =>
  p.store 1 t28 t27 H fun H =>
  p.fadr 8 t1 fun t29 =>
  p.load false 1 t29 H fun t30 =>
  p.fadr 8 t3 fun t31 =>
  p.store 1 t31 t30 H fun H =>
  p.fadr 9 t1 fun t32 =>
  p.load false 1 t32 H fun t33 =>
  p.fadr 9 t3 fun t34 =>
  p.store 1 t34 t33 H fun H =>
  p.fadr 10 t1 fun t35 =>
  p.load false 1 t35 H fun t36 =>
  p.fadr 10 t3 fun t37 =>
  p.store 1 t37 t36 H fun H =>
  p.fadr 11 t1 fun t38 =>
  p.load false 1 t38 H fun t39 =>
  p.fadr 11 t3 fun t40 =>
  p.store 1 t40 t39 H fun H =>
  p.fadr 12 t1 fun t41 =>
  p.load false 1 t41 H fun t42 =>
  p.fadr 12 t3 fun t43 =>
  p.store 1 t43 t42 H fun H =>
  p.fadr 13 t1 fun t44 =>
  p.load false 1 t44 H fun t45 =>
  p.call 33 (.fn 53 [] []) [t45] H fun t46 H =>
  p.fadr 13 t3 fun t47 =>
  p.store 1 t47 t46 H fun H =>
  p.fadr 14 t1 fun t48 =>
  p.load false 1 t48 H fun t49 =>
  p.fadr 14 t3 fun t50 =>
  p.store 1 t50 t49 H fun H =>
  p.fadr 15 t1 fun t51 =>
  p.load false 1 t51 H fun t52 =>
  p.fadr 15 t3 fun t53 =>
  p.store 1 t53 t52 H fun H =>
  p.fadr 16 t1 fun t54 =>
  p.load false 1 t54 H fun t55 =>
  p.fadr 16 t3 fun t56 =>
  p.store 1 t56 t55 H fun H =>
  p.fadr 17 t1 fun t57 =>
  p.load false 1 t57 H fun t58 =>
  p.fadr 17 t3 fun t59 =>
  p.store 1 t59 t58 H fun H =>
  p.fadr 18 t1 fun t60 =>
  p.load false 1 t60 H fun t61 =>
  p.fadr 18 t3 fun t62 =>
  p.store 1 t62 t61 H fun H =>
  p.fadr 19 t1 fun t63 =>
  p.load false 1 t63 H fun t64 =>
  p.call 33 (.fn 53 [] []) [t64] H fun t65 H =>
  p.fadr 19 t3 fun t66 =>
  p.store 1 t66 t65 H fun H =>
  p.fadr 20 t1 fun t67 =>
  p.load false 1 t67 H fun t68 =>
  p.fadr 20 t3 fun t69 =>
  p.store 1 t69 t68 H fun H =>
  p.fadr 21 t1 fun t70 =>
  p.load false 1 t70 H fun t71 =>
  p.fadr 21 t3 fun t72 =>
  p.store 1 t72 t71 H fun H =>
  p.fadr 22 t1 fun t73 =>
  p.load false 1 t73 H fun t74 =>
  p.call 62 (.fn 92 [] []) [t74] H fun t75 H =>
  p.fadr 22 t3 fun t76 =>
  p.store 1 t76 t75 H fun H =>
  p.fadr 23 t1 fun t77 =>
  p.load false 1 t77 H fun t78 =>
  p.call 52 (.fn 93 [] []) [t78] H fun t79 H =>
  p.fadr 23 t3 fun t80 =>
  p.store 1 t80 t79 H fun H =>
  p.fadr 24 t1 fun t81 =>
  p.load false 1 t81 H fun t82 =>
  p.call 53 (.fn 69 [] []) [t82] H fun t83 H =>
  p.fadr 24 t3 fun t84 =>
  p.store 1 t84 t83 H fun H =>
  p.load true 25 t3 H fun t85 =>
  p.store 25 t2 t85 H fun H =>
  p.load true 25 t2 H fun r0 =>
  k r0 H
theorem f62_body (p : Pr β) (n : Nat) (a0 : AV) (H : Heap) (k : AV → Heap → Option β) : evalBody ti0 p n ⟨c62, 86, Go.Proofs.Try.f62.results.toList, o62⟩ [a0] H k = f62 p n a0 H k := by kernel_rfl

/-! 94 loop.example/g00480/laws.toSub -/
noncomputable def f94 (p : Pr β) (n : Nat) (a0 : AV) (H : Heap) (k : AV → Heap → Option β) : Option β :=
  p.box a0 H fun t1 H =>
  p.new [(.sc (.string ⟨#[]⟩)), (.sc (.int .i64 0)), (.sc (.int .i64 0))] H fun t2 H =>
  p.new [(.sc (.string ⟨#[]⟩)), (.sc (.int .i64 0)), (.sc (.int .i64 0))] H fun t3 H =>
  p.fadr 0 t1 fun t4 =>
  p.load false 1 t4 H fun t5 =>
  p.fadr 0 t3 fun t6 =>
  p.store 1 t6 t5 H fun H =>
  p.fadr 1 t1 fun t7 =>
  p.load false 1 t7 H fun t8 =>
  p.fadr 1 t3 fun t9 =>
  p.store 1 t9 t8 H fun H =>
  p.fadr 2 t1 fun t10 =>
  p.load false 1 t10 H fun t11 =>
  p.fadr 2 t3 fun t12 =>
  p.store 1 t12 t11 H fun H =>
  p.load true 3 t3 H fun t13 =>
  p.store 3 t2 t13 H fun H =>
  p.load true 3 t2 H fun r0 =>
  k r0 H
theorem f94_body (p : Pr β) (n : Nat) (a0 : AV) (H : Heap) (k : AV → Heap → Option β) : evalBody ti0 p n ⟨c94, 14, Go.Proofs.Try.f94.results.toList, o94⟩ [a0] H k = f94 p n a0 H k := by kernel_rfl

/-! 63 loop.example/g00480/laws.toSubS -/
noncomputable def f63_l0 (p : Pr β) (n : Nat)  (k : AV → Heap → Option β) : Nat → AV → AV → AV → Heap → Option β
  | 0, _, _, _, _ => none
  | m + 1, t0, t3, t4, H => p.len t0 fun t10 =>
      p.bin .lss t4 t10 fun t11 =>
      p.cond t11
      (p.iadr 3 t0 t4 fun t18 =>
      p.load true 3 t18 H fun t19 =>
      p.call 122 (.fn 94 [] []) [t19] H fun t20 H =>
      p.iadr 3 t3 t4 fun t21 =>
      p.store 3 t21 t20 H fun H =>
      p.bin .add t4 (.sc (.int .i64 1)) fun t13 =>
      f63_l0 p n  k m t0 t3 t13 H)
      (k t3 H)
noncomputable def f63 (p : Pr β) (n : Nat) (a0 : AV) (H : Heap) (k : AV → Heap → Option β) : Option β :=
  p.len a0 fun t6 =>
  p.make 3 32 [(.sc (.string ⟨#[]⟩)), (.sc (.int .i64 0)), (.sc (.int .i64 0))] t6 t6 H fun t7 H =>
  f63_l0 p n  k n a0 t7 (.sc (.int .i64 0)) H
noncomputable def f63_L0 (p : Pr β) (n : Nat)  (k : AV → Heap → Option β) (m : Nat) (tm : Tm) (H : Heap) : Option β :=
  iterC 23 (fun tm H k => evalCode ti0 p o63 23 n (cd c63 [1, 1, 0, 1, 0, 0]) tm H k) (blkK 0 (seqK (fun tm H => evalCode ti0 p o63 23 n (cd c63 [1, 1, 1]) tm H (endK ti0 p Go.Proofs.Try.f63.results.toList k)) (endK ti0 p Go.Proofs.Try.f63.results.toList k))) m tm H
theorem f63_L0_step (p : Pr β) (n : Nat)  (k : AV → Heap → Option β) (m0 : Nat) (t0 t1 t2 t3 t4 t5 t6 t7 t8 t9 t10 t11 t12 t13 t14 t15 t16 t17 t18 t19 t20 t21 t22 : AV) (H : Heap) : f63_L0 p n  k (m0 + 1) [(0, t0), (1, t1), (2, t2), (3, t3), (4, t4), (5, t5), (6, t6), (7, t7), (8, t8), (9, t9), (10, t10), (11, t11), (12, t12), (13, t13), (14, t14), (15, t15), (16, t16), (17, t17), (18, t18), (19, t19), (20, t20), (21, t21), (22, t22)] H =
  p.len t0 fun t10 =>
  p.bin .lss t4 t10 fun t11 =>
  p.cond t11
  (p.iadr 3 t0 t4 fun t18 =>
  p.load true 3 t18 H fun t19 =>
  p.call 122 (.fn 94 [] []) [t19] H fun t20 H =>
  p.iadr 3 t3 t4 fun t21 =>
  p.store 3 t21 t20 H fun H =>
  p.bin .add t4 (.sc (.int .i64 1)) fun t13 =>
  f63_L0 p n  k m0 [(0, t0), (1, t1), (2, t2), (3, t3), (4, t13), (5, t5), (6, t6), (7, t7), (8, t4), (9, t0), (10, t10), (11, t11), (12, t4), (13, t13), (14, t3), (15, t4), (16, t0), (17, t4), (18, t18), (19, t19), (20, t20), (21, t21), (22, t22)] H)
  (k t3 H) := by kernel_rfl
theorem f63_l0_eq (p : Pr β) (n : Nat)  (k : AV → Heap → Option β)   (m0 : Nat) : ∀ (t0 t1 t2 t3 t4 t5 t6 t7 t8 t9 t10 t11 t12 t13 t14 t15 t16 t17 t18 t19 t20 t21 t22 : AV) (H : Heap), f63_L0 p n  k m0 [(0, t0), (1, t1), (2, t2), (3, t3), (4, t4), (5, t5), (6, t6), (7, t7), (8, t8), (9, t9), (10, t10), (11, t11), (12, t12), (13, t13), (14, t14), (15, t15), (16, t16), (17, t17), (18, t18), (19, t19), (20, t20), (21, t21), (22, t22)] H = f63_l0 p n  k m0 t0 t3 t4 H := by
  induction m0 with
  | zero => intros; rfl
  | succ m0 ih =>
    intro t0 t1 t2 t3 t4 t5 t6 t7 t8 t9 t10 t11 t12 t13 t14 t15 t16 t17 t18 t19 t20 t21 t22 H
    rw [f63_L0_step]
    simp only [ih]
    rfl
theorem f63_raw (p : Pr β) (n : Nat) (a0 : AV) (H : Heap) (k : AV → Heap → Option β) : evalBody ti0 p n ⟨c63, 23, Go.Proofs.Try.f63.results.toList, o63⟩ [a0] H k =
  p.len a0 fun t6 =>
  p.make 3 32 [(.sc (.string ⟨#[]⟩)), (.sc (.int .i64 0)), (.sc (.int .i64 0))] t6 t6 H fun t7 H =>
  f63_L0 p n  k n [(0, a0), (1, (.sc undef)), (2, .nl), (3, t7), (4, (.sc (.int .i64 0))), (5, a0), (6, t6), (7, t7), (8, (.sc undef)), (9, (.sc undef)), (10, (.sc undef)), (11, (.sc undef)), (12, (.sc undef)), (13, (.sc undef)), (14, (.sc undef)), (15, (.sc undef)), (16, (.sc undef)), (17, (.sc undef)), (18, (.sc undef)), (19, (.sc undef)), (20, (.sc undef)), (21, (.sc undef)), (22, (.sc undef))] H := by kernel_rfl
theorem f63_body (p : Pr β) (n : Nat) (a0 : AV) (H : Heap) (k : AV → Heap → Option β) : evalBody ti0 p n ⟨c63, 23, Go.Proofs.Try.f63.results.toList, o63⟩ [a0] H k = f63 p n a0 H k := by
  rw [f63_raw]
  simp only [f63_l0_eq]
  rfl

/-! 52 loop.example/g00480/laws.toMsg -/
noncomputable def f52 (p : Pr β) (n : Nat) (a0 : AV) (H : Heap) (k : AV → Heap → Option β) : Option β :=
  p.box a0 H fun t1 H =>
  p.new [(.sc (.string ⟨#[]⟩)), .nl, (.sc (.int .i64 0)), (.sc (.bool false))] H fun t2 H =>
  p.new [(.sc (.string ⟨#[]⟩)), .nl, (.sc (.int .i64 0)), (.sc (.bool false))] H fun t3 H =>
  p.fadr 0 t1 fun t4 =>
  p.load false 1 t4 H fun t5 =>
  p.fadr 0 t3 fun t6 =>
  p.store 1 t6 t5 H fun H =>
  p.fadr 1 t1 fun t7 =>
  p.load false 1 t7 H fun t8 =>
  p.call 33 (.fn 53 [] []) [t8] H fun t9 H =>
  p.fadr 1 t3 fun t10 =>
  p.store 1 t10 t9 H fun H =>
  p.fadr 2 t1 fun t11 =>
  p.load false 1 t11 H fun t12 =>
  p.fadr 2 t3 fun t13 =>
  p.store 1 t13 t12 H fun H =>
  p.fadr 3 t1 fun t14 =>
  p.load false 1 t14 H fun t15 =>
  p.fadr 3 t3 fun t16 =>
  p.store 1 t16 t15 H fun H =>
  p.load true 4 t3 H fun t17 =>
  p.store 4 t2 t17 H fun H =>
  p.load true 4 t2 H fun r0 =>
  k r0 H
theorem f52_body (p : Pr β) (n : Nat) (a0 : AV) (H : Heap) (k : AV → Heap → Option β) : evalBody ti0 p n ⟨c52, 18, Go.Proofs.Try.f52.results.toList, o52⟩ [a0] H k = f52 p n a0 H k := by kernel_rfl

/-! 64 loop.example/g00480/laws.toMsgS -/
noncomputable def f64_l0 (p : Pr β) (n : Nat)  (k : AV → Heap → Option β) : Nat → AV → AV → AV → Heap → Option β
  | 0, _, _, _, _ => none
  | m + 1, t0, t3, t4, H => p.len t0 fun t10 =>
      p.bin .lss t4 t10 fun t11 =>
      p.cond t11
      (p.iadr 4 t0 t4 fun t18 =>
      p.load true 4 t18 H fun t19 =>
      p.call 45 (.fn 52 [] []) [t19] H fun t20 H =>
      p.iadr 4 t3 t4 fun t21 =>
      p.store 4 t21 t20 H fun H =>
      p.bin .add t4 (.sc (.int .i64 1)) fun t13 =>
      f64_l0 p n  k m t0 t3 t13 H)
      (k t3 H)
noncomputable def f64 (p : Pr β) (n : Nat) (a0 : AV) (H : Heap) (k : AV → Heap → Option β) : Option β :=
  p.len a0 fun t6 =>
  p.make 4 56 [(.sc (.string ⟨#[]⟩)), .nl, (.sc (.int .i64 0)), (.sc (.bool false))] t6 t6 H fun t7 H =>
  f64_l0 p n  k n a0 t7 (.sc (.int .i64 0)) H
noncomputable def f64_L0 (p : Pr β) (n : Nat)  (k : AV → Heap → Option β) (m : Nat) (tm : Tm) (H : Heap) : Option β :=
  iterC 23 (fun tm H k => evalCode ti0 p o64 23 n (cd c64 [1, 1, 0, 1, 0, 0]) tm H k) (blkK 0 (seqK (fun tm H => evalCode ti0 p o64 23 n (cd c64 [1, 1, 1]) tm H (endK ti0 p Go.Proofs.Try.f64.results.toList k)) (endK ti0 p Go.Proofs.Try.f64.results.toList k))) m tm H
theorem f64_L0_step (p : Pr β) (n : Nat)  (k : AV → Heap → Option β) (m0 : Nat) (t0 t1 t2 t3 t4 t5 t6 t7 t8 t9 t10 t11 t12 t13 t14 t15 t16 t17 t18 t19 t20 t21 t22 : AV) (H : Heap) : f64_L0 p n  k (m0 + 1) [(0, t0), (1, t1), (2, t2), (3, t3), (4, t4), (5, t5), (6, t6), (7, t7), (8, t8), (9, t9), (10, t10), (11, t11), (12, t12), (13, t13), (14, t14), (15, t15), (16, t16), (17, t17), (18, t18), (19, t19), (20, t20), (21, t21), (22, t22)] H =
  p.len t0 fun t10 =>
  p.bin .lss t4 t10 fun t11 =>
  p.cond t11
  (p.iadr 4 t0 t4 fun t18 =>
  p.load true 4 t18 H fun t19 =>
  p.call 45 (.fn 52 [] []) [t19] H fun t20 H =>
  p.iadr 4 t3 t4 fun t21 =>
  p.store 4 t21 t20 H fun H =>
  p.bin .add t4 (.sc (.int .i64 1)) fun t13 =>
  f64_L0 p n  k m0 [(0, t0), (1, t1), (2, t2), (3, t3), (4, t13), (5, t5), (6, t6), (7, t7), (8, t4), (9, t0), (10, t10), (11, t11), (12, t4), (13, t13), (14, t3), (15, t4), (16, t0), (17, t4), (18, t18), (19, t19), (20, t20), (21, t21), (22, t22)] H)
  (k t3 H) := by kernel_rfl
theorem f64_l0_eq (p : Pr β) (n : Nat)  (k : AV → Heap → Option β)   (m0 : Nat) : ∀ (t0 t1 t2 t3 t4 t5 t6 t7 t8 t9 t10 t11 t12 t13 t14 t15 t16 t17 t18 t19 t20 t21 t22 : AV) (H : Heap), f64_L0 p n  k m0 [(0, t0), (1, t1), (2, t2), (3, t3), (4, t4), (5, t5), (6, t6), (7, t7), (8, t8), (9, t9), (10, t10), (11, t11), (12, t12), (13, t13), (14, t14), (15, t15), (16, t16), (17, t17), (18, t18), (19, t19), (20, t20), (21, t21), (22, t22)] H = f64_l0 p n  k m0 t0 t3 t4 H := by
  induction m0 with
  | zero => intros; rfl
  | succ m0 ih =>
    intro t0 t1 t2 t3 t4 t5 t6 t7 t8 t9 t10 t11 t12 t13 t14 t15 t16 t17 t18 t19 t20 t21 t22 H
    rw [f64_L0_step]
    simp only [ih]
    rfl
theorem f64_raw (p : Pr β) (n : Nat) (a0 : AV) (H : Heap) (k : AV → Heap → Option β) : evalBody ti0 p n ⟨c64, 23, Go.Proofs.Try.f64.results.toList, o64⟩ [a0] H k =
  p.len a0 fun t6 =>
  p.make 4 56 [(.sc (.string ⟨#[]⟩)), .nl, (.sc (.int .i64 0)), (.sc (.bool false))] t6 t6 H fun t7 H =>
  f64_L0 p n  k n [(0, a0), (1, (.sc undef)), (2, .nl), (3, t7), (4, (.sc (.int .i64 0))), (5, a0), (6, t6), (7, t7), (8, (.sc undef)), (9, (.sc undef)), (10, (.sc undef)), (11, (.sc undef)), (12, (.sc undef)), (13, (.sc undef)), (14, (.sc undef)), (15, (.sc undef)), (16, (.sc undef)), (17, (.sc undef)), (18, (.sc undef)), (19, (.sc undef)), (20, (.sc undef)), (21, (.sc undef)), (22, (.sc undef))] H := by kernel_rfl
theorem f64_body (p : Pr β) (n : Nat) (a0 : AV) (H : Heap) (k : AV → Heap → Option β) : evalBody ti0 p n ⟨c64, 23, Go.Proofs.Try.f64.results.toList, o64⟩ [a0] H k = f64 p n a0 H k := by
  rw [f64_raw]
  simp only [f64_l0_eq]
  rfl

/-! 28 loop.example/g00480/laws.toDeed -/
noncomputable def f28 (p : Pr β) (n : Nat) (a0 : AV) (H : Heap) (k : AV → Heap → Option β) : Option β :=
  p.box a0 H fun t1 H =>
  p.new [(.sc (.int .i64 0)), (.sc (.int .i64 0)), (.sc (.int .i64 0)), (.sc (.string ⟨#[]⟩)), (.sc (.int .i64 0)), (.sc (.bool false)), (.sc (.int .i64 0)), (.sc (.bool false)), (.sc (.int .i64 0)), (.sc (.string ⟨#[]⟩)), .nl, (.sc (.string ⟨#[]⟩)), (.sc (.int .i64 0)), (.sc (.bool false)), (.sc (.int .i64 0)), (.sc (.bool false)), (.sc (.string ⟨#[]⟩)), .nl, (.sc (.int .i64 0)), (.sc (.bool false)), (.sc (.bool false)), (.sc (.string ⟨#[]⟩)), (.sc (.bool false)), .nl, (.sc (.int .i64 0)), (.sc (.bool false)), .nl, .nl, .nl, (.sc (.int .i64 0)), (.sc (.int .i64 0)), (.sc (.int .i64 0)), (.sc (.bool false)), (.sc (.int .i64 0)), (.sc (.int .i64 0)), (.sc (.bool false)), (.sc (.bool false)), .nl, .nl, .nl] H fun t2 H =>
  p.new [(.sc (.int .i64 0)), (.sc (.int .i64 0)), (.sc (.int .i64 0)), (.sc (.string ⟨#[]⟩)), (.sc (.int .i64 0)), (.sc (.bool false)), (.sc (.int .i64 0)), (.sc (.bool false)), (.sc (.int .i64 0)), (.sc (.string ⟨#[]⟩)), .nl, (.sc (.string ⟨#[]⟩)), (.sc (.int .i64 0)), (.sc (.bool false)), (.sc (.int .i64 0)), (.sc (.bool false)), (.sc (.string ⟨#[]⟩)), .nl, (.sc (.int .i64 0)), (.sc (.bool false)), (.sc (.bool false)), (.sc (.string ⟨#[]⟩)), (.sc (.bool false)), .nl, (.sc (.int .i64 0)), (.sc (.bool false)), .nl, .nl, .nl, (.sc (.int .i64 0)), (.sc (.int .i64 0)), (.sc (.int .i64 0)), (.sc (.bool false)), (.sc (.int .i64 0)), (.sc (.int .i64 0)), (.sc (.bool false)), (.sc (.bool false)), .nl, .nl, .nl] H fun t3 H =>
  p.fadr 0 t1 fun t4 =>
  p.load false 1 t4 H fun t5 =>
  p.fadr 0 t3 fun t6 =>
  p.store 1 t6 t5 H fun H =>
  p.fadr 1 t1 fun t7 =>
  p.load false 1 t7 H fun t8 =>
  p.fadr 1 t3 fun t9 =>
  p.store 1 t9 t8 H fun H =>
  p.fadr 2 t1 fun t10 =>
  p.load false 1 t10 H fun t11 =>
  p.fadr 2 t3 fun t12 =>
  p.store 1 t12 t11 H fun H =>
  p.fadr 3 t1 fun t13 =>
  p.load false 1 t13 H fun t14 =>
  p.fadr 3 t3 fun t15 =>
  p.store 1 t15 t14 H fun H =>
  p.fadr 4 t1 fun t16 =>
  p.load true 25 t16 H fun t17 =>
  p.call 64 (.fn 62 [] []) [t17] H fun t18 H =>
  p.fadr 4 t3 fun t19 =>
  p.store 25 t19 t18 H fun H =>
  p.fadr 29 t1 fun t20 =>
  p.load false 1 t20 H fun t21 =>
  p.fadr 29 t3 fun t22 =>
  p.store 1 t22 t21 H fun H =>
  p.fadr 30 t1 fun t23 =>
  p.load false 1 t23 H fun t24 =>
  p.fadr 30 t3 fun t25 =>
  p.store 1 t25 t24 H fun H =>
  p.fadr 31 t1 fun t26 =>
  p.load false 1 t26 H fun t27 =>
  p.fadr 31 t3 fun t28 =>
  p.store 1 t28 t27 H fun H =>
  p.fadr 32 t1 fun t29 =>
  p.load false 1 t29 H fun t30 =>
  p.fadr 32 t3 fun t31 =>
  p.store 1 t31 t30 H fun H =>
  p.fadr 33 t1 fun t32 =>
  p.load false 1 t32 H fun t33 =>
  p.fadr 33 t3 fun t34 =>
  p.store 1 t34 t33 H fun H =>
  p.fadr 34 t1 fun t35 =>
  p.load false 1 t35 H fun t36 =>
  p.fadr 34 t3 fun t37 =>
  p.store 1 t37 t36 H fun H =>
  p.fadr 35 t1 fun t38 =>
  p.load false 1 t38 H fun t39 =>
  p.fadr 35 t3 fun t40 =>
  p.store 1 t40 t39 H fun H =>
  p.fadr 36 t1 fun t41 =>
  p.load false 1 t41 H fun t42 =>
  p.fadr 36 t3 fun t43 =>
  p.store 1 t43 t42 H fun H =>
  p.fadr 37 t1 fun t44 =>
  p.load false 1 t44 H fun t45 =>
  p.call 65 (.fn 63 [] []) [t45] H fun t46 H =>
  p.fadr 37 t3 fun t47 =>
  p.store 1 t47 t46 H fun H =>
  p.fadr 38 t1 fun t48 =>
  p.load false 1 t48 H fun t49 =>
  p.call 53 (.fn 69 [] []) [t49] H fun t50 H =>
  p.fadr 38 t3 fun t51 =>
  p.store 1 t51 t50 H fun H =>
  p.fadr 39 t1 fun t52 =>
  p.load false 1 t52 H fun t53 =>
  p.call 66 (.fn 64 [] []) [t53] H fun t54 H =>
  p.fadr 39 t3 fun t55 =>
  p.store 1 t55 t54 H fun H =>
  p.load true 40 t3 H fun t56 =>
  p.store 40 t2 t56 H fun H =>
  p.load true 40 t2 H fun r0 =>
  k r0 H
theorem f28_body (p : Pr β) (n : Nat) (a0 : AV) (H : Heap) (k : AV → Heap → Option β) : evalBody ti0 p n ⟨c28, 57, Go.Proofs.Try.f28.results.toList, o28⟩ [a0] H k = f28 p n a0 H k := by kernel_rfl

/-! 107 loop.example/g00480/spec.l1Same -/
noncomputable def f107 (p : Pr β) (n : Nat) (a0 a1 : AV) (H : Heap) (k : AV → Heap → Option β) : Option β :=
  p.cvBS a0 H fun t6 =>
  p.cvBS a1 H fun t8 =>
  p.bin .eql t6 t8 fun t9 =>
  k t9 H
theorem f107_body (p : Pr β) (n : Nat) (a0 a1 : AV) (H : Heap) (k : AV → Heap → Option β) : evalBody ti0 p n ⟨c107, 10, Go.Proofs.Try.f107.results.toList, o107⟩ [a0, a1] H k = f107 p n a0 a1 H k := by kernel_rfl

/-! 78 loop.example/g00480/spec.SamePacket -/
noncomputable def f78_l2 (p : Pr β) (n : Nat)  (k : AV → Heap → Option β) : Nat → AV → AV → AV → Heap → Option β
  | 0, _, _, _, _ => none
  | m + 1, t2, t3, t7, H => p.fadr 24 t2 fun t70 =>
      p.load false 1 t70 H fun t71 =>
      p.len t71 fun t72 =>
      p.bin .lss t7 t72 fun t73 =>
      p.cond t73
      (p.fadr 24 t2 fun t76 =>
      p.load false 1 t76 H fun t77 =>
      p.iadr 1 t77 t7 fun t79 =>
      p.load false 1 t79 H fun t80 =>
      p.fadr 24 t3 fun t81 =>
      p.load false 1 t81 H fun t82 =>
      p.iadr 1 t82 t7 fun t84 =>
      p.load false 1 t84 H fun t85 =>
      p.bin .neq t80 t85 fun t86 =>
      p.cond t86
      (k (.sc (.bool false)) H)
      (p.bin .add t7 (.sc (.int .i64 1)) fun t75 =>
      f78_l2 p n  k m t2 t3 t75 H))
      (p.fadr 0 t2 fun t87 =>
      p.load false 1 t87 H fun t88 =>
      p.fadr 0 t3 fun t89 =>
      p.load false 1 t89 H fun t90 =>
      p.bin .eql t88 t90 fun t91 =>
      p.guard t91 true H (fun k' => p.fadr 1 t2 fun t' => k' t' H) fun t93 H =>
      p.guard t91 true H (fun k' => p.load false 1 t93 H fun t' => k' t' H) fun t94 H =>
      p.guard t91 true H (fun k' => p.fadr 1 t3 fun t' => k' t' H) fun t95 H =>
      p.guard t91 true H (fun k' => p.load false 1 t95 H fun t' => k' t' H) fun t96 H =>
      p.guard t91 true H (fun k' => p.binB .eql t94 t96 fun t' => k' t' H) fun t97 H =>
      p.pick t91 t97 (.sc (.bool false)) fun t98 =>
      p.guard t98 true H (fun k' => p.fadr 2 t2 fun t' => k' t' H) fun t100 H =>
      p.guard t98 true H (fun k' => p.load false 1 t100 H fun t' => k' t' H) fun t101 H =>
      p.guard t98 true H (fun k' => p.fadr 2 t3 fun t' => k' t' H) fun t102 H =>
      p.guard t98 true H (fun k' => p.load false 1 t102 H fun t' => k' t' H) fun t103 H =>
      p.guard t98 true H (fun k' => p.bin .eql t101 t103 fun t' => k' t' H) fun t104 H =>
      p.pick t98 t104 (.sc (.bool false)) fun t105 =>
      p.guard t105 true H (fun k' => p.fadr 3 t2 fun t' => k' t' H) fun t107 H =>
      p.guard t105 true H (fun k' => p.load false 1 t107 H fun t' => k' t' H) fun t108 H =>
      p.guard t105 true H (fun k' => p.fadr 3 t3 fun t' => k' t' H) fun t109 H =>
      p.guard t105 true H (fun k' => p.load false 1 t109 H fun t' => k' t' H) fun t110 H =>
      p.guard t105 true H (fun k' => p.binB .eql t108 t110 fun t' => k' t' H) fun t111 H =>
      p.pick t105 t111 (.sc (.bool false)) fun t112 =>
      p.guard t112 true H (fun k' => p.fadr 4 t2 fun t' => k' t' H) fun t114 H =>
      p.guard t112 true H (fun k' => p.load false 1 t114 H fun t' => k' t' H) fun t115 H =>
      p.guard t112 true H (fun k' => p.fadr 4 t3 fun t' => k' t' H) fun t116 H =>
      p.guard t112 true H (fun k' => p.load false 1 t116 H fun t' => k' t' H) fun t117 H =>
      p.guard t112 true H (fun k' => p.bin .eql t115 t117 fun t' => k' t' H) fun t118 H =>
      p.pick t112 t118 (.sc (.bool false)) fun t119 =>
      p.guard t119 true H (fun k' => p.fadr 5 t2 fun t' => k' t' H) fun t121 H =>
      p.guard t119 true H (fun k' => p.load false 1 t121 H fun t' => k' t' H) fun t122 H =>
      p.guard t119 true H (fun k' => p.fadr 5 t3 fun t' => k' t' H) fun t123 H =>
      p.guard t119 true H (fun k' => p.load false 1 t123 H fun t' => k' t' H) fun t124 H =>
      p.guard t119 true H (fun k' => p.bin .eql t122 t124 fun t' => k' t' H) fun t125 H =>
      p.pick t119 t125 (.sc (.bool false)) fun t126 =>
      p.guard t126 true H (fun k' => p.fadr 6 t2 fun t' => k' t' H) fun t128 H =>
      p.guard t126 true H (fun k' => p.load false 1 t128 H fun t' => k' t' H) fun t129 H =>
      p.guard t126 true H (fun k' => p.fadr 6 t3 fun t' => k' t' H) fun t130 H =>
      p.guard t126 true H (fun k' => p.load false 1 t130 H fun t' => k' t' H) fun t131 H =>
      p.guard t126 true H (fun k' => p.call 4 (.fn 107 [] []) [t129, t131] H fun t' H => k' t' H) fun t132 H =>
      p.pick t126 t132 (.sc (.bool false)) fun t133 =>
      p.guard t133 true H (fun k' => p.fadr 7 t2 fun t' => k' t' H) fun t135 H =>
      p.guard t133 true H (fun k' => p.load false 1 t135 H fun t' => k' t' H) fun t136 H =>
      p.guard t133 true H (fun k' => p.fadr 7 t3 fun t' => k' t' H) fun t137 H =>
      p.guard t133 true H (fun k' => p.load false 1 t137 H fun t' => k' t' H) fun t138 H =>
      p.guard t133 true H (fun k' => p.bin .eql t136 t138 fun t' => k' t' H) fun t139 H =>
      p.pick t133 t139 (.sc (.bool false)) fun t140 =>
      p.guard t140 true H (fun k' => p.fadr 8 t2 fun t' => k' t' H) fun t142 H =>
      p.guard t140 true H (fun k' => p.load false 1 t142 H fun t' => k' t' H) fun t143 H =>
      p.guard t140 true H (fun k' => p.fadr 8 t3 fun t' => k' t' H) fun t144 H =>
      p.guard t140 true H (fun k' => p.load false 1 t144 H fun t' => k' t' H) fun t145 H =>
      p.guard t140 true H (fun k' => p.bin .eql t143 t145 fun t' => k' t' H) fun t146 H =>
      p.pick t140 t146 (.sc (.bool false)) fun t147 =>
      p.guard t147 true H (fun k' => p.fadr 9 t2 fun t' => k' t' H) fun t149 H =>
      p.guard t147 true H (fun k' => p.load false 1 t149 H fun t' => k' t' H) fun t150 H =>
      p.guard t147 true H (fun k' => p.fadr 9 t3 fun t' => k' t' H) fun t151 H =>
      p.guard t147 true H (fun k' => p.load false 1 t151 H fun t' => k' t' H) fun t152 H =>
      p.guard t147 true H (fun k' => p.binB .eql t150 t152 fun t' => k' t' H) fun t153 H =>
      p.pick t147 t153 (.sc (.bool false)) fun t154 =>
      p.guard t154 true H (fun k' => p.fadr 10 t2 fun t' => k' t' H) fun t156 H =>
      p.guard t154 true H (fun k' => p.load false 1 t156 H fun t' => k' t' H) fun t157 H =>
      p.guard t154 true H (fun k' => p.fadr 10 t3 fun t' => k' t' H) fun t158 H =>
      p.guard t154 true H (fun k' => p.load false 1 t158 H fun t' => k' t' H) fun t159 H =>
      p.guard t154 true H (fun k' => p.bin .eql t157 t159 fun t' => k' t' H) fun t160 H =>
      p.pick t154 t160 (.sc (.bool false)) fun t161 =>
      p.guard t161 true H (fun k' => p.fadr 11 t2 fun t' => k' t' H) fun t163 H =>
      p.guard t161 true H (fun k' => p.load false 1 t163 H fun t' => k' t' H) fun t164 H =>
      p.guard t161 true H (fun k' => p.fadr 11 t3 fun t' => k' t' H) fun t165 H =>
      p.guard t161 true H (fun k' => p.load false 1 t165 H fun t' => k' t' H) fun t166 H =>
      p.guard t161 true H (fun k' => p.binB .eql t164 t166 fun t' => k' t' H) fun t167 H =>
      p.pick t161 t167 (.sc (.bool false)) fun t168 =>
      p.guard t168 true H (fun k' => p.fadr 12 t2 fun t' => k' t' H) fun t170 H =>
      p.guard t168 true H (fun k' => p.load false 1 t170 H fun t' => k' t' H) fun t171 H =>
      p.guard t168 true H (fun k' => p.fadr 12 t3 fun t' => k' t' H) fun t172 H =>
      p.guard t168 true H (fun k' => p.load false 1 t172 H fun t' => k' t' H) fun t173 H =>
      p.guard t168 true H (fun k' => p.bin .eql t171 t173 fun t' => k' t' H) fun t174 H =>
      p.pick t168 t174 (.sc (.bool false)) fun t175 =>
      p.guard t175 true H (fun k' => p.fadr 13 t2 fun t' => k' t' H) fun t177 H =>
      p.guard t175 true H (fun k' => p.load false 1 t177 H fun t' => k' t' H) fun t178 H =>
      p.guard t175 true H (fun k' => p.fadr 13 t3 fun t' => k' t' H) fun t179 H =>
      p.guard t175 true H (fun k' => p.load false 1 t179 H fun t' => k' t' H) fun t180 H =>
      p.guard t175 true H (fun k' => p.call 4 (.fn 107 [] []) [t178, t180] H fun t' H => k' t' H) fun t181 H =>
      p.pick t175 t181 (.sc (.bool false)) fun t182 =>
      p.guard t182 true H (fun k' => p.fadr 14 t2 fun t' => k' t' H) fun t184 H =>
      p.guard t182 true H (fun k' => p.load false 1 t184 H fun t' => k' t' H) fun t185 H =>
      p.guard t182 true H (fun k' => p.fadr 14 t3 fun t' => k' t' H) fun t186 H =>
      p.guard t182 true H (fun k' => p.load false 1 t186 H fun t' => k' t' H) fun t187 H =>
      p.guard t182 true H (fun k' => p.bin .eql t185 t187 fun t' => k' t' H) fun t188 H =>
      p.pick t182 t188 (.sc (.bool false)) fun t189 =>
      p.guard t189 true H (fun k' => p.fadr 15 t2 fun t' => k' t' H) fun t191 H =>
      p.guard t189 true H (fun k' => p.load false 1 t191 H fun t' => k' t' H) fun t192 H =>
      p.guard t189 true H (fun k' => p.fadr 15 t3 fun t' => k' t' H) fun t193 H =>
      p.guard t189 true H (fun k' => p.load false 1 t193 H fun t' => k' t' H) fun t194 H =>
      p.guard t189 true H (fun k' => p.binB .eql t192 t194 fun t' => k' t' H) fun t195 H =>
      p.pick t189 t195 (.sc (.bool false)) fun t196 =>
      p.guard t196 true H (fun k' => p.fadr 16 t2 fun t' => k' t' H) fun t198 H =>
      p.guard t196 true H (fun k' => p.load false 1 t198 H fun t' => k' t' H) fun t199 H =>
      p.guard t196 true H (fun k' => p.fadr 16 t3 fun t' => k' t' H) fun t200 H =>
      p.guard t196 true H (fun k' => p.load false 1 t200 H fun t' => k' t' H) fun t201 H =>
      p.guard t196 true H (fun k' => p.binB .eql t199 t201 fun t' => k' t' H) fun t202 H =>
      p.pick t196 t202 (.sc (.bool false)) fun t203 =>
      p.guard t203 true H (fun k' => p.fadr 17 t2 fun t' => k' t' H) fun t205 H =>
      p.guard t203 true H (fun k' => p.load false 1 t205 H fun t' => k' t' H) fun t206 H =>
      p.guard t203 true H (fun k' => p.fadr 17 t3 fun t' => k' t' H) fun t207 H =>
      p.guard t203 true H (fun k' => p.load false 1 t207 H fun t' => k' t' H) fun t208 H =>
      p.guard t203 true H (fun k' => p.bin .eql t206 t208 fun t' => k' t' H) fun t209 H =>
      p.pick t203 t209 (.sc (.bool false)) fun t210 =>
      p.guard t210 true H (fun k' => p.fadr 18 t2 fun t' => k' t' H) fun t212 H =>
      p.guard t210 true H (fun k' => p.load false 1 t212 H fun t' => k' t' H) fun t213 H =>
      p.guard t210 true H (fun k' => p.fadr 18 t3 fun t' => k' t' H) fun t214 H =>
      p.guard t210 true H (fun k' => p.load false 1 t214 H fun t' => k' t' H) fun t215 H =>
      p.guard t210 true H (fun k' => p.binB .eql t213 t215 fun t' => k' t' H) fun t216 H =>
      p.pick t210 t216 (.sc (.bool false)) fun t217 =>
      p.guard t217 true H (fun k' => p.fadr 19 t2 fun t' => k' t' H) fun t219 H =>
      p.guard t217 true H (fun k' => p.load false 1 t219 H fun t' => k' t' H) fun t220 H =>
      p.guard t217 true H (fun k' => p.fadr 19 t3 fun t' => k' t' H) fun t221 H =>
      p.guard t217 true H (fun k' => p.load false 1 t221 H fun t' => k' t' H) fun t222 H =>
      p.guard t217 true H (fun k' => p.call 4 (.fn 107 [] []) [t220, t222] H fun t' H => k' t' H) fun t223 H =>
      p.pick t217 t223 (.sc (.bool false)) fun t224 =>
      p.guard t224 true H (fun k' => p.fadr 20 t2 fun t' => k' t' H) fun t226 H =>
      p.guard t224 true H (fun k' => p.load false 1 t226 H fun t' => k' t' H) fun t227 H =>
      p.guard t224 true H (fun k' => p.fadr 20 t3 fun t' => k' t' H) fun t228 H =>
      p.guard t224 true H (fun k' => p.load false 1 t228 H fun t' => k' t' H) fun t229 H =>
      p.guard t224 true H (fun k' => p.bin .eql t227 t229 fun t' => k' t' H) fun t230 H =>
      p.pick t224 t230 (.sc (.bool false)) fun t231 =>
      p.guard t231 true H (fun k' => p.fadr 21 t2 fun t' => k' t' H) fun t233 H =>
      p.guard t231 true H (fun k' => p.load false 1 t233 H fun t' => k' t' H) fun t234 H =>
      p.guard t231 true H (fun k' => p.fadr 21 t3 fun t' => k' t' H) fun t235 H =>
      p.guard t231 true H (fun k' => p.load false 1 t235 H fun t' => k' t' H) fun t236 H =>
      p.guard t231 true H (fun k' => p.binB .eql t234 t236 fun t' => k' t' H) fun t237 H =>
      p.pick t231 t237 (.sc (.bool false)) fun t238 =>
      k t238 H)
noncomputable def f78_l1 (p : Pr β) (n : Nat)  (k : AV → Heap → Option β) : Nat → AV → AV → AV → Heap → Option β
  | 0, _, _, _, _ => none
  | m + 1, t2, t3, t6, H => p.fadr 23 t2 fun t52 =>
      p.load false 1 t52 H fun t53 =>
      p.len t53 fun t54 =>
      p.bin .lss t6 t54 fun t55 =>
      p.cond t55
      (p.fadr 23 t2 fun t58 =>
      p.load false 1 t58 H fun t59 =>
      p.iadr 1 t59 t6 fun t61 =>
      p.load false 1 t61 H fun t62 =>
      p.fadr 23 t3 fun t63 =>
      p.load false 1 t63 H fun t64 =>
      p.iadr 1 t64 t6 fun t66 =>
      p.load false 1 t66 H fun t67 =>
      p.bin .neq t62 t67 fun t68 =>
      p.cond t68
      (k (.sc (.bool false)) H)
      (p.bin .add t6 (.sc (.int .i64 1)) fun t57 =>
      f78_l1 p n  k m t2 t3 t57 H))
      (f78_l2 p n  k n t2 t3 (.sc (.int .i64 0)) H)
noncomputable def f78_l0 (p : Pr β) (n : Nat)  (k : AV → Heap → Option β) : Nat → AV → AV → AV → Heap → Option β
  | 0, _, _, _, _ => none
  | m + 1, t2, t3, t5, H => p.fadr 22 t2 fun t34 =>
      p.load false 1 t34 H fun t35 =>
      p.len t35 fun t36 =>
      p.bin .lss t5 t36 fun t37 =>
      p.cond t37
      (p.fadr 22 t2 fun t40 =>
      p.load false 1 t40 H fun t41 =>
      p.iadr 2 t41 t5 fun t43 =>
      p.load true 2 t43 H fun t44 =>
      p.fadr 22 t3 fun t45 =>
      p.load false 1 t45 H fun t46 =>
      p.iadr 2 t46 t5 fun t48 =>
      p.load true 2 t48 H fun t49 =>
      p.binA .neq [1, 0] t44 t49 fun t50 =>
      p.cond t50
      (k (.sc (.bool false)) H)
      (p.bin .add t5 (.sc (.int .i64 1)) fun t39 =>
      f78_l0 p n  k m t2 t3 t39 H))
      (f78_l1 p n  k n t2 t3 (.sc (.int .i64 0)) H)
noncomputable def f78 (p : Pr β) (n : Nat) (a0 a1 : AV) (H : Heap) (k : AV → Heap → Option β) : Option β :=
  p.box a0 H fun t2 H =>
  p.box a1 H fun t3 H =>
  p.fadr 22 t2 fun t8 =>
  p.load false 1 t8 H fun t9 =>
  p.len t9 fun t10 =>
  p.fadr 22 t3 fun t11 =>
  p.load false 1 t11 H fun t12 =>
  p.len t12 fun t13 =>
  p.bin .neq t10 t13 fun t14 =>
  p.guard t14 false H (fun k' => p.fadr 23 t2 fun t' => k' t' H) fun t16 H =>
  p.guard t14 false H (fun k' => p.load false 1 t16 H fun t' => k' t' H) fun t17 H =>
  p.guard t14 false H (fun k' => p.len t17 fun t' => k' t' H) fun t18 H =>
  p.guard t14 false H (fun k' => p.fadr 23 t3 fun t' => k' t' H) fun t19 H =>
  p.guard t14 false H (fun k' => p.load false 1 t19 H fun t' => k' t' H) fun t20 H =>
  p.guard t14 false H (fun k' => p.len t20 fun t' => k' t' H) fun t21 H =>
  p.guard t14 false H (fun k' => p.bin .neq t18 t21 fun t' => k' t' H) fun t22 H =>
  p.pick t14 (.sc (.bool true)) t22 fun t23 =>
  p.guard t23 false H (fun k' => p.fadr 24 t2 fun t' => k' t' H) fun t25 H =>
  p.guard t23 false H (fun k' => p.load false 1 t25 H fun t' => k' t' H) fun t26 H =>
  p.guard t23 false H (fun k' => p.len t26 fun t' => k' t' H) fun t27 H =>
  p.guard t23 false H (fun k' => p.fadr 24 t3 fun t' => k' t' H) fun t28 H =>
  p.guard t23 false H (fun k' => p.load false 1 t28 H fun t' => k' t' H) fun t29 H =>
  p.guard t23 false H (fun k' => p.len t29 fun t' => k' t' H) fun t30 H =>
  p.guard t23 false H (fun k' => p.bin .neq t27 t30 fun t' => k' t' H) fun t31 H =>
  p.pick t23 (.sc (.bool true)) t31 fun t32 =>
  p.cond t32
  (k (.sc (.bool false)) H)
  (f78_l0 p n  k n t2 t3 (.sc (.int .i64 0)) H)
noncomputable def f78_L2 (p : Pr β) (n : Nat)  (k : AV → Heap → Option β) (m : Nat) (tm : Tm) (H : Heap) : Option β :=
  iterC 239 (fun tm H k => evalCode ti0 p o78 239 n (cd c78 [1, 1, 1, 1, 0, 1, 0, 0]) tm H k) (blkK 4 (seqK (fun tm H => evalCode ti0 p o78 239 n (cd c78 [1, 1, 1, 1, 1]) tm H (endK ti0 p Go.Proofs.Try.f78.results.toList k)) (endK ti0 p Go.Proofs.Try.f78.results.toList k))) m tm H
noncomputable def f78_L1 (p : Pr β) (n : Nat)  (k : AV → Heap → Option β) (m : Nat) (tm : Tm) (H : Heap) : Option β :=
  iterC 239 (fun tm H k => evalCode ti0 p o78 239 n (cd c78 [1, 1, 1, 0, 1, 0, 0]) tm H k) (blkK 2 (seqK (fun tm H => evalCode ti0 p o78 239 n (cd c78 [1, 1, 1, 1]) tm H (endK ti0 p Go.Proofs.Try.f78.results.toList k)) (endK ti0 p Go.Proofs.Try.f78.results.toList k))) m tm H
noncomputable def f78_L0 (p : Pr β) (n : Nat)  (k : AV → Heap → Option β) (m : Nat) (tm : Tm) (H : Heap) : Option β :=
  iterC 239 (fun tm H k => evalCode ti0 p o78 239 n (cd c78 [1, 1, 0, 1, 0, 0]) tm H k) (blkK 0 (seqK (fun tm H => evalCode ti0 p o78 239 n (cd c78 [1, 1, 1]) tm H (endK ti0 p Go.Proofs.Try.f78.results.toList k)) (endK ti0 p Go.Proofs.Try.f78.results.toList k))) m tm H
theorem f78_L2_step (p : Pr β) (n : Nat)  (k : AV → Heap → Option β) (m2 : Nat) (t0 t1 t2 t3 t4 t5 t6 t7 t8 t9 t10 t11 t12 t13 t14 t15 t16 t17 t18 t19 t20 t21 t22 t23 t24 t25 t26 t27 t28 t29 t30 t31 t32 t33 t34 t35 t36 t37 t38 t39 t40 t41 t42 t43 t44 t45 t46 t47 t48 t49 t50 t51 t52 t53 t54 t55 t56 t57 t58 t59 t60 t61 t62 t63 t64 t65 t66 t67 t68 t69 t70 t71 t72 t73 t74 t75 t76 t77 t78 t79 t80 t81 t82 t83 t84 t85 t86 t87 t88 t89 t90 t91 t92 t93 t94 t95 t96 t97 t98 t99 t100 t101 t102 t103 t104 t105 t106 t107 t108 t109 t110 t111 t112 t113 t114 t115 t116 t117 t118 t119 t120 t121 t122 t123 t124 t125 t126 t127 t128 t129 t130 t131 t132 t133 t134 t135 t136 t137 t138 t139 t140 t141 t142 t143 t144 t145 t146 t147 t148 t149 t150 t151 t152 t153 t154 t155 t156 t157 t158 t159 t160 t161 t162 t163 t164 t165 t166 t167 t168 t169 t170 t171 t172 t173 t174 t175 t176 t177 t178 t179 t180 t181 t182 t183 t184 t185 t186 t187 t188 t189 t190 t191 t192 t193 t194 t195 t196 t197 t198 t199 t200 t201 t202 t203 t204 t205 t206 t207 t208 t209 t210 t211 t212 t213 t214 t215 t216 t217 t218 t219 t220 t221 t222 t223 t224 t225 t226 t227 t228 t229 t230 t231 t232 t233 t234 t235 t236 t237 t238 : AV) (H : Heap) : f78_L2 p n  k (m2 + 1) [(0, t0), (1, t1), (2, t2), (3, t3), (4, t4), (5, t5), (6, t6), (7, t7), (8, t8), (9, t9), (10, t10), (11, t11), (12, t12), (13, t13), (14, t14), (15, t15), (16, t16), (17, t17), (18, t18), (19, t19), (20, t20), (21, t21), (22, t22), (23, t23), (24, t24), (25, t25), (26, t26), (27, t27), (28, t28), (29, t29), (30, t30), (31, t31), (32, t32), (33, t33), (34, t34), (35, t35), (36, t36), (37, t37), (38, t38), (39, t39), (40, t40), (41, t41), (42, t42), (43, t43), (44, t44), (45, t45), (46, t46), (47, t47), (48, t48), (49, t49), (50, t50), (51, t51), (52, t52), (53, t53), (54, t54), (55, t55), (56, t56), (57, t57), (58, t58), (59, t59), (60, t60), (61, t61), (62, t62), (63, t63), (64, t64), (65, t65), (66, t66), (67, t67), (68, t68), (69, t69), (70, t70), (71, t71), (72, t72), (73, t73), (74, t74), (75, t75), (76, t76), (77, t77), (78, t78), (79, t79), (80, t80), (81, t81), (82, t82), (83, t83), (84, t84), (85, t85), (86, t86), (87, t87), (88, t88), (89, t89), (90, t90), (91, t91), (92, t92), (93, t93), (94, t94), (95, t95), (96, t96), (97, t97), (98, t98), (99, t99), (100, t100), (101, t101), (102, t102), (103, t103), (104, t104), (105, t105), (106, t106), (107, t107), (108, t108), (109, t109), (110, t110), (111, t111), (112, t112), (113, t113), (114, t114), (115, t115), (116, t116), (117, t117), (118, t118), (119, t119), (120, t120), (121, t121), (122, t122), (123, t123), (124, t124), (125, t125), (126, t126), (127, t127), (128, t128), (129, t129), (130, t130), (131, t131), (132, t132), (133, t133), (134, t134), (135, t135), (136, t136), (137, t137), (138, t138), (139, t139), (140, t140), (141, t141), (142, t142), (143, t143), (144, t144), (145, t145), (146, t146), (147, t147), (148, t148), (149, t149), (150, t150), (151, t151), (152, t152), (153, t153), (154, t154), (155, t155), (156, t156), (157, t157), (158, t158), (159, t159), (160, t160), (161, t161), (162, t162), (163, t163), (164, t164), (165, t165), (166, t166), (167, t167), (168, t168), (169, t169), (170, t170), (171, t171), (172, t172), (173, t173), (174, t174), (175, t175), (176, t176), (177, t177), (178, t178), (179, t179), (180, t180), (181, t181), (182, t182), (183, t183), (184, t184), (185, t185), (186, t186), (187, t187), (188, t188), (189, t189), (190, t190), (191, t191), (192, t192), (193, t193), (194, t194), (195, t195), (196, t196), (197, t197), (198, t198), (199, t199), (200, t200), (201, t201), (202, t202), (203, t203), (204, t204), (205, t205), (206, t206), (207, t207), (208, t208), (209, t209), (210, t210), (211, t211), (212, t212), (213, t213), (214, t214), (215, t215), (216, t216), (217, t217), (218, t218), (219, t219), (220, t220), (221, t221), (222, t222), (223, t223), (224, t224), (225, t225), (226, t226), (227, t227), (228, t228), (229, t229), (230, t230), (231, t231), (232, t232), (233, t233), (234, t234), (235, t235), (236, t236), (237, t237), (238, t238)] H =
  p.fadr 24 t2 fun t70 =>
  p.load false 1 t70 H fun t71 =>
  p.len t71 fun t72 =>
  p.bin .lss t7 t72 fun t73 =>
  p.cond t73
  (p.fadr 24 t2 fun t76 =>
  p.load false 1 t76 H fun t77 =>
  p.iadr 1 t77 t7 fun t79 =>
  p.load false 1 t79 H fun t80 =>
  p.fadr 24 t3 fun t81 =>
  p.load false 1 t81 H fun t82 =>
  p.iadr 1 t82 t7 fun t84 =>
  p.load false 1 t84 H fun t85 =>
  p.bin .neq t80 t85 fun t86 =>
  p.cond t86
  (k (.sc (.bool false)) H)
  (p.bin .add t7 (.sc (.int .i64 1)) fun t75 =>
  f78_L2 p n  k m2 [(0, t0), (1, t1), (2, t2), (3, t3), (4, t4), (5, t5), (6, t6), (7, t75), (8, t8), (9, t9), (10, t10), (11, t11), (12, t12), (13, t13), (14, t14), (15, t15), (16, t16), (17, t17), (18, t18), (19, t19), (20, t20), (21, t21), (22, t22), (23, t23), (24, t24), (25, t25), (26, t26), (27, t27), (28, t28), (29, t29), (30, t30), (31, t31), (32, t32), (33, t33), (34, t34), (35, t35), (36, t36), (37, t37), (38, t38), (39, t39), (40, t40), (41, t41), (42, t42), (43, t43), (44, t44), (45, t45), (46, t46), (47, t47), (48, t48), (49, t49), (50, t50), (51, t51), (52, t52), (53, t53), (54, t54), (55, t55), (56, t56), (57, t57), (58, t58), (59, t59), (60, t60), (61, t61), (62, t62), (63, t63), (64, t64), (65, t65), (66, t66), (67, t67), (68, t68), (69, t7), (70, t70), (71, t71), (72, t72), (73, t73), (74, t7), (75, t75), (76, t76), (77, t77), (78, t7), (79, t79), (80, t80), (81, t81), (82, t82), (83, t7), (84, t84), (85, t85), (86, t86), (87, t87), (88, t88), (89, t89), (90, t90), (91, t91), (92, t92), (93, t93), (94, t94), (95, t95), (96, t96), (97, t97), (98, t98), (99, t99), (100, t100), (101, t101), (102, t102), (103, t103), (104, t104), (105, t105), (106, t106), (107, t107), (108, t108), (109, t109), (110, t110), (111, t111), (112, t112), (113, t113), (114, t114), (115, t115), (116, t116), (117, t117), (118, t118), (119, t119), (120, t120), (121, t121), (122, t122), (123, t123), (124, t124), (125, t125), (126, t126), (127, t127), (128, t128), (129, t129), (130, t130), (131, t131), (132, t132), (133, t133), (134, t134), (135, t135), (136, t136), (137, t137), (138, t138), (139, t139), (140, t140), (141, t141), (142, t142), (143, t143), (144, t144), (145, t145), (146, t146), (147, t147), (148, t148), (149, t149), (150, t150), (151, t151), (152, t152), (153, t153), (154, t154), (155, t155), (156, t156), (157, t157), (158, t158), (159, t159), (160, t160), (161, t161), (162, t162), (163, t163), (164, t164), (165, t165), (166, t166), (167, t167), (168, t168), (169, t169), (170, t170), (171, t171), (172, t172), (173, t173), (174, t174), (175, t175), (176, t176), (177, t177), (178, t178), (179, t179), (180, t180), (181, t181), (182, t182), (183, t183), (184, t184), (185, t185), (186, t186), (187, t187), (188, t188), (189, t189), (190, t190), (191, t191), (192, t192), (193, t193), (194, t194), (195, t195), (196, t196), (197, t197), (198, t198), (199, t199), (200, t200), (201, t201), (202, t202), (203, t203), (204, t204), (205, t205), (206, t206), (207, t207), (208, t208), (209, t209), (210, t210), (211, t211), (212, t212), (213, t213), (214, t214), (215, t215), (216, t216), (217, t217), (218, t218), (219, t219), (220, t220), (221, t221), (222, t222), (223, t223), (224, t224), (225, t225), (226, t226), (227, t227), (228, t228), (229, t229), (230, t230), (231, t231), (232, t232), (233, t233), (234, t234), (235, t235), (236, t236), (237, t237), (238, t238)] H))
  (p.fadr 0 t2 fun t87 =>
  p.load false 1 t87 H fun t88 =>
  p.fadr 0 t3 fun t89 =>
  p.load false 1 t89 H fun t90 =>
  p.bin .eql t88 t90 fun t91 =>
  p.guard t91 true H (fun k' => p.fadr 1 t2 fun t' => k' t' H) fun t93 H =>
  p.guard t91 true H (fun k' => p.load false 1 t93 H fun t' => k' t' H) fun t94 H =>
  p.guard t91 true H (fun k' => p.fadr 1 t3 fun t' => k' t' H) fun t95 H =>
  p.guard t91 true H (fun k' => p.load false 1 t95 H fun t' => k' t' H) fun t96 H =>
  p.guard t91 true H (fun k' => p.binB .eql t94 t96 fun t' => k' t' H) fun t97 H =>
  p.pick t91 t97 (.sc (.bool false)) fun t98 =>
  p.guard t98 true H (fun k' => p.fadr 2 t2 fun t' => k' t' H) fun t100 H =>
  p.guard t98 true H (fun k' => p.load false 1 t100 H fun t' => k' t' H) fun t101 H =>
  p.guard t98 true H (fun k' => p.fadr 2 t3 fun t' => k' t' H) fun t102 H =>
  p.guard t98 true H (fun k' => p.load false 1 t102 H fun t' => k' t' H) fun t103 H =>
  p.guard t98 true H (fun k' => p.bin .eql t101 t103 fun t' => k' t' H) fun t104 H =>
  p.pick t98 t104 (.sc (.bool false)) fun t105 =>
  p.guard t105 true H (fun k' => p.fadr 3 t2 fun t' => k' t' H) fun t107 H =>
  p.guard t105 true H (fun k' => p.load false 1 t107 H fun t' => k' t' H) fun t108 H =>
  p.guard t105 true H (fun k' => p.fadr 3 t3 fun t' => k' t' H) fun t109 H =>
  p.guard t105 true H (fun k' => p.load false 1 t109 H fun t' => k' t' H) fun t110 H =>
  p.guard t105 true H (fun k' => p.binB .eql t108 t110 fun t' => k' t' H) fun t111 H =>
  p.pick t105 t111 (.sc (.bool false)) fun t112 =>
  p.guard t112 true H (fun k' => p.fadr 4 t2 fun t' => k' t' H) fun t114 H =>
  p.guard t112 true H (fun k' => p.load false 1 t114 H fun t' => k' t' H) fun t115 H =>
  p.guard t112 true H (fun k' => p.fadr 4 t3 fun t' => k' t' H) fun t116 H =>
  p.guard t112 true H (fun k' => p.load false 1 t116 H fun t' => k' t' H) fun t117 H =>
  p.guard t112 true H (fun k' => p.bin .eql t115 t117 fun t' => k' t' H) fun t118 H =>
  p.pick t112 t118 (.sc (.bool false)) fun t119 =>
  p.guard t119 true H (fun k' => p.fadr 5 t2 fun t' => k' t' H) fun t121 H =>
  p.guard t119 true H (fun k' => p.load false 1 t121 H fun t' => k' t' H) fun t122 H =>
  p.guard t119 true H (fun k' => p.fadr 5 t3 fun t' => k' t' H) fun t123 H =>
  p.guard t119 true H (fun k' => p.load false 1 t123 H fun t' => k' t' H) fun t124 H =>
  p.guard t119 true H (fun k' => p.bin .eql t122 t124 fun t' => k' t' H) fun t125 H =>
  p.pick t119 t125 (.sc (.bool false)) fun t126 =>
  p.guard t126 true H (fun k' => p.fadr 6 t2 fun t' => k' t' H) fun t128 H =>
  p.guard t126 true H (fun k' => p.load false 1 t128 H fun t' => k' t' H) fun t129 H =>
  p.guard t126 true H (fun k' => p.fadr 6 t3 fun t' => k' t' H) fun t130 H =>
  p.guard t126 true H (fun k' => p.load false 1 t130 H fun t' => k' t' H) fun t131 H =>
  p.guard t126 true H (fun k' => p.call 4 (.fn 107 [] []) [t129, t131] H fun t' H => k' t' H) fun t132 H =>
  p.pick t126 t132 (.sc (.bool false)) fun t133 =>
  p.guard t133 true H (fun k' => p.fadr 7 t2 fun t' => k' t' H) fun t135 H =>
  p.guard t133 true H (fun k' => p.load false 1 t135 H fun t' => k' t' H) fun t136 H =>
  p.guard t133 true H (fun k' => p.fadr 7 t3 fun t' => k' t' H) fun t137 H =>
  p.guard t133 true H (fun k' => p.load false 1 t137 H fun t' => k' t' H) fun t138 H =>
  p.guard t133 true H (fun k' => p.bin .eql t136 t138 fun t' => k' t' H) fun t139 H =>
  p.pick t133 t139 (.sc (.bool false)) fun t140 =>
  p.guard t140 true H (fun k' => p.fadr 8 t2 fun t' => k' t' H) fun t142 H =>
  p.guard t140 true H (fun k' => p.load false 1 t142 H fun t' => k' t' H) fun t143 H =>
  p.guard t140 true H (fun k' => p.fadr 8 t3 fun t' => k' t' H) fun t144 H =>
  p.guard t140 true H (fun k' => p.load false 1 t144 H fun t' => k' t' H) fun t145 H =>
  p.guard t140 true H (fun k' => p.bin .eql t143 t145 fun t' => k' t' H) fun t146 H =>
  p.pick t140 t146 (.sc (.bool false)) fun t147 =>
  p.guard t147 true H (fun k' => p.fadr 9 t2 fun t' => k' t' H) fun t149 H =>
  p.guard t147 true H (fun k' => p.load false 1 t149 H fun t' => k' t' H) fun t150 H =>
  p.guard t147 true H (fun k' => p.fadr 9 t3 fun t' => k' t' H) fun t151 H =>
  p.guard t147 true H (fun k' => p.load false 1 t151 H fun t' => k' t' H) fun t152 H =>
  p.guard t147 true H (fun k' => p.binB .eql t150 t152 fun t' => k' t' H) fun t153 H =>
  p.pick t147 t153 (.sc (.bool false)) fun t154 =>
  p.guard t154 true H (fun k' => p.fadr 10 t2 fun t' => k' t' H) fun t156 H =>
  p.guard t154 true H (fun k' => p.load false 1 t156 H fun t' => k' t' H) fun t157 H =>
  p.guard t154 true H (fun k' => p.fadr 10 t3 fun t' => k' t' H) fun t158 H =>
  p.guard t154 true H (fun k' => p.load false 1 t158 H fun t' => k' t' H) fun t159 H =>
  p.guard t154 true H (fun k' => p.bin .eql t157 t159 fun t' => k' t' H) fun t160 H =>
  p.pick t154 t160 (.sc (.bool false)) fun t161 =>
  p.guard t161 true H (fun k' => p.fadr 11 t2 fun t' => k' t' H) fun t163 H =>
  p.guard t161 true H (fun k' => p.load false 1 t163 H fun t' => k' t' H) fun t164 H =>
  p.guard t161 true H (fun k' => p.fadr 11 t3 fun t' => k' t' H) fun t165 H =>
  p.guard t161 true H (fun k' => p.load false 1 t165 H fun t' => k' t' H) fun t166 H =>
  p.guard t161 true H (fun k' => p.binB .eql t164 t166 fun t' => k' t' H) fun t167 H =>
  p.pick t161 t167 (.sc (.bool false)) fun t168 =>
  p.guard t168 true H (fun k' => p.fadr 12 t2 fun t' => k' t' H) fun t170 H =>
  p.guard t168 true H (fun k' => p.load false 1 t170 H fun t' => k' t' H) fun t171 H =>
  p.guard t168 true H (fun k' => p.fadr 12 t3 fun t' => k' t' H) fun t172 H =>
  p.guard t168 true H (fun k' => p.load false 1 t172 H fun t' => k' t' H) fun t173 H =>
  p.guard t168 true H (fun k' => p.bin .eql t171 t173 fun t' => k' t' H) fun t174 H =>
  p.pick t168 t174 (.sc (.bool false)) fun t175 =>
  p.guard t175 true H (fun k' => p.fadr 13 t2 fun t' => k' t' H) fun t177 H =>
  p.guard t175 true H (fun k' => p.load false 1 t177 H fun t' => k' t' H) fun t178 H =>
  p.guard t175 true H (fun k' => p.fadr 13 t3 fun t' => k' t' H) fun t179 H =>
  p.guard t175 true H (fun k' => p.load false 1 t179 H fun t' => k' t' H) fun t180 H =>
  p.guard t175 true H (fun k' => p.call 4 (.fn 107 [] []) [t178, t180] H fun t' H => k' t' H) fun t181 H =>
  p.pick t175 t181 (.sc (.bool false)) fun t182 =>
  p.guard t182 true H (fun k' => p.fadr 14 t2 fun t' => k' t' H) fun t184 H =>
  p.guard t182 true H (fun k' => p.load false 1 t184 H fun t' => k' t' H) fun t185 H =>
  p.guard t182 true H (fun k' => p.fadr 14 t3 fun t' => k' t' H) fun t186 H =>
  p.guard t182 true H (fun k' => p.load false 1 t186 H fun t' => k' t' H) fun t187 H =>
  p.guard t182 true H (fun k' => p.bin .eql t185 t187 fun t' => k' t' H) fun t188 H =>
  p.pick t182 t188 (.sc (.bool false)) fun t189 =>
  p.guard t189 true H (fun k' => p.fadr 15 t2 fun t' => k' t' H) fun t191 H =>
  p.guard t189 true H (fun k' => p.load false 1 t191 H fun t' => k' t' H) fun t192 H =>
  p.guard t189 true H (fun k' => p.fadr 15 t3 fun t' => k' t' H) fun t193 H =>
  p.guard t189 true H (fun k' => p.load false 1 t193 H fun t' => k' t' H) fun t194 H =>
  p.guard t189 true H (fun k' => p.binB .eql t192 t194 fun t' => k' t' H) fun t195 H =>
  p.pick t189 t195 (.sc (.bool false)) fun t196 =>
  p.guard t196 true H (fun k' => p.fadr 16 t2 fun t' => k' t' H) fun t198 H =>
  p.guard t196 true H (fun k' => p.load false 1 t198 H fun t' => k' t' H) fun t199 H =>
  p.guard t196 true H (fun k' => p.fadr 16 t3 fun t' => k' t' H) fun t200 H =>
  p.guard t196 true H (fun k' => p.load false 1 t200 H fun t' => k' t' H) fun t201 H =>
  p.guard t196 true H (fun k' => p.binB .eql t199 t201 fun t' => k' t' H) fun t202 H =>
  p.pick t196 t202 (.sc (.bool false)) fun t203 =>
  p.guard t203 true H (fun k' => p.fadr 17 t2 fun t' => k' t' H) fun t205 H =>
  p.guard t203 true H (fun k' => p.load false 1 t205 H fun t' => k' t' H) fun t206 H =>
  p.guard t203 true H (fun k' => p.fadr 17 t3 fun t' => k' t' H) fun t207 H =>
  p.guard t203 true H (fun k' => p.load false 1 t207 H fun t' => k' t' H) fun t208 H =>
  p.guard t203 true H (fun k' => p.bin .eql t206 t208 fun t' => k' t' H) fun t209 H =>
  p.pick t203 t209 (.sc (.bool false)) fun t210 =>
  p.guard t210 true H (fun k' => p.fadr 18 t2 fun t' => k' t' H) fun t212 H =>
  p.guard t210 true H (fun k' => p.load false 1 t212 H fun t' => k' t' H) fun t213 H =>
  p.guard t210 true H (fun k' => p.fadr 18 t3 fun t' => k' t' H) fun t214 H =>
  p.guard t210 true H (fun k' => p.load false 1 t214 H fun t' => k' t' H) fun t215 H =>
  p.guard t210 true H (fun k' => p.binB .eql t213 t215 fun t' => k' t' H) fun t216 H =>
  p.pick t210 t216 (.sc (.bool false)) fun t217 =>
  p.guard t217 true H (fun k' => p.fadr 19 t2 fun t' => k' t' H) fun t219 H =>
  p.guard t217 true H (fun k' => p.load false 1 t219 H fun t' => k' t' H) fun t220 H =>
  p.guard t217 true H (fun k' => p.fadr 19 t3 fun t' => k' t' H) fun t221 H =>
  p.guard t217 true H (fun k' => p.load false 1 t221 H fun t' => k' t' H) fun t222 H =>
  p.guard t217 true H (fun k' => p.call 4 (.fn 107 [] []) [t220, t222] H fun t' H => k' t' H) fun t223 H =>
  p.pick t217 t223 (.sc (.bool false)) fun t224 =>
  p.guard t224 true H (fun k' => p.fadr 20 t2 fun t' => k' t' H) fun t226 H =>
  p.guard t224 true H (fun k' => p.load false 1 t226 H fun t' => k' t' H) fun t227 H =>
  p.guard t224 true H (fun k' => p.fadr 20 t3 fun t' => k' t' H) fun t228 H =>
  p.guard t224 true H (fun k' => p.load false 1 t228 H fun t' => k' t' H) fun t229 H =>
  p.guard t224 true H (fun k' => p.bin .eql t227 t229 fun t' => k' t' H) fun t230 H =>
  p.pick t224 t230 (.sc (.bool false)) fun t231 =>
  p.guard t231 true H (fun k' => p.fadr 21 t2 fun t' => k' t' H) fun t233 H =>
  p.guard t231 true H (fun k' => p.load false 1 t233 H fun t' => k' t' H) fun t234 H =>
  p.guard t231 true H (fun k' => p.fadr 21 t3 fun t' => k' t' H) fun t235 H =>
  p.guard t231 true H (fun k' => p.load false 1 t235 H fun t' => k' t' H) fun t236 H =>
  p.guard t231 true H (fun k' => p.binB .eql t234 t236 fun t' => k' t' H) fun t237 H =>
  p.pick t231 t237 (.sc (.bool false)) fun t238 =>
  k t238 H) := by kernel_rfl
theorem f78_l2_eq (p : Pr β) (n : Nat)  (k : AV → Heap → Option β)   (m2 : Nat) : ∀ (t0 t1 t2 t3 t4 t5 t6 t7 t8 t9 t10 t11 t12 t13 t14 t15 t16 t17 t18 t19 t20 t21 t22 t23 t24 t25 t26 t27 t28 t29 t30 t31 t32 t33 t34 t35 t36 t37 t38 t39 t40 t41 t42 t43 t44 t45 t46 t47 t48 t49 t50 t51 t52 t53 t54 t55 t56 t57 t58 t59 t60 t61 t62 t63 t64 t65 t66 t67 t68 t69 t70 t71 t72 t73 t74 t75 t76 t77 t78 t79 t80 t81 t82 t83 t84 t85 t86 t87 t88 t89 t90 t91 t92 t93 t94 t95 t96 t97 t98 t99 t100 t101 t102 t103 t104 t105 t106 t107 t108 t109 t110 t111 t112 t113 t114 t115 t116 t117 t118 t119 t120 t121 t122 t123 t124 t125 t126 t127 t128 t129 t130 t131 t132 t133 t134 t135 t136 t137 t138 t139 t140 t141 t142 t143 t144 t145 t146 t147 t148 t149 t150 t151 t152 t153 t154 t155 t156 t157 t158 t159 t160 t161 t162 t163 t164 t165 t166 t167 t168 t169 t170 t171 t172 t173 t174 t175 t176 t177 t178 t179 t180 t181 t182 t183 t184 t185 t186 t187 t188 t189 t190 t191 t192 t193 t194 t195 t196 t197 t198 t199 t200 t201 t202 t203 t204 t205 t206 t207 t208 t209 t210 t211 t212 t213 t214 t215 t216 t217 t218 t219 t220 t221 t222 t223 t224 t225 t226 t227 t228 t229 t230 t231 t232 t233 t234 t235 t236 t237 t238 : AV) (H : Heap), f78_L2 p n  k m2 [(0, t0), (1, t1), (2, t2), (3, t3), (4, t4), (5, t5), (6, t6), (7, t7), (8, t8), (9, t9), (10, t10), (11, t11), (12, t12), (13, t13), (14, t14), (15, t15), (16, t16), (17, t17), (18, t18), (19, t19), (20, t20), (21, t21), (22, t22), (23, t23), (24, t24), (25, t25), (26, t26), (27, t27), (28, t28), (29, t29), (30, t30), (31, t31), (32, t32), (33, t33), (34, t34), (35, t35), (36, t36), (37, t37), (38, t38), (39, t39), (40, t40), (41, t41), (42, t42), (43, t43), (44, t44), (45, t45), (46, t46), (47, t47), (48, t48), (49, t49), (50, t50), (51, t51), (52, t52), (53, t53), (54, t54), (55, t55), (56, t56), (57, t57), (58, t58), (59, t59), (60, t60), (61, t61), (62, t62), (63, t63), (64, t64), (65, t65), (66, t66), (67, t67), (68, t68), (69, t69), (70, t70), (71, t71), (72, t72), (73, t73), (74, t74), (75, t75), (76, t76), (77, t77), (78, t78), (79, t79), (80, t80), (81, t81), (82, t82), (83, t83), (84, t84), (85, t85), (86, t86), (87, t87), (88, t88), (89, t89), (90, t90), (91, t91), (92, t92), (93, t93), (94, t94), (95, t95), (96, t96), (97, t97), (98, t98), (99, t99), (100, t100), (101, t101), (102, t102), (103, t103), (104, t104), (105, t105), (106, t106), (107, t107), (108, t108), (109, t109), (110, t110), (111, t111), (112, t112), (113, t113), (114, t114), (115, t115), (116, t116), (117, t117), (118, t118), (119, t119), (120, t120), (121, t121), (122, t122), (123, t123), (124, t124), (125, t125), (126, t126), (127, t127), (128, t128), (129, t129), (130, t130), (131, t131), (132, t132), (133, t133), (134, t134), (135, t135), (136, t136), (137, t137), (138, t138), (139, t139), (140, t140), (141, t141), (142, t142), (143, t143), (144, t144), (145, t145), (146, t146), (147, t147), (148, t148), (149, t149), (150, t150), (151, t151), (152, t152), (153, t153), (154, t154), (155, t155), (156, t156), (157, t157), (158, t158), (159, t159), (160, t160), (161, t161), (162, t162), (163, t163), (164, t164), (165, t165), (166, t166), (167, t167), (168, t168), (169, t169), (170, t170), (171, t171), (172, t172), (173, t173), (174, t174), (175, t175), (176, t176), (177, t177), (178, t178), (179, t179), (180, t180), (181, t181), (182, t182), (183, t183), (184, t184), (185, t185), (186, t186), (187, t187), (188, t188), (189, t189), (190, t190), (191, t191), (192, t192), (193, t193), (194, t194), (195, t195), (196, t196), (197, t197), (198, t198), (199, t199), (200, t200), (201, t201), (202, t202), (203, t203), (204, t204), (205, t205), (206, t206), (207, t207), (208, t208), (209, t209), (210, t210), (211, t211), (212, t212), (213, t213), (214, t214), (215, t215), (216, t216), (217, t217), (218, t218), (219, t219), (220, t220), (221, t221), (222, t222), (223, t223), (224, t224), (225, t225), (226, t226), (227, t227), (228, t228), (229, t229), (230, t230), (231, t231), (232, t232), (233, t233), (234, t234), (235, t235), (236, t236), (237, t237), (238, t238)] H = f78_l2 p n  k m2 t2 t3 t7 H := by
  induction m2 with
  | zero => intros; rfl
  | succ m2 ih =>
    intro t0 t1 t2 t3 t4 t5 t6 t7 t8 t9 t10 t11 t12 t13 t14 t15 t16 t17 t18 t19 t20 t21 t22 t23 t24 t25 t26 t27 t28 t29 t30 t31 t32 t33 t34 t35 t36 t37 t38 t39 t40 t41 t42 t43 t44 t45 t46 t47 t48 t49 t50 t51 t52 t53 t54 t55 t56 t57 t58 t59 t60 t61 t62 t63 t64 t65 t66 t67 t68 t69 t70 t71 t72 t73 t74 t75 t76 t77 t78 t79 t80 t81 t82 t83 t84 t85 t86 t87 t88 t89 t90 t91 t92 t93 t94 t95 t96 t97 t98 t99 t100 t101 t102 t103 t104 t105 t106 t107 t108 t109 t110 t111 t112 t113 t114 t115 t116 t117 t118 t119 t120 t121 t122 t123 t124 t125 t126 t127 t128 t129 t130 t131 t132 t133 t134 t135 t136 t137 t138 t139 t140 t141 t142 t143 t144 t145 t146 t147 t148 t149 t150 t151 t152 t153 t154 t155 t156 t157 t158 t159 t160 t161 t162 t163 t164 t165 t166 t167 t168 t169 t170 t171 t172 t173 t174 t175 t176 t177 t178 t179 t180 t181 t182 t183 t184 t185 t186 t187 t188 t189 t190 t191 t192 t193 t194 t195 t196 t197 t198 t199 t200 t201 t202 t203 t204 t205 t206 t207 t208 t209 t210 t211 t212 t213 t214 t215 t216 t217 t218 t219 t220 t221 t222 t223 t224 t225 t226 t227 t228 t229 t230 t231 t232 t233 t234 t235 t236 t237 t238 H
    rw [f78_L2_step]
    simp only [ih]
    rfl
theorem f78_L1_step (p : Pr β) (n : Nat)  (k : AV → Heap → Option β) (m1 : Nat) (t0 t1 t2 t3 t4 t5 t6 t7 t8 t9 t10 t11 t12 t13 t14 t15 t16 t17 t18 t19 t20 t21 t22 t23 t24 t25 t26 t27 t28 t29 t30 t31 t32 t33 t34 t35 t36 t37 t38 t39 t40 t41 t42 t43 t44 t45 t46 t47 t48 t49 t50 t51 t52 t53 t54 t55 t56 t57 t58 t59 t60 t61 t62 t63 t64 t65 t66 t67 t68 t69 t70 t71 t72 t73 t74 t75 t76 t77 t78 t79 t80 t81 t82 t83 t84 t85 t86 t87 t88 t89 t90 t91 t92 t93 t94 t95 t96 t97 t98 t99 t100 t101 t102 t103 t104 t105 t106 t107 t108 t109 t110 t111 t112 t113 t114 t115 t116 t117 t118 t119 t120 t121 t122 t123 t124 t125 t126 t127 t128 t129 t130 t131 t132 t133 t134 t135 t136 t137 t138 t139 t140 t141 t142 t143 t144 t145 t146 t147 t148 t149 t150 t151 t152 t153 t154 t155 t156 t157 t158 t159 t160 t161 t162 t163 t164 t165 t166 t167 t168 t169 t170 t171 t172 t173 t174 t175 t176 t177 t178 t179 t180 t181 t182 t183 t184 t185 t186 t187 t188 t189 t190 t191 t192 t193 t194 t195 t196 t197 t198 t199 t200 t201 t202 t203 t204 t205 t206 t207 t208 t209 t210 t211 t212 t213 t214 t215 t216 t217 t218 t219 t220 t221 t222 t223 t224 t225 t226 t227 t228 t229 t230 t231 t232 t233 t234 t235 t236 t237 t238 : AV) (H : Heap) : f78_L1 p n  k (m1 + 1) [(0, t0), (1, t1), (2, t2), (3, t3), (4, t4), (5, t5), (6, t6), (7, t7), (8, t8), (9, t9), (10, t10), (11, t11), (12, t12), (13, t13), (14, t14), (15, t15), (16, t16), (17, t17), (18, t18), (19, t19), (20, t20), (21, t21), (22, t22), (23, t23), (24, t24), (25, t25), (26, t26), (27, t27), (28, t28), (29, t29), (30, t30), (31, t31), (32, t32), (33, t33), (34, t34), (35, t35), (36, t36), (37, t37), (38, t38), (39, t39), (40, t40), (41, t41), (42, t42), (43, t43), (44, t44), (45, t45), (46, t46), (47, t47), (48, t48), (49, t49), (50, t50), (51, t51), (52, t52), (53, t53), (54, t54), (55, t55), (56, t56), (57, t57), (58, t58), (59, t59), (60, t60), (61, t61), (62, t62), (63, t63), (64, t64), (65, t65), (66, t66), (67, t67), (68, t68), (69, t69), (70, t70), (71, t71), (72, t72), (73, t73), (74, t74), (75, t75), (76, t76), (77, t77), (78, t78), (79, t79), (80, t80), (81, t81), (82, t82), (83, t83), (84, t84), (85, t85), (86, t86), (87, t87), (88, t88), (89, t89), (90, t90), (91, t91), (92, t92), (93, t93), (94, t94), (95, t95), (96, t96), (97, t97), (98, t98), (99, t99), (100, t100), (101, t101), (102, t102), (103, t103), (104, t104), (105, t105), (106, t106), (107, t107), (108, t108), (109, t109), (110, t110), (111, t111), (112, t112), (113, t113), (114, t114), (115, t115), (116, t116), (117, t117), (118, t118), (119, t119), (120, t120), (121, t121), (122, t122), (123, t123), (124, t124), (125, t125), (126, t126), (127, t127), (128, t128), (129, t129), (130, t130), (131, t131), (132, t132), (133, t133), (134, t134), (135, t135), (136, t136), (137, t137), (138, t138), (139, t139), (140, t140), (141, t141), (142, t142), (143, t143), (144, t144), (145, t145), (146, t146), (147, t147), (148, t148), (149, t149), (150, t150), (151, t151), (152, t152), (153, t153), (154, t154), (155, t155), (156, t156), (157, t157), (158, t158), (159, t159), (160, t160), (161, t161), (162, t162), (163, t163), (164, t164), (165, t165), (166, t166), (167, t167), (168, t168), (169, t169), (170, t170), (171, t171), (172, t172), (173, t173), (174, t174), (175, t175), (176, t176), (177, t177), (178, t178), (179, t179), (180, t180), (181, t181), (182, t182), (183, t183), (184, t184), (185, t185), (186, t186), (187, t187), (188, t188), (189, t189), (190, t190), (191, t191), (192, t192), (193, t193), (194, t194), (195, t195), (196, t196), (197, t197), (198, t198), (199, t199), (200, t200), (201, t201), (202, t202), (203, t203), (204, t204), (205, t205), (206, t206), (207, t207), (208, t208), (209, t209), (210, t210), (211, t211), (212, t212), (213, t213), (214, t214), (215, t215), (216, t216), (217, t217), (218, t218), (219, t219), (220, t220), (221, t221), (222, t222), (223, t223), (224, t224), (225, t225), (226, t226), (227, t227), (228, t228), (229, t229), (230, t230), (231, t231), (232, t232), (233, t233), (234, t234), (235, t235), (236, t236), (237, t237), (238, t238)] H =
  p.fadr 23 t2 fun t52 =>
  p.load false 1 t52 H fun t53 =>
  p.len t53 fun t54 =>
  p.bin .lss t6 t54 fun t55 =>
  p.cond t55
  (p.fadr 23 t2 fun t58 =>
  p.load false 1 t58 H fun t59 =>
  p.iadr 1 t59 t6 fun t61 =>
  p.load false 1 t61 H fun t62 =>
  p.fadr 23 t3 fun t63 =>
  p.load false 1 t63 H fun t64 =>
  p.iadr 1 t64 t6 fun t66 =>
  p.load false 1 t66 H fun t67 =>
  p.bin .neq t62 t67 fun t68 =>
  p.cond t68
  (k (.sc (.bool false)) H)
  (p.bin .add t6 (.sc (.int .i64 1)) fun t57 =>
  f78_L1 p n  k m1 [(0, t0), (1, t1), (2, t2), (3, t3), (4, t4), (5, t5), (6, t57), (7, t7), (8, t8), (9, t9), (10, t10), (11, t11), (12, t12), (13, t13), (14, t14), (15, t15), (16, t16), (17, t17), (18, t18), (19, t19), (20, t20), (21, t21), (22, t22), (23, t23), (24, t24), (25, t25), (26, t26), (27, t27), (28, t28), (29, t29), (30, t30), (31, t31), (32, t32), (33, t33), (34, t34), (35, t35), (36, t36), (37, t37), (38, t38), (39, t39), (40, t40), (41, t41), (42, t42), (43, t43), (44, t44), (45, t45), (46, t46), (47, t47), (48, t48), (49, t49), (50, t50), (51, t6), (52, t52), (53, t53), (54, t54), (55, t55), (56, t6), (57, t57), (58, t58), (59, t59), (60, t6), (61, t61), (62, t62), (63, t63), (64, t64), (65, t6), (66, t66), (67, t67), (68, t68), (69, t69), (70, t70), (71, t71), (72, t72), (73, t73), (74, t74), (75, t75), (76, t76), (77, t77), (78, t78), (79, t79), (80, t80), (81, t81), (82, t82), (83, t83), (84, t84), (85, t85), (86, t86), (87, t87), (88, t88), (89, t89), (90, t90), (91, t91), (92, t92), (93, t93), (94, t94), (95, t95), (96, t96), (97, t97), (98, t98), (99, t99), (100, t100), (101, t101), (102, t102), (103, t103), (104, t104), (105, t105), (106, t106), (107, t107), (108, t108), (109, t109), (110, t110), (111, t111), (112, t112), (113, t113), (114, t114), (115, t115), (116, t116), (117, t117), (118, t118), (119, t119), (120, t120), (121, t121), (122, t122), (123, t123), (124, t124), (125, t125), (126, t126), (127, t127), (128, t128), (129, t129), (130, t130), (131, t131), (132, t132), (133, t133), (134, t134), (135, t135), (136, t136), (137, t137), (138, t138), (139, t139), (140, t140), (141, t141), (142, t142), (143, t143), (144, t144), (145, t145), (146, t146), (147, t147), (148, t148), (149, t149), (150, t150), (151, t151), (152, t152), (153, t153), (154, t154), (155, t155), (156, t156), (157, t157), (158, t158), (159, t159), (160, t160), (161, t161), (162, t162), (163, t163), (164, t164), (165, t165), (166, t166), (167, t167), (168, t168), (169, t169), (170, t170), (171, t171), (172, t172), (173, t173), (174, t174), (175, t175), (176, t176), (177, t177), (178, t178), (179, t179), (180, t180), (181, t181), (182, t182), (183, t183), (184, t184), (185, t185), (186, t186), (187, t187), (188, t188), (189, t189), (190, t190), (191, t191), (192, t192), (193, t193), (194, t194), (195, t195), (196, t196), (197, t197), (198, t198), (199, t199), (200, t200), (201, t201), (202, t202), (203, t203), (204, t204), (205, t205), (206, t206), (207, t207), (208, t208), (209, t209), (210, t210), (211, t211), (212, t212), (213, t213), (214, t214), (215, t215), (216, t216), (217, t217), (218, t218), (219, t219), (220, t220), (221, t221), (222, t222), (223, t223), (224, t224), (225, t225), (226, t226), (227, t227), (228, t228), (229, t229), (230, t230), (231, t231), (232, t232), (233, t233), (234, t234), (235, t235), (236, t236), (237, t237), (238, t238)] H))
  (f78_L2 p n  k n [(0, t0), (1, t1), (2, t2), (3, t3), (4, t4), (5, t5), (6, t6), (7, (.sc (.int .i64 0))), (8, t8), (9, t9), (10, t10), (11, t11), (12, t12), (13, t13), (14, t14), (15, t15), (16, t16), (17, t17), (18, t18), (19, t19), (20, t20), (21, t21), (22, t22), (23, t23), (24, t24), (25, t25), (26, t26), (27, t27), (28, t28), (29, t29), (30, t30), (31, t31), (32, t32), (33, t33), (34, t34), (35, t35), (36, t36), (37, t37), (38, t38), (39, t39), (40, t40), (41, t41), (42, t42), (43, t43), (44, t44), (45, t45), (46, t46), (47, t47), (48, t48), (49, t49), (50, t50), (51, t6), (52, t52), (53, t53), (54, t54), (55, t55), (56, t56), (57, t57), (58, t58), (59, t59), (60, t60), (61, t61), (62, t62), (63, t63), (64, t64), (65, t65), (66, t66), (67, t67), (68, t68), (69, t69), (70, t70), (71, t71), (72, t72), (73, t73), (74, t74), (75, t75), (76, t76), (77, t77), (78, t78), (79, t79), (80, t80), (81, t81), (82, t82), (83, t83), (84, t84), (85, t85), (86, t86), (87, t87), (88, t88), (89, t89), (90, t90), (91, t91), (92, t92), (93, t93), (94, t94), (95, t95), (96, t96), (97, t97), (98, t98), (99, t99), (100, t100), (101, t101), (102, t102), (103, t103), (104, t104), (105, t105), (106, t106), (107, t107), (108, t108), (109, t109), (110, t110), (111, t111), (112, t112), (113, t113), (114, t114), (115, t115), (116, t116), (117, t117), (118, t118), (119, t119), (120, t120), (121, t121), (122, t122), (123, t123), (124, t124), (125, t125), (126, t126), (127, t127), (128, t128), (129, t129), (130, t130), (131, t131), (132, t132), (133, t133), (134, t134), (135, t135), (136, t136), (137, t137), (138, t138), (139, t139), (140, t140), (141, t141), (142, t142), (143, t143), (144, t144), (145, t145), (146, t146), (147, t147), (148, t148), (149, t149), (150, t150), (151, t151), (152, t152), (153, t153), (154, t154), (155, t155), (156, t156), (157, t157), (158, t158), (159, t159), (160, t160), (161, t161), (162, t162), (163, t163), (164, t164), (165, t165), (166, t166), (167, t167), (168, t168), (169, t169), (170, t170), (171, t171), (172, t172), (173, t173), (174, t174), (175, t175), (176, t176), (177, t177), (178, t178), (179, t179), (180, t180), (181, t181), (182, t182), (183, t183), (184, t184), (185, t185), (186, t186), (187, t187), (188, t188), (189, t189), (190, t190), (191, t191), (192, t192), (193, t193), (194, t194), (195, t195), (196, t196), (197, t197), (198, t198), (199, t199), (200, t200), (201, t201), (202, t202), (203, t203), (204, t204), (205, t205), (206, t206), (207, t207), (208, t208), (209, t209), (210, t210), (211, t211), (212, t212), (213, t213), (214, t214), (215, t215), (216, t216), (217, t217), (218, t218), (219, t219), (220, t220), (221, t221), (222, t222), (223, t223), (224, t224), (225, t225), (226, t226), (227, t227), (228, t228), (229, t229), (230, t230), (231, t231), (232, t232), (233, t233), (234, t234), (235, t235), (236, t236), (237, t237), (238, t238)] H) := by kernel_rfl
theorem f78_l1_eq (p : Pr β) (n : Nat)  (k : AV → Heap → Option β)   (m1 : Nat) : ∀ (t0 t1 t2 t3 t4 t5 t6 t7 t8 t9 t10 t11 t12 t13 t14 t15 t16 t17 t18 t19 t20 t21 t22 t23 t24 t25 t26 t27 t28 t29 t30 t31 t32 t33 t34 t35 t36 t37 t38 t39 t40 t41 t42 t43 t44 t45 t46 t47 t48 t49 t50 t51 t52 t53 t54 t55 t56 t57 t58 t59 t60 t61 t62 t63 t64 t65 t66 t67 t68 t69 t70 t71 t72 t73 t74 t75 t76 t77 t78 t79 t80 t81 t82 t83 t84 t85 t86 t87 t88 t89 t90 t91 t92 t93 t94 t95 t96 t97 t98 t99 t100 t101 t102 t103 t104 t105 t106 t107 t108 t109 t110 t111 t112 t113 t114 t115 t116 t117 t118 t119 t120 t121 t122 t123 t124 t125 t126 t127 t128 t129 t130 t131 t132 t133 t134 t135 t136 t137 t138 t139 t140 t141 t142 t143 t144 t145 t146 t147 t148 t149 t150 t151 t152 t153 t154 t155 t156 t157 t158 t159 t160 t161 t162 t163 t164 t165 t166 t167 t168 t169 t170 t171 t172 t173 t174 t175 t176 t177 t178 t179 t180 t181 t182 t183 t184 t185 t186 t187 t188 t189 t190 t191 t192 t193 t194 t195 t196 t197 t198 t199 t200 t201 t202 t203 t204 t205 t206 t207 t208 t209 t210 t211 t212 t213 t214 t215 t216 t217 t218 t219 t220 t221 t222 t223 t224 t225 t226 t227 t228 t229 t230 t231 t232 t233 t234 t235 t236 t237 t238 : AV) (H : Heap), f78_L1 p n  k m1 [(0, t0), (1, t1), (2, t2), (3, t3), (4, t4), (5, t5), (6, t6), (7, t7), (8, t8), (9, t9), (10, t10), (11, t11), (12, t12), (13, t13), (14, t14), (15, t15), (16, t16), (17, t17), (18, t18), (19, t19), (20, t20), (21, t21), (22, t22), (23, t23), (24, t24), (25, t25), (26, t26), (27, t27), (28, t28), (29, t29), (30, t30), (31, t31), (32, t32), (33, t33), (34, t34), (35, t35), (36, t36), (37, t37), (38, t38), (39, t39), (40, t40), (41, t41), (42, t42), (43, t43), (44, t44), (45, t45), (46, t46), (47, t47), (48, t48), (49, t49), (50, t50), (51, t51), (52, t52), (53, t53), (54, t54), (55, t55), (56, t56), (57, t57), (58, t58), (59, t59), (60, t60), (61, t61), (62, t62), (63, t63), (64, t64), (65, t65), (66, t66), (67, t67), (68, t68), (69, t69), (70, t70), (71, t71), (72, t72), (73, t73), (74, t74), (75, t75), (76, t76), (77, t77), (78, t78), (79, t79), (80, t80), (81, t81), (82, t82), (83, t83), (84, t84), (85, t85), (86, t86), (87, t87), (88, t88), (89, t89), (90, t90), (91, t91), (92, t92), (93, t93), (94, t94), (95, t95), (96, t96), (97, t97), (98, t98), (99, t99), (100, t100), (101, t101), (102, t102), (103, t103), (104, t104), (105, t105), (106, t106), (107, t107), (108, t108), (109, t109), (110, t110), (111, t111), (112, t112), (113, t113), (114, t114), (115, t115), (116, t116), (117, t117), (118, t118), (119, t119), (120, t120), (121, t121), (122, t122), (123, t123), (124, t124), (125, t125), (126, t126), (127, t127), (128, t128), (129, t129), (130, t130), (131, t131), (132, t132), (133, t133), (134, t134), (135, t135), (136, t136), (137, t137), (138, t138), (139, t139), (140, t140), (141, t141), (142, t142), (143, t143), (144, t144), (145, t145), (146, t146), (147, t147), (148, t148), (149, t149), (150, t150), (151, t151), (152, t152), (153, t153), (154, t154), (155, t155), (156, t156), (157, t157), (158, t158), (159, t159), (160, t160), (161, t161), (162, t162), (163, t163), (164, t164), (165, t165), (166, t166), (167, t167), (168, t168), (169, t169), (170, t170), (171, t171), (172, t172), (173, t173), (174, t174), (175, t175), (176, t176), (177, t177), (178, t178), (179, t179), (180, t180), (181, t181), (182, t182), (183, t183), (184, t184), (185, t185), (186, t186), (187, t187), (188, t188), (189, t189), (190, t190), (191, t191), (192, t192), (193, t193), (194, t194), (195, t195), (196, t196), (197, t197), (198, t198), (199, t199), (200, t200), (201, t201), (202, t202), (203, t203), (204, t204), (205, t205), (206, t206), (207, t207), (208, t208), (209, t209), (210, t210), (211, t211), (212, t212), (213, t213), (214, t214), (215, t215), (216, t216), (217, t217), (218, t218), (219, t219), (220, t220), (221, t221), (222, t222), (223, t223), (224, t224), (225, t225), (226, t226), (227, t227), (228, t228), (229, t229), (230, t230), (231, t231), (232, t232), (233, t233), (234, t234), (235, t235), (236, t236), (237, t237), (238, t238)] H = f78_l1 p n  k m1 t2 t3 t6 H := by
  induction m1 with
  | zero => intros; rfl
  | succ m1 ih =>
    intro t0 t1 t2 t3 t4 t5 t6 t7 t8 t9 t10 t11 t12 t13 t14 t15 t16 t17 t18 t19 t20 t21 t22 t23 t24 t25 t26 t27 t28 t29 t30 t31 t32 t33 t34 t35 t36 t37 t38 t39 t40 t41 t42 t43 t44 t45 t46 t47 t48 t49 t50 t51 t52 t53 t54 t55 t56 t57 t58 t59 t60 t61 t62 t63 t64 t65 t66 t67 t68 t69 t70 t71 t72 t73 t74 t75 t76 t77 t78 t79 t80 t81 t82 t83 t84 t85 t86 t87 t88 t89 t90 t91 t92 t93 t94 t95 t96 t97 t98 t99 t100 t101 t102 t103 t104 t105 t106 t107 t108 t109 t110 t111 t112 t113 t114 t115 t116 t117 t118 t119 t120 t121 t122 t123 t124 t125 t126 t127 t128 t129 t130 t131 t132 t133 t134 t135 t136 t137 t138 t139 t140 t141 t142 t143 t144 t145 t146 t147 t148 t149 t150 t151 t152 t153 t154 t155 t156 t157 t158 t159 t160 t161 t162 t163 t164 t165 t166 t167 t168 t169 t170 t171 t172 t173 t174 t175 t176 t177 t178 t179 t180 t181 t182 t183 t184 t185 t186 t187 t188 t189 t190 t191 t192 t193 t194 t195 t196 t197 t198 t199 t200 t201 t202 t203 t204 t205 t206 t207 t208 t209 t210 t211 t212 t213 t214 t215 t216 t217 t218 t219 t220 t221 t222 t223 t224 t225 t226 t227 t228 t229 t230 t231 t232 t233 t234 t235 t236 t237 t238 H
    rw [f78_L1_step]
    simp only [ih, f78_l2_eq p n  k  ]
    rfl
theorem f78_L0_step (p : Pr β) (n : Nat)  (k : AV → Heap → Option β) (m0 : Nat) (t0 t1 t2 t3 t4 t5 t6 t7 t8 t9 t10 t11 t12 t13 t14 t15 t16 t17 t18 t19 t20 t21 t22 t23 t24 t25 t26 t27 t28 t29 t30 t31 t32 t33 t34 t35 t36 t37 t38 t39 t40 t41 t42 t43 t44 t45 t46 t47 t48 t49 t50 t51 t52 t53 t54 t55 t56 t57 t58 t59 t60 t61 t62 t63 t64 t65 t66 t67 t68 t69 t70 t71 t72 t73 t74 t75 t76 t77 t78 t79 t80 t81 t82 t83 t84 t85 t86 t87 t88 t89 t90 t91 t92 t93 t94 t95 t96 t97 t98 t99 t100 t101 t102 t103 t104 t105 t106 t107 t108 t109 t110 t111 t112 t113 t114 t115 t116 t117 t118 t119 t120 t121 t122 t123 t124 t125 t126 t127 t128 t129 t130 t131 t132 t133 t134 t135 t136 t137 t138 t139 t140 t141 t142 t143 t144 t145 t146 t147 t148 t149 t150 t151 t152 t153 t154 t155 t156 t157 t158 t159 t160 t161 t162 t163 t164 t165 t166 t167 t168 t169 t170 t171 t172 t173 t174 t175 t176 t177 t178 t179 t180 t181 t182 t183 t184 t185 t186 t187 t188 t189 t190 t191 t192 t193 t194 t195 t196 t197 t198 t199 t200 t201 t202 t203 t204 t205 t206 t207 t208 t209 t210 t211 t212 t213 t214 t215 t216 t217 t218 t219 t220 t221 t222 t223 t224 t225 t226 t227 t228 t229 t230 t231 t232 t233 t234 t235 t236 t237 t238 : AV) (H : Heap) : f78_L0 p n  k (m0 + 1) [(0, t0), (1, t1), (2, t2), (3, t3), (4, t4), (5, t5), (6, t6), (7, t7), (8, t8), (9, t9), (10, t10), (11, t11), (12, t12), (13, t13), (14, t14), (15, t15), (16, t16), (17, t17), (18, t18), (19, t19), (20, t20), (21, t21), (22, t22), (23, t23), (24, t24), (25, t25), (26, t26), (27, t27), (28, t28), (29, t29), (30, t30), (31, t31), (32, t32), (33, t33), (34, t34), (35, t35), (36, t36), (37, t37), (38, t38), (39, t39), (40, t40), (41, t41), (42, t42), (43, t43), (44, t44), (45, t45), (46, t46), (47, t47), (48, t48), (49, t49), (50, t50), (51, t51), (52, t52), (53, t53), (54, t54), (55, t55), (56, t56), (57, t57), (58, t58), (59, t59), (60, t60), (61, t61), (62, t62), (63, t63), (64, t64), (65, t65), (66, t66), (67, t67), (68, t68), (69, t69), (70, t70), (71, t71), (72, t72), (73, t73), (74, t74), (75, t75), (76, t76), (77, t77), (78, t78), (79, t79), (80, t80), (81, t81), (82, t82), (83, t83), (84, t84), (85, t85), (86, t86), (87, t87), (88, t88), (89, t89), (90, t90), (91, t91), (92, t92), (93, t93), (94, t94), (95, t95), (96, t96), (97, t97), (98, t98), (99, t99), (100, t100), (101, t101), (102, t102), (103, t103), (104, t104), (105, t105), (106, t106), (107, t107), (108, t108), (109, t109), (110, t110), (111, t111), (112, t112), (113, t113), (114, t114), (115, t115), (116, t116), (117, t117), (118, t118), (119, t119), (120, t120), (121, t121), (122, t122), (123, t123), (124, t124), (125, t125), (126, t126), (127, t127), (128, t128), (129, t129), (130, t130), (131, t131), (132, t132), (133, t133), (134, t134), (135, t135), (136, t136), (137, t137), (138, t138), (139, t139), (140, t140), (141, t141), (142, t142), (143, t143), (144, t144), (145, t145), (146, t146), (147, t147), (148, t148), (149, t149), (150, t150), (151, t151), (152, t152), (153, t153), (154, t154), (155, t155), (156, t156), (157, t157), (158, t158), (159, t159), (160, t160), (161, t161), (162, t162), (163, t163), (164, t164), (165, t165), (166, t166), (167, t167), (168, t168), (169, t169), (170, t170), (171, t171), (172, t172), (173, t173), (174, t174), (175, t175), (176, t176), (177, t177), (178, t178), (179, t179), (180, t180), (181, t181), (182, t182), (183, t183), (184, t184), (185, t185), (186, t186), (187, t187), (188, t188), (189, t189), (190, t190), (191, t191), (192, t192), (193, t193), (194, t194), (195, t195), (196, t196), (197, t197), (198, t198), (199, t199), (200, t200), (201, t201), (202, t202), (203, t203), (204, t204), (205, t205), (206, t206), (207, t207), (208, t208), (209, t209), (210, t210), (211, t211), (212, t212), (213, t213), (214, t214), (215, t215), (216, t216), (217, t217), (218, t218), (219, t219), (220, t220), (221, t221), (222, t222), (223, t223), (224, t224), (225, t225), (226, t226), (227, t227), (228, t228), (229, t229), (230, t230), (231, t231), (232, t232), (233, t233), (234, t234), (235, t235), (236, t236), (237, t237), (238, t238)] H =
  p.fadr 22 t2 fun t34 =>
  p.load false 1 t34 H fun t35 =>
  p.len t35 fun t36 =>
  p.bin .lss t5 t36 fun t37 =>
  p.cond t37
  (p.fadr 22 t2 fun t40 =>
  p.load false 1 t40 H fun t41 =>
  p.iadr 2 t41 t5 fun t43 =>
  p.load true 2 t43 H fun t44 =>
  p.fadr 22 t3 fun t45 =>
  p.load false 1 t45 H fun t46 =>
  p.iadr 2 t46 t5 fun t48 =>
  p.load true 2 t48 H fun t49 =>
  p.binA .neq [1, 0] t44 t49 fun t50 =>
  p.cond t50
  (k (.sc (.bool false)) H)
  (p.bin .add t5 (.sc (.int .i64 1)) fun t39 =>
  f78_L0 p n  k m0 [(0, t0), (1, t1), (2, t2), (3, t3), (4, t4), (5, t39), (6, t6), (7, t7), (8, t8), (9, t9), (10, t10), (11, t11), (12, t12), (13, t13), (14, t14), (15, t15), (16, t16), (17, t17), (18, t18), (19, t19), (20, t20), (21, t21), (22, t22), (23, t23), (24, t24), (25, t25), (26, t26), (27, t27), (28, t28), (29, t29), (30, t30), (31, t31), (32, t32), (33, t5), (34, t34), (35, t35), (36, t36), (37, t37), (38, t5), (39, t39), (40, t40), (41, t41), (42, t5), (43, t43), (44, t44), (45, t45), (46, t46), (47, t5), (48, t48), (49, t49), (50, t50), (51, t51), (52, t52), (53, t53), (54, t54), (55, t55), (56, t56), (57, t57), (58, t58), (59, t59), (60, t60), (61, t61), (62, t62), (63, t63), (64, t64), (65, t65), (66, t66), (67, t67), (68, t68), (69, t69), (70, t70), (71, t71), (72, t72), (73, t73), (74, t74), (75, t75), (76, t76), (77, t77), (78, t78), (79, t79), (80, t80), (81, t81), (82, t82), (83, t83), (84, t84), (85, t85), (86, t86), (87, t87), (88, t88), (89, t89), (90, t90), (91, t91), (92, t92), (93, t93), (94, t94), (95, t95), (96, t96), (97, t97), (98, t98), (99, t99), (100, t100), (101, t101), (102, t102), (103, t103), (104, t104), (105, t105), (106, t106), (107, t107), (108, t108), (109, t109), (110, t110), (111, t111), (112, t112), (113, t113), (114, t114), (115, t115), (116, t116), (117, t117), (118, t118), (119, t119), (120, t120), (121, t121), (122, t122), (123, t123), (124, t124), (125, t125), (126, t126), (127, t127), (128, t128), (129, t129), (130, t130), (131, t131), (132, t132), (133, t133), (134, t134), (135, t135), (136, t136), (137, t137), (138, t138), (139, t139), (140, t140), (141, t141), (142, t142), (143, t143), (144, t144), (145, t145), (146, t146), (147, t147), (148, t148), (149, t149), (150, t150), (151, t151), (152, t152), (153, t153), (154, t154), (155, t155), (156, t156), (157, t157), (158, t158), (159, t159), (160, t160), (161, t161), (162, t162), (163, t163), (164, t164), (165, t165), (166, t166), (167, t167), (168, t168), (169, t169), (170, t170), (171, t171), (172, t172), (173, t173), (174, t174), (175, t175), (176, t176), (177, t177), (178, t178), (179, t179), (180, t180), (181, t181), (182, t182), (183, t183), (184, t184), (185, t185), (186, t186), (187, t187), (188, t188), (189, t189), (190, t190), (191, t191), (192, t192), (193, t193), (194, t194), (195, t195), (196, t196), (197, t197), (198, t198), (199, t199), (200, t200), (201, t201), (202, t202), (203, t203), (204, t204), (205, t205), (206, t206), (207, t207), (208, t208), (209, t209), (210, t210), (211, t211), (212, t212), (213, t213), (214, t214), (215, t215), (216, t216), (217, t217), (218, t218), (219, t219), (220, t220), (221, t221), (222, t222), (223, t223), (224, t224), (225, t225), (226, t226), (227, t227), (228, t228), (229, t229), (230, t230), (231, t231), (232, t232), (233, t233), (234, t234), (235, t235), (236, t236), (237, t237), (238, t238)] H))
  (f78_L1 p n  k n [(0, t0), (1, t1), (2, t2), (3, t3), (4, t4), (5, t5), (6, (.sc (.int .i64 0))), (7, t7), (8, t8), (9, t9), (10, t10), (11, t11), (12, t12), (13, t13), (14, t14), (15, t15), (16, t16), (17, t17), (18, t18), (19, t19), (20, t20), (21, t21), (22, t22), (23, t23), (24, t24), (25, t25), (26, t26), (27, t27), (28, t28), (29, t29), (30, t30), (31, t31), (32, t32), (33, t5), (34, t34), (35, t35), (36, t36), (37, t37), (38, t38), (39, t39), (40, t40), (41, t41), (42, t42), (43, t43), (44, t44), (45, t45), (46, t46), (47, t47), (48, t48), (49, t49), (50, t50), (51, t51), (52, t52), (53, t53), (54, t54), (55, t55), (56, t56), (57, t57), (58, t58), (59, t59), (60, t60), (61, t61), (62, t62), (63, t63), (64, t64), (65, t65), (66, t66), (67, t67), (68, t68), (69, t69), (70, t70), (71, t71), (72, t72), (73, t73), (74, t74), (75, t75), (76, t76), (77, t77), (78, t78), (79, t79), (80, t80), (81, t81), (82, t82), (83, t83), (84, t84), (85, t85), (86, t86), (87, t87), (88, t88), (89, t89), (90, t90), (91, t91), (92, t92), (93, t93), (94, t94), (95, t95), (96, t96), (97, t97), (98, t98), (99, t99), (100, t100), (101, t101), (102, t102), (103, t103), (104, t104), (105, t105), (106, t106), (107, t107), (108, t108), (109, t109), (110, t110), (111, t111), (112, t112), (113, t113), (114, t114), (115, t115), (116, t116), (117, t117), (118, t118), (119, t119), (120, t120), (121, t121), (122, t122), (123, t123), (124, t124), (125, t125), (126, t126), (127, t127), (128, t128), (129, t129), (130, t130), (131, t131), (132, t132), (133, t133), (134, t134), (135, t135), (136, t136), (137, t137), (138, t138), (139, t139), (140, t140), (141, t141), (142, t142), (143, t143), (144, t144), (145, t145), (146, t146), (147, t147), (148, t148), (149, t149), (150, t150), (151, t151), (152, t152), (153, t153), (154, t154), (155, t155), (156, t156), (157, t157), (158, t158), (159, t159), (160, t160), (161, t161), (162, t162), (163, t163), (164, t164), (165, t165), (166, t166), (167, t167), (168, t168), (169, t169), (170, t170), (171, t171), (172, t172), (173, t173), (174, t174), (175, t175), (176, t176), (177, t177), (178, t178), (179, t179), (180, t180), (181, t181), (182, t182), (183, t183), (184, t184), (185, t185), (186, t186), (187, t187), (188, t188), (189, t189), (190, t190), (191, t191), (192, t192), (193, t193), (194, t194), (195, t195), (196, t196), (197, t197), (198, t198), (199, t199), (200, t200), (201, t201), (202, t202), (203, t203), (204, t204), (205, t205), (206, t206), (207, t207), (208, t208), (209, t209), (210, t210), (211, t211), (212, t212), (213, t213), (214, t214), (215, t215), (216, t216), (217, t217), (218, t218), (219, t219), (220, t220), (221, t221), (222, t222), (223, t223), (224, t224), (225, t225), (226, t226), (227, t227), (228, t228), (229, t229), (230, t230), (231, t231), (232, t232), (233, t233), (234, t234), (235, t235), (236, t236), (237, t237), (238, t238)] H) := by kernel_rfl
theorem f78_l0_eq (p : Pr β) (n : Nat)  (k : AV → Heap → Option β)   (m0 : Nat) : ∀ (t0 t1 t2 t3 t4 t5 t6 t7 t8 t9 t10 t11 t12 t13 t14 t15 t16 t17 t18 t19 t20 t21 t22 t23 t24 t25 t26 t27 t28 t29 t30 t31 t32 t33 t34 t35 t36 t37 t38 t39 t40 t41 t42 t43 t44 t45 t46 t47 t48 t49 t50 t51 t52 t53 t54 t55 t56 t57 t58 t59 t60 t61 t62 t63 t64 t65 t66 t67 t68 t69 t70 t71 t72 t73 t74 t75 t76 t77 t78 t79 t80 t81 t82 t83 t84 t85 t86 t87 t88 t89 t90 t91 t92 t93 t94 t95 t96 t97 t98 t99 t100 t101 t102 t103 t104 t105 t106 t107 t108 t109 t110 t111 t112 t113 t114 t115 t116 t117 t118 t119 t120 t121 t122 t123 t124 t125 t126 t127 t128 t129 t130 t131 t132 t133 t134 t135 t136 t137 t138 t139 t140 t141 t142 t143 t144 t145 t146 t147 t148 t149 t150 t151 t152 t153 t154 t155 t156 t157 t158 t159 t160 t161 t162 t163 t164 t165 t166 t167 t168 t169 t170 t171 t172 t173 t174 t175 t176 t177 t178 t179 t180 t181 t182 t183 t184 t185 t186 t187 t188 t189 t190 t191 t192 t193 t194 t195 t196 t197 t198 t199 t200 t201 t202 t203 t204 t205 t206 t207 t208 t209 t210 t211 t212 t213 t214 t215 t216 t217 t218 t219 t220 t221 t222 t223 t224 t225 t226 t227 t228 t229 t230 t231 t232 t233 t234 t235 t236 t237 t238 : AV) (H : Heap), f78_L0 p n  k m0 [(0, t0), (1, t1), (2, t2), (3, t3), (4, t4), (5, t5), (6, t6), (7, t7), (8, t8), (9, t9), (10, t10), (11, t11), (12, t12), (13, t13), (14, t14), (15, t15), (16, t16), (17, t17), (18, t18), (19, t19), (20, t20), (21, t21), (22, t22), (23, t23), (24, t24), (25, t25), (26, t26), (27, t27), (28, t28), (29, t29), (30, t30), (31, t31), (32, t32), (33, t33), (34, t34), (35, t35), (36, t36), (37, t37), (38, t38), (39, t39), (40, t40), (41, t41), (42, t42), (43, t43), (44, t44), (45, t45), (46, t46), (47, t47), (48, t48), (49, t49), (50, t50), (51, t51), (52, t52), (53, t53), (54, t54), (55, t55), (56, t56), (57, t57), (58, t58), (59, t59), (60, t60), (61, t61), (62, t62), (63, t63), (64, t64), (65, t65), (66, t66), (67, t67), (68, t68), (69, t69), (70, t70), (71, t71), (72, t72), (73, t73), (74, t74), (75, t75), (76, t76), (77, t77), (78, t78), (79, t79), (80, t80), (81, t81), (82, t82), (83, t83), (84, t84), (85, t85), (86, t86), (87, t87), (88, t88), (89, t89), (90, t90), (91, t91), (92, t92), (93, t93), (94, t94), (95, t95), (96, t96), (97, t97), (98, t98), (99, t99), (100, t100), (101, t101), (102, t102), (103, t103), (104, t104), (105, t105), (106, t106), (107, t107), (108, t108), (109, t109), (110, t110), (111, t111), (112, t112), (113, t113), (114, t114), (115, t115), (116, t116), (117, t117), (118, t118), (119, t119), (120, t120), (121, t121), (122, t122), (123, t123), (124, t124), (125, t125), (126, t126), (127, t127), (128, t128), (129, t129), (130, t130), (131, t131), (132, t132), (133, t133), (134, t134), (135, t135), (136, t136), (137, t137), (138, t138), (139, t139), (140, t140), (141, t141), (142, t142), (143, t143), (144, t144), (145, t145), (146, t146), (147, t147), (148, t148), (149, t149), (150, t150), (151, t151), (152, t152), (153, t153), (154, t154), (155, t155), (156, t156), (157, t157), (158, t158), (159, t159), (160, t160), (161, t161), (162, t162), (163, t163), (164, t164), (165, t165), (166, t166), (167, t167), (168, t168), (169, t169), (170, t170), (171, t171), (172, t172), (173, t173), (174, t174), (175, t175), (176, t176), (177, t177), (178, t178), (179, t179), (180, t180), (181, t181), (182, t182), (183, t183), (184, t184), (185, t185), (186, t186), (187, t187), (188, t188), (189, t189), (190, t190), (191, t191), (192, t192), (193, t193), (194, t194), (195, t195), (196, t196), (197, t197), (198, t198), (199, t199), (200, t200), (201, t201), (202, t202), (203, t203), (204, t204), (205, t205), (206, t206), (207, t207), (208, t208), (209, t209), (210, t210), (211, t211), (212, t212), (213, t213), (214, t214), (215, t215), (216, t216), (217, t217), (218, t218), (219, t219), (220, t220), (221, t221), (222, t222), (223, t223), (224, t224), (225, t225), (226, t226), (227, t227), (228, t228), (229, t229), (230, t230), (231, t231), (232, t232), (233, t233), (234, t234), (235, t235), (236, t236), (237, t237), (238, t238)] H = f78_l0 p n  k m0 t2 t3 t5 H := by
  induction m0 with
  | zero => intros; rfl
  | succ m0 ih =>
    intro t0 t1 t2 t3 t4 t5 t6 t7 t8 t9 t10 t11 t12 t13 t14 t15 t16 t17 t18 t19 t20 t21 t22 t23 t24 t25 t26 t27 t28 t29 t30 t31 t32 t33 t34 t35 t36 t37 t38 t39 t40 t41 t42 t43 t44 t45 t46 t47 t48 t49 t50 t51 t52 t53 t54 t55 t56 t57 t58 t59 t60 t61 t62 t63 t64 t65 t66 t67 t68 t69 t70 t71 t72 t73 t74 t75 t76 t77 t78 t79 t80 t81 t82 t83 t84 t85 t86 t87 t88 t89 t90 t91 t92 t93 t94 t95 t96 t97 t98 t99 t100 t101 t102 t103 t104 t105 t106 t107 t108 t109 t110 t111 t112 t113 t114 t115 t116 t117 t118 t119 t120 t121 t122 t123 t124 t125 t126 t127 t128 t129 t130 t131 t132 t133 t134 t135 t136 t137 t138 t139 t140 t141 t142 t143 t144 t145 t146 t147 t148 t149 t150 t151 t152 t153 t154 t155 t156 t157 t158 t159 t160 t161 t162 t163 t164 t165 t166 t167 t168 t169 t170 t171 t172 t173 t174 t175 t176 t177 t178 t179 t180 t181 t182 t183 t184 t185 t186 t187 t188 t189 t190 t191 t192 t193 t194 t195 t196 t197 t198 t199 t200 t201 t202 t203 t204 t205 t206 t207 t208 t209 t210 t211 t212 t213 t214 t215 t216 t217 t218 t219 t220 t221 t222 t223 t224 t225 t226 t227 t228 t229 t230 t231 t232 t233 t234 t235 t236 t237 t238 H
    rw [f78_L0_step]
    simp only [ih, f78_l2_eq p n  k  , f78_l1_eq p n  k  ]
    rfl
theorem f78_raw (p : Pr β) (n : Nat) (a0 a1 : AV) (H : Heap) (k : AV → Heap → Option β) : evalBody ti0 p n ⟨c78, 239, Go.Proofs.Try.f78.results.toList, o78⟩ [a0, a1] H k =
  p.box a0 H fun t2 H =>
  p.box a1 H fun t3 H =>
  p.fadr 22 t2 fun t8 =>
  p.load false 1 t8 H fun t9 =>
  p.len t9 fun t10 =>
  p.fadr 22 t3 fun t11 =>
  p.load false 1 t11 H fun t12 =>
  p.len t12 fun t13 =>
  p.bin .neq t10 t13 fun t14 =>
  p.guard t14 false H (fun k' => p.fadr 23 t2 fun t' => k' t' H) fun t16 H =>
  p.guard t14 false H (fun k' => p.load false 1 t16 H fun t' => k' t' H) fun t17 H =>
  p.guard t14 false H (fun k' => p.len t17 fun t' => k' t' H) fun t18 H =>
  p.guard t14 false H (fun k' => p.fadr 23 t3 fun t' => k' t' H) fun t19 H =>
  p.guard t14 false H (fun k' => p.load false 1 t19 H fun t' => k' t' H) fun t20 H =>
  p.guard t14 false H (fun k' => p.len t20 fun t' => k' t' H) fun t21 H =>
  p.guard t14 false H (fun k' => p.bin .neq t18 t21 fun t' => k' t' H) fun t22 H =>
  p.pick t14 (.sc (.bool true)) t22 fun t23 =>
  p.guard t23 false H (fun k' => p.fadr 24 t2 fun t' => k' t' H) fun t25 H =>
  p.guard t23 false H (fun k' => p.load false 1 t25 H fun t' => k' t' H) fun t26 H =>
  p.guard t23 false H (fun k' => p.len t26 fun t' => k' t' H) fun t27 H =>
  p.guard t23 false H (fun k' => p.fadr 24 t3 fun t' => k' t' H) fun t28 H =>
  p.guard t23 false H (fun k' => p.load false 1 t28 H fun t' => k' t' H) fun t29 H =>
  p.guard t23 false H (fun k' => p.len t29 fun t' => k' t' H) fun t30 H =>
  p.guard t23 false H (fun k' => p.bin .neq t27 t30 fun t' => k' t' H) fun t31 H =>
  p.pick t23 (.sc (.bool true)) t31 fun t32 =>
  p.cond t32
  (k (.sc (.bool false)) H)
  (f78_L0 p n  k n [(0, a0), (1, a1), (2, t2), (3, t3), (4, (.sc (.bool false))), (5, (.sc (.int .i64 0))), (6, (.sc undef)), (7, (.sc undef)), (8, t8), (9, t9), (10, t10), (11, t11), (12, t12), (13, t13), (14, t14), (15, t14), (16, t16), (17, t17), (18, t18), (19, t19), (20, t20), (21, t21), (22, t22), (23, t23), (24, t23), (25, t25), (26, t26), (27, t27), (28, t28), (29, t29), (30, t30), (31, t31), (32, t32), (33, (.sc undef)), (34, (.sc undef)), (35, (.sc undef)), (36, (.sc undef)), (37, (.sc undef)), (38, (.sc undef)), (39, (.sc undef)), (40, (.sc undef)), (41, (.sc undef)), (42, (.sc undef)), (43, (.sc undef)), (44, (.sc undef)), (45, (.sc undef)), (46, (.sc undef)), (47, (.sc undef)), (48, (.sc undef)), (49, (.sc undef)), (50, (.sc undef)), (51, (.sc undef)), (52, (.sc undef)), (53, (.sc undef)), (54, (.sc undef)), (55, (.sc undef)), (56, (.sc undef)), (57, (.sc undef)), (58, (.sc undef)), (59, (.sc undef)), (60, (.sc undef)), (61, (.sc undef)), (62, (.sc undef)), (63, (.sc undef)), (64, (.sc undef)), (65, (.sc undef)), (66, (.sc undef)), (67, (.sc undef)), (68, (.sc undef)), (69, (.sc undef)), (70, (.sc undef)), (71, (.sc undef)), (72, (.sc undef)), (73, (.sc undef)), (74, (.sc undef)), (75, (.sc undef)), (76, (.sc undef)), (77, (.sc undef)), (78, (.sc undef)), (79, (.sc undef)), (80, (.sc undef)), (81, (.sc undef)), (82, (.sc undef)), (83, (.sc undef)), (84, (.sc undef)), (85, (.sc undef)), (86, (.sc undef)), (87, (.sc undef)), (88, (.sc undef)), (89, (.sc undef)), (90, (.sc undef)), (91, (.sc undef)), (92, (.sc undef)), (93, (.sc undef)), (94, (.sc undef)), (95, (.sc undef)), (96, (.sc undef)), (97, (.sc undef)), (98, (.sc undef)), (99, (.sc undef)), (100, (.sc undef)), (101, (.sc undef)), (102, (.sc undef)), (103, (.sc undef)), (104, (.sc undef)), (105, (.sc undef)), (106, (.sc undef)), (107, (.sc undef)), (108, (.sc undef)), (109, (.sc undef)), (110, (.sc undef)), (111, (.sc undef)), (112, (.sc undef)), (113, (.sc undef)), (114, (.sc undef)), (115, (.sc undef)), (116, (.sc undef)), (117, (.sc undef)), (118, (.sc undef)), (119, (.sc undef)), (120, (.sc undef)), (121, (.sc undef)), (122, (.sc undef)), (123, (.sc undef)), (124, (.sc undef)), (125, (.sc undef)), (126, (.sc undef)), (127, (.sc undef)), (128, (.sc undef)), (129, (.sc undef)), (130, (.sc undef)), (131, (.sc undef)), (132, (.sc undef)), (133, (.sc undef)), (134, (.sc undef)), (135, (.sc undef)), (136, (.sc undef)), (137, (.sc undef)), (138, (.sc undef)), (139, (.sc undef)), (140, (.sc undef)), (141, (.sc undef)), (142, (.sc undef)), (143, (.sc undef)), (144, (.sc undef)), (145, (.sc undef)), (146, (.sc undef)), (147, (.sc undef)), (148, (.sc undef)), (149, (.sc undef)), (150, (.sc undef)), (151, (.sc undef)), (152, (.sc undef)), (153, (.sc undef)), (154, (.sc undef)), (155, (.sc undef)), (156, (.sc undef)), (157, (.sc undef)), (158, (.sc undef)), (159, (.sc undef)), (160, (.sc undef)), (161, (.sc undef)), (162, (.sc undef)), (163, (.sc undef)), (164, (.sc undef)), (165, (.sc undef)), (166, (.sc undef)), (167, (.sc undef)), (168, (.sc undef)), (169, (.sc undef)), (170, (.sc undef)), (171, (.sc undef)), (172, (.sc undef)), (173, (.sc undef)), (174, (.sc undef)), (175, (.sc undef)), (176, (.sc undef)), (177, (.sc undef)), (178, (.sc undef)), (179, (.sc undef)), (180, (.sc undef)), (181, (.sc undef)), (182, (.sc undef)), (183, (.sc undef)), (184, (.sc undef)), (185, (.sc undef)), (186, (.sc undef)), (187, (.sc undef)), (188, (.sc undef)), (189, (.sc undef)), (190, (.sc undef)), (191, (.sc undef)), (192, (.sc undef)), (193, (.sc undef)), (194, (.sc undef)), (195, (.sc undef)), (196, (.sc undef)), (197, (.sc undef)), (198, (.sc undef)), (199, (.sc undef)), (200, (.sc undef)), (201, (.sc undef)), (202, (.sc undef)), (203, (.sc undef)), (204, (.sc undef)), (205, (.sc undef)), (206, (.sc undef)), (207, (.sc undef)), (208, (.sc undef)), (209, (.sc undef)), (210, (.sc undef)), (211, (.sc undef)), (212, (.sc undef)), (213, (.sc undef)), (214, (.sc undef)), (215, (.sc undef)), (216, (.sc undef)), (217, (.sc undef)), (218, (.sc undef)), (219, (.sc undef)), (220, (.sc undef)), (221, (.sc undef)), (222, (.sc undef)), (223, (.sc undef)), (224, (.sc undef)), (225, (.sc undef)), (226, (.sc undef)), (227, (.sc undef)), (228, (.sc undef)), (229, (.sc undef)), (230, (.sc undef)), (231, (.sc undef)), (232, (.sc undef)), (233, (.sc undef)), (234, (.sc undef)), (235, (.sc undef)), (236, (.sc undef)), (237, (.sc undef)), (238, (.sc undef))] H) := by kernel_rfl
theorem f78_body (p : Pr β) (n : Nat) (a0 a1 : AV) (H : Heap) (k : AV → Heap → Option β) : evalBody ti0 p n ⟨c78, 239, Go.Proofs.Try.f78.results.toList, o78⟩ [a0, a1] H k = f78 p n a0 a1 H k := by
  rw [f78_raw]
  simp only [f78_l2_eq, f78_l1_eq, f78_l0_eq]
  rfl

/-! 79 loop.example/g00480/spec.l19Subs -/
noncomputable def f79_l0 (p : Pr β) (n : Nat)  (k : AV → Heap → Option β) : Nat → AV → AV → AV → Heap → Option β
  | 0, _, _, _, _ => none
  | m + 1, t0, t1, t5, H => p.len t0 fun t13 =>
      p.bin .lss t5 t13 fun t14 =>
      p.cond t14
      (p.iadr 3 t0 t5 fun t19 =>
      p.load true 3 t19 H fun t20 =>
      p.iadr 3 t1 t5 fun t23 =>
      p.load true 3 t23 H fun t24 =>
      p.binA .neq [1, 0, 0] t20 t24 fun t25 =>
      p.cond t25
      (k (.sc (.bool false)) H)
      (p.bin .add t5 (.sc (.int .i64 1)) fun t16 =>
      f79_l0 p n  k m t0 t1 t16 H))
      (k (.sc (.bool true)) H)
noncomputable def f79 (p : Pr β) (n : Nat) (a0 a1 : AV) (H : Heap) (k : AV → Heap → Option β) : Option β :=
  p.len a0 fun t7 =>
  p.len a1 fun t9 =>
  p.bin .neq t7 t9 fun t10 =>
  p.cond t10
  (k (.sc (.bool false)) H)
  (f79_l0 p n  k n a0 a1 (.sc (.int .i64 0)) H)
noncomputable def f79_L0 (p : Pr β) (n : Nat)  (k : AV → Heap → Option β) (m : Nat) (tm : Tm) (H : Heap) : Option β :=
  iterC 26 (fun tm H k => evalCode ti0 p o79 26 n (cd c79 [1, 1, 0, 1, 0, 0]) tm H k) (blkK 0 (seqK (fun tm H => evalCode ti0 p o79 26 n (cd c79 [1, 1, 1]) tm H (endK ti0 p Go.Proofs.Try.f79.results.toList k)) (endK ti0 p Go.Proofs.Try.f79.results.toList k))) m tm H
theorem f79_L0_step (p : Pr β) (n : Nat)  (k : AV → Heap → Option β) (m0 : Nat) (t0 t1 t2 t3 t4 t5 t6 t7 t8 t9 t10 t11 t12 t13 t14 t15 t16 t17 t18 t19 t20 t21 t22 t23 t24 t25 : AV) (H : Heap) : f79_L0 p n  k (m0 + 1) [(0, t0), (1, t1), (2, t2), (3, t3), (4, t4), (5, t5), (6, t6), (7, t7), (8, t8), (9, t9), (10, t10), (11, t11), (12, t12), (13, t13), (14, t14), (15, t15), (16, t16), (17, t17), (18, t18), (19, t19), (20, t20), (21, t21), (22, t22), (23, t23), (24, t24), (25, t25)] H =
  p.len t0 fun t13 =>
  p.bin .lss t5 t13 fun t14 =>
  p.cond t14
  (p.iadr 3 t0 t5 fun t19 =>
  p.load true 3 t19 H fun t20 =>
  p.iadr 3 t1 t5 fun t23 =>
  p.load true 3 t23 H fun t24 =>
  p.binA .neq [1, 0, 0] t20 t24 fun t25 =>
  p.cond t25
  (k (.sc (.bool false)) H)
  (p.bin .add t5 (.sc (.int .i64 1)) fun t16 =>
  f79_L0 p n  k m0 [(0, t0), (1, t1), (2, t2), (3, t3), (4, t4), (5, t16), (6, t6), (7, t7), (8, t8), (9, t9), (10, t10), (11, t5), (12, t0), (13, t13), (14, t14), (15, t5), (16, t16), (17, t0), (18, t5), (19, t19), (20, t20), (21, t1), (22, t5), (23, t23), (24, t24), (25, t25)] H))
  (k (.sc (.bool true)) H) := by kernel_rfl
theorem f79_l0_eq (p : Pr β) (n : Nat)  (k : AV → Heap → Option β)   (m0 : Nat) : ∀ (t0 t1 t2 t3 t4 t5 t6 t7 t8 t9 t10 t11 t12 t13 t14 t15 t16 t17 t18 t19 t20 t21 t22 t23 t24 t25 : AV) (H : Heap), f79_L0 p n  k m0 [(0, t0), (1, t1), (2, t2), (3, t3), (4, t4), (5, t5), (6, t6), (7, t7), (8, t8), (9, t9), (10, t10), (11, t11), (12, t12), (13, t13), (14, t14), (15, t15), (16, t16), (17, t17), (18, t18), (19, t19), (20, t20), (21, t21), (22, t22), (23, t23), (24, t24), (25, t25)] H = f79_l0 p n  k m0 t0 t1 t5 H := by
  induction m0 with
  | zero => intros; rfl
  | succ m0 ih =>
    intro t0 t1 t2 t3 t4 t5 t6 t7 t8 t9 t10 t11 t12 t13 t14 t15 t16 t17 t18 t19 t20 t21 t22 t23 t24 t25 H
    rw [f79_L0_step]
    simp only [ih]
    rfl
theorem f79_raw (p : Pr β) (n : Nat) (a0 a1 : AV) (H : Heap) (k : AV → Heap → Option β) : evalBody ti0 p n ⟨c79, 26, Go.Proofs.Try.f79.results.toList, o79⟩ [a0, a1] H k =
  p.len a0 fun t7 =>
  p.len a1 fun t9 =>
  p.bin .neq t7 t9 fun t10 =>
  p.cond t10
  (k (.sc (.bool false)) H)
  (f79_L0 p n  k n [(0, a0), (1, a1), (2, (.sc undef)), (3, (.sc undef)), (4, (.sc (.bool false))), (5, (.sc (.int .i64 0))), (6, a0), (7, t7), (8, a1), (9, t9), (10, t10), (11, (.sc undef)), (12, (.sc undef)), (13, (.sc undef)), (14, (.sc undef)), (15, (.sc undef)), (16, (.sc undef)), (17, (.sc undef)), (18, (.sc undef)), (19, (.sc undef)), (20, (.sc undef)), (21, (.sc undef)), (22, (.sc undef)), (23, (.sc undef)), (24, (.sc undef)), (25, (.sc undef))] H) := by kernel_rfl
theorem f79_body (p : Pr β) (n : Nat) (a0 a1 : AV) (H : Heap) (k : AV → Heap → Option β) : evalBody ti0 p n ⟨c79, 26, Go.Proofs.Try.f79.results.toList, o79⟩ [a0, a1] H k = f79 p n a0 a1 H k := by
  rw [f79_raw]
  simp only [f79_l0_eq]
  rfl

/-! 80 loop.example/g00480/spec.l19Ints -/
noncomputable def f80_l0 (p : Pr β) (n : Nat)  (k : AV → Heap → Option β) : Nat → AV → AV → AV → Heap → Option β
  | 0, _, _, _, _ => none
  | m + 1, t0, t1, t5, H => p.len t0 fun t13 =>
      p.bin .lss t5 t13 fun t14 =>
      p.cond t14
      (p.iadr 1 t0 t5 fun t19 =>
      p.load false 1 t19 H fun t20 =>
      p.iadr 1 t1 t5 fun t23 =>
      p.load false 1 t23 H fun t24 =>
      p.bin .neq t20 t24 fun t25 =>
      p.cond t25
      (k (.sc (.bool false)) H)
      (p.bin .add t5 (.sc (.int .i64 1)) fun t16 =>
      f80_l0 p n  k m t0 t1 t16 H))
      (k (.sc (.bool true)) H)
noncomputable def f80 (p : Pr β) (n : Nat) (a0 a1 : AV) (H : Heap) (k : AV → Heap → Option β) : Option β :=
  p.len a0 fun t7 =>
  p.len a1 fun t9 =>
  p.bin .neq t7 t9 fun t10 =>
  p.cond t10
  (k (.sc (.bool false)) H)
  (f80_l0 p n  k n a0 a1 (.sc (.int .i64 0)) H)
noncomputable def f80_L0 (p : Pr β) (n : Nat)  (k : AV → Heap → Option β) (m : Nat) (tm : Tm) (H : Heap) : Option β :=
  iterC 26 (fun tm H k => evalCode ti0 p o80 26 n (cd c80 [1, 1, 0, 1, 0, 0]) tm H k) (blkK 0 (seqK (fun tm H => evalCode ti0 p o80 26 n (cd c80 [1, 1, 1]) tm H (endK ti0 p Go.Proofs.Try.f80.results.toList k)) (endK ti0 p Go.Proofs.Try.f80.results.toList k))) m tm H
theorem f80_L0_step (p : Pr β) (n : Nat)  (k : AV → Heap → Option β) (m0 : Nat) (t0 t1 t2 t3 t4 t5 t6 t7 t8 t9 t10 t11 t12 t13 t14 t15 t16 t17 t18 t19 t20 t21 t22 t23 t24 t25 : AV) (H : Heap) : f80_L0 p n  k (m0 + 1) [(0, t0), (1, t1), (2, t2), (3, t3), (4, t4), (5, t5), (6, t6), (7, t7), (8, t8), (9, t9), (10, t10), (11, t11), (12, t12), (13, t13), (14, t14), (15, t15), (16, t16), (17, t17), (18, t18), (19, t19), (20, t20), (21, t21), (22, t22), (23, t23), (24, t24), (25, t25)] H =
  p.len t0 fun t13 =>
  p.bin .lss t5 t13 fun t14 =>
  p.cond t14
  (p.iadr 1 t0 t5 fun t19 =>
  p.load false 1 t19 H fun t20 =>
  p.iadr 1 t1 t5 fun t23 =>
  p.load false 1 t23 H fun t24 =>
  p.bin .neq t20 t24 fun t25 =>
  p.cond t25
  (k (.sc (.bool false)) H)
  (p.bin .add t5 (.sc (.int .i64 1)) fun t16 =>
  f80_L0 p n  k m0 [(0, t0), (1, t1), (2, t2), (3, t3), (4, t4), (5, t16), (6, t6), (7, t7), (8, t8), (9, t9), (10, t10), (11, t5), (12, t0), (13, t13), (14, t14), (15, t5), (16, t16), (17, t0), (18, t5), (19, t19), (20, t20), (21, t1), (22, t5), (23, t23), (24, t24), (25, t25)] H))
  (k (.sc (.bool true)) H) := by kernel_rfl
theorem f80_l0_eq (p : Pr β) (n : Nat)  (k : AV → Heap → Option β)   (m0 : Nat) : ∀ (t0 t1 t2 t3 t4 t5 t6 t7 t8 t9 t10 t11 t12 t13 t14 t15 t16 t17 t18 t19 t20 t21 t22 t23 t24 t25 : AV) (H : Heap), f80_L0 p n  k m0 [(0, t0), (1, t1), (2, t2), (3, t3), (4, t4), (5, t5), (6, t6), (7, t7), (8, t8), (9, t9), (10, t10), (11, t11), (12, t12), (13, t13), (14, t14), (15, t15), (16, t16), (17, t17), (18, t18), (19, t19), (20, t20), (21, t21), (22, t22), (23, t23), (24, t24), (25, t25)] H = f80_l0 p n  k m0 t0 t1 t5 H := by
  induction m0 with
  | zero => intros; rfl
  | succ m0 ih =>
    intro t0 t1 t2 t3 t4 t5 t6 t7 t8 t9 t10 t11 t12 t13 t14 t15 t16 t17 t18 t19 t20 t21 t22 t23 t24 t25 H
    rw [f80_L0_step]
    simp only [ih]
    rfl
theorem f80_raw (p : Pr β) (n : Nat) (a0 a1 : AV) (H : Heap) (k : AV → Heap → Option β) : evalBody ti0 p n ⟨c80, 26, Go.Proofs.Try.f80.results.toList, o80⟩ [a0, a1] H k =
  p.len a0 fun t7 =>
  p.len a1 fun t9 =>
  p.bin .neq t7 t9 fun t10 =>
  p.cond t10
  (k (.sc (.bool false)) H)
  (f80_L0 p n  k n [(0, a0), (1, a1), (2, (.sc undef)), (3, (.sc undef)), (4, (.sc (.bool false))), (5, (.sc (.int .i64 0))), (6, a0), (7, t7), (8, a1), (9, t9), (10, t10), (11, (.sc undef)), (12, (.sc undef)), (13, (.sc undef)), (14, (.sc undef)), (15, (.sc undef)), (16, (.sc undef)), (17, (.sc undef)), (18, (.sc undef)), (19, (.sc undef)), (20, (.sc undef)), (21, (.sc undef)), (22, (.sc undef)), (23, (.sc undef)), (24, (.sc undef)), (25, (.sc undef))] H) := by kernel_rfl
theorem f80_body (p : Pr β) (n : Nat) (a0 a1 : AV) (H : Heap) (k : AV → Heap → Option β) : evalBody ti0 p n ⟨c80, 26, Go.Proofs.Try.f80.results.toList, o80⟩ [a0, a1] H k = f80 p n a0 a1 H k := by
  rw [f80_raw]
  simp only [f80_l0_eq]
  rfl

/-! 125 loop.example/g00480/spec.SameMsg -/
noncomputable def f125 (p : Pr β) (n : Nat) (a0 a1 : AV) (H : Heap) (k : AV → Heap → Option β) : Option β :=
  p.box a0 H fun t2 H =>
  p.box a1 H fun t3 H =>
  p.fadr 0 t2 fun t5 =>
  p.load false 1 t5 H fun t6 =>
  p.fadr 0 t3 fun t7 =>
  p.load false 1 t7 H fun t8 =>
  p.bin .eql t6 t8 fun t9 =>
  p.guard t9 true H (fun k' => p.fadr 1 t2 fun t' => k' t' H) fun t11 H =>
  p.guard t9 true H (fun k' => p.load false 1 t11 H fun t' => k' t' H) fun t12 H =>
  p.guard t9 true H (fun k' => p.fadr 1 t3 fun t' => k' t' H) fun t13 H =>
  p.guard t9 true H (fun k' => p.load false 1 t13 H fun t' => k' t' H) fun t14 H =>
  p.guard t9 true H (fun k' => p.call 4 (.fn 107 [] []) [t12, t14] H fun t' H => k' t' H) fun t15 H =>
  p.pick t9 t15 (.sc (.bool false)) fun t16 =>
  p.guard t16 true H (fun k' => p.fadr 2 t2 fun t' => k' t' H) fun t18 H =>
  p.guard t16 true H (fun k' => p.load false 1 t18 H fun t' => k' t' H) fun t19 H =>
  p.guard t16 true H (fun k' => p.fadr 2 t3 fun t' => k' t' H) fun t20 H =>
  p.guard t16 true H (fun k' => p.load false 1 t20 H fun t' => k' t' H) fun t21 H =>
  p.guard t16 true H (fun k' => p.bin .eql t19 t21 fun t' => k' t' H) fun t22 H =>
  p.pick t16 t22 (.sc (.bool false)) fun t23 =>
  p.guard t23 true H (fun k' => p.fadr 3 t2 fun t' => k' t' H) fun t25 H =>
  p.guard t23 true H (fun k' => p.load false 1 t25 H fun t' => k' t' H) fun t26 H =>
  p.guard t23 true H (fun k' => p.fadr 3 t3 fun t' => k' t' H) fun t27 H =>
  p.guard t23 true H (fun k' => p.load false 1 t27 H fun t' => k' t' H) fun t28 H =>
  p.guard t23 true H (fun k' => p.binB .eql t26 t28 fun t' => k' t' H) fun t29 H =>
  p.pick t23 t29 (.sc (.bool false)) fun t30 =>
  k t30 H
theorem f125_body (p : Pr β) (n : Nat) (a0 a1 : AV) (H : Heap) (k : AV → Heap → Option β) : evalBody ti0 p n ⟨c125, 31, Go.Proofs.Try.f125.results.toList, o125⟩ [a0, a1] H k = f125 p n a0 a1 H k := by kernel_rfl

/-! 108 loop.example/g00480/spec.Ends -/
noncomputable def f108_l0 (p : Pr β) (n : Nat)  (k : AV → Heap → Option β) : Nat → AV → AV → AV → Heap → Option β
  | 0, _, _, _, _ => none
  | m + 1, t0, t1, t5, H => p.len t1 fun t13 =>
      p.bin .lss t5 t13 fun t14 =>
      p.cond t14
      (p.len t0 fun t19 =>
      p.len t1 fun t21 =>
      p.bin .sub t19 t21 fun t22 =>
      p.bin .add t22 t5 fun t24 =>
      p.iadr 4 t0 t24 fun t25 =>
      p.load true 4 t25 H fun t26 =>
      p.iadr 4 t1 t5 fun t29 =>
      p.load true 4 t29 H fun t30 =>
      p.call 4 (.fn 125 [] []) [t26, t30] H fun t31 H =>
      p.un .not t31 fun t32 =>
      p.cond t32
      (k (.sc (.bool false)) H)
      (p.bin .add t5 (.sc (.int .i64 1)) fun t16 =>
      f108_l0 p n  k m t0 t1 t16 H))
      (k (.sc (.bool true)) H)
noncomputable def f108 (p : Pr β) (n : Nat) (a0 a1 : AV) (H : Heap) (k : AV → Heap → Option β) : Option β :=
  p.len a1 fun t7 =>
  p.len a0 fun t9 =>
  p.bin .gtr t7 t9 fun t10 =>
  p.cond t10
  (k (.sc (.bool false)) H)
  (f108_l0 p n  k n a0 a1 (.sc (.int .i64 0)) H)
noncomputable def f108_L0 (p : Pr β) (n : Nat)  (k : AV → Heap → Option β) (m : Nat) (tm : Tm) (H : Heap) : Option β :=
  iterC 33 (fun tm H k => evalCode ti0 p o108 33 n (cd c108 [1, 1, 0, 1, 0, 0]) tm H k) (blkK 0 (seqK (fun tm H => evalCode ti0 p o108 33 n (cd c108 [1, 1, 1]) tm H (endK ti0 p Go.Proofs.Try.f108.results.toList k)) (endK ti0 p Go.Proofs.Try.f108.results.toList k))) m tm H
theorem f108_L0_step (p : Pr β) (n : Nat)  (k : AV → Heap → Option β) (m0 : Nat) (t0 t1 t2 t3 t4 t5 t6 t7 t8 t9 t10 t11 t12 t13 t14 t15 t16 t17 t18 t19 t20 t21 t22 t23 t24 t25 t26 t27 t28 t29 t30 t31 t32 : AV) (H : Heap) : f108_L0 p n  k (m0 + 1) [(0, t0), (1, t1), (2, t2), (3, t3), (4, t4), (5, t5), (6, t6), (7, t7), (8, t8), (9, t9), (10, t10), (11, t11), (12, t12), (13, t13), (14, t14), (15, t15), (16, t16), (17, t17), (18, t18), (19, t19), (20, t20), (21, t21), (22, t22), (23, t23), (24, t24), (25, t25), (26, t26), (27, t27), (28, t28), (29, t29), (30, t30), (31, t31), (32, t32)] H =
  p.len t1 fun t13 =>
  p.bin .lss t5 t13 fun t14 =>
  p.cond t14
  (p.len t0 fun t19 =>
  p.len t1 fun t21 =>
  p.bin .sub t19 t21 fun t22 =>
  p.bin .add t22 t5 fun t24 =>
  p.iadr 4 t0 t24 fun t25 =>
  p.load true 4 t25 H fun t26 =>
  p.iadr 4 t1 t5 fun t29 =>
  p.load true 4 t29 H fun t30 =>
  p.call 4 (.fn 125 [] []) [t26, t30] H fun t31 H =>
  p.un .not t31 fun t32 =>
  p.cond t32
  (k (.sc (.bool false)) H)
  (p.bin .add t5 (.sc (.int .i64 1)) fun t16 =>
  f108_L0 p n  k m0 [(0, t0), (1, t1), (2, t2), (3, t3), (4, t4), (5, t16), (6, t6), (7, t7), (8, t8), (9, t9), (10, t10), (11, t5), (12, t1), (13, t13), (14, t14), (15, t5), (16, t16), (17, t0), (18, t0), (19, t19), (20, t1), (21, t21), (22, t22), (23, t5), (24, t24), (25, t25), (26, t26), (27, t1), (28, t5), (29, t29), (30, t30), (31, t31), (32, t32)] H))
  (k (.sc (.bool true)) H) := by kernel_rfl
theorem f108_l0_eq (p : Pr β) (n : Nat)  (k : AV → Heap → Option β)   (m0 : Nat) : ∀ (t0 t1 t2 t3 t4 t5 t6 t7 t8 t9 t10 t11 t12 t13 t14 t15 t16 t17 t18 t19 t20 t21 t22 t23 t24 t25 t26 t27 t28 t29 t30 t31 t32 : AV) (H : Heap), f108_L0 p n  k m0 [(0, t0), (1, t1), (2, t2), (3, t3), (4, t4), (5, t5), (6, t6), (7, t7), (8, t8), (9, t9), (10, t10), (11, t11), (12, t12), (13, t13), (14, t14), (15, t15), (16, t16), (17, t17), (18, t18), (19, t19), (20, t20), (21, t21), (22, t22), (23, t23), (24, t24), (25, t25), (26, t26), (27, t27), (28, t28), (29, t29), (30, t30), (31, t31), (32, t32)] H = f108_l0 p n  k m0 t0 t1 t5 H := by
  induction m0 with
  | zero => intros; rfl
  | succ m0 ih =>
    intro t0 t1 t2 t3 t4 t5 t6 t7 t8 t9 t10 t11 t12 t13 t14 t15 t16 t17 t18 t19 t20 t21 t22 t23 t24 t25 t26 t27 t28 t29 t30 t31 t32 H
    rw [f108_L0_step]
    simp only [ih]
    rfl
theorem f108_raw (p : Pr β) (n : Nat) (a0 a1 : AV) (H : Heap) (k : AV → Heap → Option β) : evalBody ti0 p n ⟨c108, 33, Go.Proofs.Try.f108.results.toList, o108⟩ [a0, a1] H k =
  p.len a1 fun t7 =>
  p.len a0 fun t9 =>
  p.bin .gtr t7 t9 fun t10 =>
  p.cond t10
  (k (.sc (.bool false)) H)
  (f108_L0 p n  k n [(0, a0), (1, a1), (2, (.sc undef)), (3, (.sc undef)), (4, (.sc (.bool false))), (5, (.sc (.int .i64 0))), (6, a1), (7, t7), (8, a0), (9, t9), (10, t10), (11, (.sc undef)), (12, (.sc undef)), (13, (.sc undef)), (14, (.sc undef)), (15, (.sc undef)), (16, (.sc undef)), (17, (.sc undef)), (18, (.sc undef)), (19, (.sc undef)), (20, (.sc undef)), (21, (.sc undef)), (22, (.sc undef)), (23, (.sc undef)), (24, (.sc undef)), (25, (.sc undef)), (26, (.sc undef)), (27, (.sc undef)), (28, (.sc undef)), (29, (.sc undef)), (30, (.sc undef)), (31, (.sc undef)), (32, (.sc undef))] H) := by kernel_rfl
theorem f108_body (p : Pr β) (n : Nat) (a0 a1 : AV) (H : Heap) (k : AV → Heap → Option β) : evalBody ti0 p n ⟨c108, 33, Go.Proofs.Try.f108.results.toList, o108⟩ [a0, a1] H k = f108 p n a0 a1 H k := by
  rw [f108_raw]
  simp only [f108_l0_eq]
  rfl

/-! 81 loop.example/g00480/spec.l19Msgs -/
noncomputable def f81 (p : Pr β) (n : Nat) (a0 a1 : AV) (H : Heap) (k : AV → Heap → Option β) : Option β :=
  p.len a0 fun t6 =>
  p.len a1 fun t8 =>
  p.bin .eql t6 t8 fun t9 =>
  p.guard t9 true H (fun k' => k' a0 H) fun t11 H =>
  p.guard t9 true H (fun k' => k' a1 H) fun t12 H =>
  p.guard t9 true H (fun k' => p.call 4 (.fn 108 [] []) [t11, t12] H fun t' H => k' t' H) fun t13 H =>
  p.pick t9 t13 (.sc (.bool false)) fun t14 =>
  k t14 H
theorem f81_body (p : Pr β) (n : Nat) (a0 a1 : AV) (H : Heap) (k : AV → Heap → Option β) : evalBody ti0 p n ⟨c81, 15, Go.Proofs.Try.f81.results.toList, o81⟩ [a0, a1] H k = f81 p n a0 a1 H k := by kernel_rfl

/-! 39 loop.example/g00480/spec.SameDeed -/
noncomputable def f39 (p : Pr β) (n : Nat) (a0 a1 : AV) (H : Heap) (k : AV → Heap → Option β) : Option β :=
  p.box a0 H fun t2 H =>
  p.box a1 H fun t3 H =>
  p.fadr 0 t2 fun t5 =>
  p.load false 1 t5 H fun t6 =>
  p.fadr 0 t3 fun t7 =>
  p.load false 1 t7 H fun t8 =>
  p.bin .eql t6 t8 fun t9 =>
  p.guard t9 true H (fun k' => p.fadr 1 t2 fun t' => k' t' H) fun t11 H =>
  p.guard t9 true H (fun k' => p.load false 1 t11 H fun t' => k' t' H) fun t12 H =>
  p.guard t9 true H (fun k' => p.fadr 1 t3 fun t' => k' t' H) fun t13 H =>
  p.guard t9 true H (fun k' => p.load false 1 t13 H fun t' => k' t' H) fun t14 H =>
  p.guard t9 true H (fun k' => p.bin .eql t12 t14 fun t' => k' t' H) fun t15 H =>
  p.pick t9 t15 (.sc (.bool false)) fun t16 =>
  p.guard t16 true H (fun k' => p.fadr 2 t2 fun t' => k' t' H) fun t18 H =>
  p.guard t16 true H (fun k' => p.load false 1 t18 H fun t' => k' t' H) fun t19 H =>
  p.guard t16 true H (fun k' => p.fadr 2 t3 fun t' => k' t' H) fun t20 H =>
  p.guard t16 true H (fun k' => p.load false 1 t20 H fun t' => k' t' H) fun t21 H =>
  p.guard t16 true H (fun k' => p.bin .eql t19 t21 fun t' => k' t' H) fun t22 H =>
  p.pick t16 t22 (.sc (.bool false)) fun t23 =>
  p.guard t23 true H (fun k' => p.fadr 3 t2 fun t' => k' t' H) fun t25 H =>
  p.guard t23 true H (fun k' => p.load false 1 t25 H fun t' => k' t' H) fun t26 H =>
  p.guard t23 true H (fun k' => p.fadr 3 t3 fun t' => k' t' H) fun t27 H =>
  p.guard t23 true H (fun k' => p.load false 1 t27 H fun t' => k' t' H) fun t28 H =>
  p.guard t23 true H (fun k' => p.bin .eql t26 t28 fun t' => k' t' H) fun t29 H =>
  p.pick t23 t29 (.sc (.bool false)) fun t30 =>
  p.guard t30 true H (fun k' => p.fadr 4 t2 fun t' => k' t' H) fun t32 H =>
  p.guard t30 true H (fun k' => p.load true 25 t32 H fun t' => k' t' H) fun t33 H =>
  p.guard t30 true H (fun k' => p.fadr 4 t3 fun t' => k' t' H) fun t34 H =>
  p.guard t30 true H (fun k' => p.load true 25 t34 H fun t' => k' t' H) fun t35 H =>
  p.guard t30 true H (fun k' => p.call 4 (.fn 78 [] []) [t33, t35] H fun t' H => k' t' H) fun t36 H =>
  p.pick t30 t36 (.sc (.bool false)) fun t37 =>
  p.guard t37 true H (fun k' => p.fadr 29 t2 fun t' => k' t' H) fun t39 H =>
  p.guard t37 true H (fun k' => p.load false 1 t39 H fun t' => k' t' H) fun t40 H =>
  p.guard t37 true H (fun k' => p.fadr 29 t3 fun t' => k' t' H) fun t41 H =>
  p.guard t37 true H (fun k' => p.load false 1 t41 H fun t' => k' t' H) fun t42 H =>
  p.guard t37 true H (fun k' => p.bin .eql t40 t42 fun t' => k' t' H) fun t43 H =>
  p.pick t37 t43 (.sc (.bool false)) fun t44 =>
  p.guard t44 true H (fun k' => p.fadr 30 t2 fun t' => k' t' H) fun t46 H =>
  p.guard t44 true H (fun k' => p.load false 1 t46 H fun t' => k' t' H) fun t47 H =>
  p.guard t44 true H (fun k' => p.fadr 30 t3 fun t' => k' t' H) fun t48 H =>
  p.guard t44 true H (fun k' => p.load false 1 t48 H fun t' => k' t' H) fun t49 H =>
  p.guard t44 true H (fun k' => p.bin .eql t47 t49 fun t' => k' t' H) fun t50 H =>
  p.pick t44 t50 (.sc (.bool false)) fun t51 =>
  p.guard t51 true H (fun k' => p.fadr 31 t2 fun t' => k' t' H) fun t53 H =>
  p.guard t51 true H (fun k' => p.load false 1 t53 H fun t' => k' t' H) fun t54 H =>
  p.guard t51 true H (fun k' => p.fadr 31 t3 fun t' => k' t' H) fun t55 H =>
  p.guard t51 true H (fun k' => p.load false 1 t55 H fun t' => k' t' H) fun t56 H =>
  p.guard t51 true H (fun k' => p.bin .eql t54 t56 fun t' => k' t' H) fun t57 H =>
  p.pick t51 t57 (.sc (.bool false)) fun t58 =>
  p.guard t58 true H (fun k' => p.fadr 32 t2 fun t' => k' t' H) fun t60 H =>
  p.guard t58 true H (fun k' => p.load false 1 t60 H fun t' => k' t' H) fun t61 H =>
  p.guard t58 true H (fun k' => p.fadr 32 t3 fun t' => k' t' H) fun t62 H =>
  p.guard t58 true H (fun k' => p.load false 1 t62 H fun t' => k' t' H) fun t63 H =>
  p.guard t58 true H (fun k' => p.binB .eql t61 t63 fun t' => k' t' H) fun t64 H =>
  p.pick t58 t64 (.sc (.bool false)) fun t65 =>
  p.guard t65 true H (fun k' => p.fadr 33 t2 fun t' => k' t' H) fun t67 H =>
  p.guard t65 true H (fun k' => p.load false 1 t67 H fun t' => k' t' H) fun t68 H =>
  p.guard t65 true H (fun k' => p.fadr 33 t3 fun t' => k' t' H) fun t69 H =>
  p.guard t65 true H (fun k' => p.load false 1 t69 H fun t' => k' t' H) fun t70 H =>
  p.guard t65 true H (fun k' => p.bin .eql t68 t70 fun t' => k' t' H) fun t71 H =>
  p.pick t65 t71 (.sc (.bool false)) fun t72 =>
  p.guard t72 true H (fun k' => p.fadr 34 t2 fun t' => k' t' H) fun t74 H =>
  p.guard t72 true H (fun k' => p.load false 1 t74 H fun t' => k' t' H) fun t75 H =>
  p.guard t72 true H (fun k' => p.fadr 34 t3 fun t' => k' t' H) fun t76 H =>
  p.guard t72 true H (fun k' => p.load false 1 t76 H fun t' => k' t' H) fun t77 H =>
  p.guard t72 true H (fun k' => p.bin .eql t75 t77 fun t' => k' t' H) fun t78 H =>
  p.pick t72 t78 (.sc (.bool false)) fun t79 =>
  p.guard t79 true H (fun k' => p.fadr 35 t2 fun t' => k' t' H) fun t81 H =>
  p.guard t79 true H (fun k' => p.load false 1 t81 H fun t' => k' t' H) fun t82 H =>
  p.guard t79 true H (fun k' => p.fadr 35 t3 fun t' => k' t' H) fun t83 H =>
  p.guard t79 true H (fun k' => p.load false 1 t83 H fun t' => k' t' H) fun t84 H =>
  p.guard t79 true H (fun k' => p.binB .eql t82 t84 fun t' => k' t' H) fun t85 H =>
  p.pick t79 t85 (.sc (.bool false)) fun t86 =>
  p.guard t86 true H (fun k' => p.fadr 36 t2 fun t' => k' t' H) fun t88 H =>
  p.guard t86 true H (fun k' => p.load false 1 t88 H fun t' => k' t' H) fun t89 H =>
  p.guard t86 true H (fun k' => p.fadr 36 t3 fun t' => k' t' H) fun t90 H =>
  p.guard t86 true H (fun k' => p.load false 1 t90 H fun t' => k' t' H) fun t91 H =>
  p.guard t86 true H (fun k' => p.binB .eql t89 t91 fun t' => k' t' H) fun t92 H =>
  p.pick t86 t92 (.sc (.bool false)) fun t93 =>
  p.guard t93 true H (fun k' => p.fadr 37 t2 fun t' => k' t' H) fun t95 H =>
  p.guard t93 true H (fun k' => p.load false 1 t95 H fun t' => k' t' H) fun t96 H =>
  p.guard t93 true H (fun k' => p.fadr 37 t3 fun t' => k' t' H) fun t97 H =>
  p.guard t93 true H (fun k' => p.load false 1 t97 H fun t' => k' t' H) fun t98 H =>
  p.guard t93 true H (fun k' => p.call 4 (.fn 79 [] []) [t96, t98] H fun t' H => k' t' H) fun t99 H =>
  p.pick t93 t99 (.sc (.bool false)) fun t100 =>
  p.guard t100 true H (fun k' => p.fadr 38 t2 fun t' => k' t' H) fun t102 H =>
  p.guard t100 true H (fun k' => p.load false 1 t102 H fun t' => k' t' H) fun t103 H =>
  p.guard t100 true H (fun k' => p.fadr 38 t3 fun t' => k' t' H) fun t104 H =>
  p.guard t100 true H (fun k' => p.load false 1 t104 H fun t' => k' t' H) fun t105 H =>
  p.guard t100 true H (fun k' => p.call 4 (.fn 80 [] []) [t103, t105] H fun t' H => k' t' H) fun t106 H =>
  p.pick t100 t106 (.sc (.bool false)) fun t107 =>
  p.guard t107 true H (fun k' => p.fadr 39 t2 fun t' => k' t' H) fun t109 H =>
  p.guard t107 true H (fun k' => p.load false 1 t109 H fun t' => k' t' H) fun t110 H =>
  p.guard t107 true H (fun k' => p.fadr 39 t3 fun t' => k' t' H) fun t111 H =>
  p.guard t107 true H (fun k' => p.load false 1 t111 H fun t' => k' t' H) fun t112 H =>
  p.guard t107 true H (fun k' => p.call 4 (.fn 81 [] []) [t110, t112] H fun t' H => k' t' H) fun t113 H =>
  p.pick t107 t113 (.sc (.bool false)) fun t114 =>
  k t114 H
theorem f39_body (p : Pr β) (n : Nat) (a0 a1 : AV) (H : Heap) (k : AV → Heap → Option β) : evalBody ti0 p n ⟨c39, 115, Go.Proofs.Try.f39.results.toList, o39⟩ [a0, a1] H k = f39 p n a0 a1 H k := by kernel_rfl

/-! 109 bytes.Equal -/
noncomputable def f109 (p : Pr β) (n : Nat) (a0 a1 : AV) (H : Heap) (k : AV → Heap → Option β) : Option β :=
  p.cvBS a0 H fun t6 =>
  p.cvBS a1 H fun t8 =>
  p.bin .eql t6 t8 fun t9 =>
  k t9 H
theorem f109_body (p : Pr β) (n : Nat) (a0 a1 : AV) (H : Heap) (k : AV → Heap → Option β) : evalBody ti0 p n ⟨c109, 10, Go.Proofs.Try.f109.results.toList, o109⟩ [a0, a1] H k = f109 p n a0 a1 H k := by kernel_rfl

/-! 110 slices.Equal[[]loop.example/g00480/impl.Want,loop.example/g00480/impl.Want] -/
noncomputable def f110_l0 (p : Pr β) (n : Nat)  (k : AV → Heap → Option β) : Nat → AV → AV → AV → AV → Heap → Option β
  | 0, _, _, _, _, _ => none
  | m + 1, t0, t1, t12, t13, H => p.bin .lss t13 t12 fun t14 =>
      p.cond t14
      (p.iadr 2 t0 t13 fun t18 =>
      p.load true 2 t18 H fun t19 =>
      p.iadr 2 t1 t13 fun t22 =>
      p.load true 2 t22 H fun t23 =>
      p.binA .neq [1, 0] t19 t23 fun t24 =>
      p.cond t24
      (k (.sc (.bool false)) H)
      (p.bin .add t13 (.sc (.int .i64 1)) fun t25 =>
      f110_l0 p n  k m t0 t1 t12 t25 H))
      (k (.sc (.bool true)) H)
noncomputable def f110 (p : Pr β) (n : Nat) (a0 a1 : AV) (H : Heap) (k : AV → Heap → Option β) : Option β :=
  p.len a0 fun t7 =>
  p.len a1 fun t9 =>
  p.bin .neq t7 t9 fun t10 =>
  p.cond t10
  (k (.sc (.bool false)) H)
  (p.len a0 fun t12 =>
  f110_l0 p n  k n a0 a1 t12 (.sc (.int .i64 0)) H)
noncomputable def f110_L0 (p : Pr β) (n : Nat)  (k : AV → Heap → Option β) (m : Nat) (tm : Tm) (H : Heap) : Option β :=
  iterC 26 (fun tm H k => evalCode ti0 p o110 26 n (cd c110 [1, 1, 0, 1, 0, 0]) tm H k) (blkK 0 (seqK (fun tm H => evalCode ti0 p o110 26 n (cd c110 [1, 1, 1]) tm H (endK ti0 p Go.Proofs.Try.f110.results.toList k)) (endK ti0 p Go.Proofs.Try.f110.results.toList k))) m tm H
theorem f110_L0_step (p : Pr β) (n : Nat)  (k : AV → Heap → Option β) (m0 : Nat) (t0 t1 t2 t3 t4 t5 t6 t7 t8 t9 t10 t11 t12 t13 t14 t15 t16 t17 t18 t19 t20 t21 t22 t23 t24 t25 : AV) (H : Heap) : f110_L0 p n  k (m0 + 1) [(0, t0), (1, t1), (2, t2), (3, t3), (4, t4), (5, t5), (6, t6), (7, t7), (8, t8), (9, t9), (10, t10), (11, t11), (12, t12), (13, t13), (14, t14), (15, t15), (16, t16), (17, t17), (18, t18), (19, t19), (20, t20), (21, t21), (22, t22), (23, t23), (24, t24), (25, t25)] H =
  p.bin .lss t13 t12 fun t14 =>
  p.cond t14
  (p.iadr 2 t0 t13 fun t18 =>
  p.load true 2 t18 H fun t19 =>
  p.iadr 2 t1 t13 fun t22 =>
  p.load true 2 t22 H fun t23 =>
  p.binA .neq [1, 0] t19 t23 fun t24 =>
  p.cond t24
  (k (.sc (.bool false)) H)
  (p.bin .add t13 (.sc (.int .i64 1)) fun t25 =>
  f110_L0 p n  k m0 [(0, t0), (1, t1), (2, t2), (3, t3), (4, t4), (5, t13), (6, t6), (7, t7), (8, t8), (9, t9), (10, t10), (11, t11), (12, t12), (13, t25), (14, t14), (15, t13), (16, t0), (17, t13), (18, t18), (19, t19), (20, t1), (21, t13), (22, t22), (23, t23), (24, t24), (25, t25)] H))
  (k (.sc (.bool true)) H) := by kernel_rfl
theorem f110_l0_eq (p : Pr β) (n : Nat)  (k : AV → Heap → Option β)   (m0 : Nat) : ∀ (t0 t1 t2 t3 t4 t5 t6 t7 t8 t9 t10 t11 t12 t13 t14 t15 t16 t17 t18 t19 t20 t21 t22 t23 t24 t25 : AV) (H : Heap), f110_L0 p n  k m0 [(0, t0), (1, t1), (2, t2), (3, t3), (4, t4), (5, t5), (6, t6), (7, t7), (8, t8), (9, t9), (10, t10), (11, t11), (12, t12), (13, t13), (14, t14), (15, t15), (16, t16), (17, t17), (18, t18), (19, t19), (20, t20), (21, t21), (22, t22), (23, t23), (24, t24), (25, t25)] H = f110_l0 p n  k m0 t0 t1 t12 t13 H := by
  induction m0 with
  | zero => intros; rfl
  | succ m0 ih =>
    intro t0 t1 t2 t3 t4 t5 t6 t7 t8 t9 t10 t11 t12 t13 t14 t15 t16 t17 t18 t19 t20 t21 t22 t23 t24 t25 H
    rw [f110_L0_step]
    simp only [ih]
    rfl
theorem f110_raw (p : Pr β) (n : Nat) (a0 a1 : AV) (H : Heap) (k : AV → Heap → Option β) : evalBody ti0 p n ⟨c110, 26, Go.Proofs.Try.f110.results.toList, o110⟩ [a0, a1] H k =
  p.len a0 fun t7 =>
  p.len a1 fun t9 =>
  p.bin .neq t7 t9 fun t10 =>
  p.cond t10
  (k (.sc (.bool false)) H)
  (p.len a0 fun t12 =>
  f110_L0 p n  k n [(0, a0), (1, a1), (2, (.sc undef)), (3, (.sc undef)), (4, (.sc (.bool false))), (5, (.sc undef)), (6, a0), (7, t7), (8, a1), (9, t9), (10, t10), (11, a0), (12, t12), (13, (.sc (.int .i64 0))), (14, (.sc undef)), (15, (.sc undef)), (16, (.sc undef)), (17, (.sc undef)), (18, (.sc undef)), (19, (.sc undef)), (20, (.sc undef)), (21, (.sc undef)), (22, (.sc undef)), (23, (.sc undef)), (24, (.sc undef)), (25, (.sc undef))] H) := by kernel_rfl
theorem f110_body (p : Pr β) (n : Nat) (a0 a1 : AV) (H : Heap) (k : AV → Heap → Option β) : evalBody ti0 p n ⟨c110, 26, Go.Proofs.Try.f110.results.toList, o110⟩ [a0, a1] H k = f110 p n a0 a1 H k := by
  rw [f110_raw]
  simp only [f110_l0_eq]
  rfl

/-! 111 slices.Equal[[]string,string] -/
noncomputable def f111_l0 (p : Pr β) (n : Nat)  (k : AV → Heap → Option β) : Nat → AV → AV → AV → AV → Heap → Option β
  | 0, _, _, _, _, _ => none
  | m + 1, t0, t1, t12, t13, H => p.bin .lss t13 t12 fun t14 =>
      p.cond t14
      (p.iadr 1 t0 t13 fun t18 =>
      p.load false 1 t18 H fun t19 =>
      p.iadr 1 t1 t13 fun t22 =>
      p.load false 1 t22 H fun t23 =>
      p.bin .neq t19 t23 fun t24 =>
      p.cond t24
      (k (.sc (.bool false)) H)
      (p.bin .add t13 (.sc (.int .i64 1)) fun t25 =>
      f111_l0 p n  k m t0 t1 t12 t25 H))
      (k (.sc (.bool true)) H)
noncomputable def f111 (p : Pr β) (n : Nat) (a0 a1 : AV) (H : Heap) (k : AV → Heap → Option β) : Option β :=
  p.len a0 fun t7 =>
  p.len a1 fun t9 =>
  p.bin .neq t7 t9 fun t10 =>
  p.cond t10
  (k (.sc (.bool false)) H)
  (p.len a0 fun t12 =>
  f111_l0 p n  k n a0 a1 t12 (.sc (.int .i64 0)) H)
noncomputable def f111_L0 (p : Pr β) (n : Nat)  (k : AV → Heap → Option β) (m : Nat) (tm : Tm) (H : Heap) : Option β :=
  iterC 26 (fun tm H k => evalCode ti0 p o111 26 n (cd c111 [1, 1, 0, 1, 0, 0]) tm H k) (blkK 0 (seqK (fun tm H => evalCode ti0 p o111 26 n (cd c111 [1, 1, 1]) tm H (endK ti0 p Go.Proofs.Try.f111.results.toList k)) (endK ti0 p Go.Proofs.Try.f111.results.toList k))) m tm H
theorem f111_L0_step (p : Pr β) (n : Nat)  (k : AV → Heap → Option β) (m0 : Nat) (t0 t1 t2 t3 t4 t5 t6 t7 t8 t9 t10 t11 t12 t13 t14 t15 t16 t17 t18 t19 t20 t21 t22 t23 t24 t25 : AV) (H : Heap) : f111_L0 p n  k (m0 + 1) [(0, t0), (1, t1), (2, t2), (3, t3), (4, t4), (5, t5), (6, t6), (7, t7), (8, t8), (9, t9), (10, t10), (11, t11), (12, t12), (13, t13), (14, t14), (15, t15), (16, t16), (17, t17), (18, t18), (19, t19), (20, t20), (21, t21), (22, t22), (23, t23), (24, t24), (25, t25)] H =
  p.bin .lss t13 t12 fun t14 =>
  p.cond t14
  (p.iadr 1 t0 t13 fun t18 =>
  p.load false 1 t18 H fun t19 =>
  p.iadr 1 t1 t13 fun t22 =>
  p.load false 1 t22 H fun t23 =>
  p.bin .neq t19 t23 fun t24 =>
  p.cond t24
  (k (.sc (.bool false)) H)
  (p.bin .add t13 (.sc (.int .i64 1)) fun t25 =>
  f111_L0 p n  k m0 [(0, t0), (1, t1), (2, t2), (3, t3), (4, t4), (5, t13), (6, t6), (7, t7), (8, t8), (9, t9), (10, t10), (11, t11), (12, t12), (13, t25), (14, t14), (15, t13), (16, t0), (17, t13), (18, t18), (19, t19), (20, t1), (21, t13), (22, t22), (23, t23), (24, t24), (25, t25)] H))
  (k (.sc (.bool true)) H) := by kernel_rfl
theorem f111_l0_eq (p : Pr β) (n : Nat)  (k : AV → Heap → Option β)   (m0 : Nat) : ∀ (t0 t1 t2 t3 t4 t5 t6 t7 t8 t9 t10 t11 t12 t13 t14 t15 t16 t17 t18 t19 t20 t21 t22 t23 t24 t25 : AV) (H : Heap), f111_L0 p n  k m0 [(0, t0), (1, t1), (2, t2), (3, t3), (4, t4), (5, t5), (6, t6), (7, t7), (8, t8), (9, t9), (10, t10), (11, t11), (12, t12), (13, t13), (14, t14), (15, t15), (16, t16), (17, t17), (18, t18), (19, t19), (20, t20), (21, t21), (22, t22), (23, t23), (24, t24), (25, t25)] H = f111_l0 p n  k m0 t0 t1 t12 t13 H := by
  induction m0 with
  | zero => intros; rfl
  | succ m0 ih =>
    intro t0 t1 t2 t3 t4 t5 t6 t7 t8 t9 t10 t11 t12 t13 t14 t15 t16 t17 t18 t19 t20 t21 t22 t23 t24 t25 H
    rw [f111_L0_step]
    simp only [ih]
    rfl
theorem f111_raw (p : Pr β) (n : Nat) (a0 a1 : AV) (H : Heap) (k : AV → Heap → Option β) : evalBody ti0 p n ⟨c111, 26, Go.Proofs.Try.f111.results.toList, o111⟩ [a0, a1] H k =
  p.len a0 fun t7 =>
  p.len a1 fun t9 =>
  p.bin .neq t7 t9 fun t10 =>
  p.cond t10
  (k (.sc (.bool false)) H)
  (p.len a0 fun t12 =>
  f111_L0 p n  k n [(0, a0), (1, a1), (2, (.sc undef)), (3, (.sc undef)), (4, (.sc (.bool false))), (5, (.sc undef)), (6, a0), (7, t7), (8, a1), (9, t9), (10, t10), (11, a0), (12, t12), (13, (.sc (.int .i64 0))), (14, (.sc undef)), (15, (.sc undef)), (16, (.sc undef)), (17, (.sc undef)), (18, (.sc undef)), (19, (.sc undef)), (20, (.sc undef)), (21, (.sc undef)), (22, (.sc undef)), (23, (.sc undef)), (24, (.sc undef)), (25, (.sc undef))] H) := by kernel_rfl
theorem f111_body (p : Pr β) (n : Nat) (a0 a1 : AV) (H : Heap) (k : AV → Heap → Option β) : evalBody ti0 p n ⟨c111, 26, Go.Proofs.Try.f111.results.toList, o111⟩ [a0, a1] H k = f111 p n a0 a1 H k := by
  rw [f111_raw]
  simp only [f111_l0_eq]
  rfl

/-! 84 slices.Equal[[]int,int] -/
noncomputable def f84_l0 (p : Pr β) (n : Nat)  (k : AV → Heap → Option β) : Nat → AV → AV → AV → AV → Heap → Option β
  | 0, _, _, _, _, _ => none
  | m + 1, t0, t1, t12, t13, H => p.bin .lss t13 t12 fun t14 =>
      p.cond t14
      (p.iadr 1 t0 t13 fun t18 =>
      p.load false 1 t18 H fun t19 =>
      p.iadr 1 t1 t13 fun t22 =>
      p.load false 1 t22 H fun t23 =>
      p.bin .neq t19 t23 fun t24 =>
      p.cond t24
      (k (.sc (.bool false)) H)
      (p.bin .add t13 (.sc (.int .i64 1)) fun t25 =>
      f84_l0 p n  k m t0 t1 t12 t25 H))
      (k (.sc (.bool true)) H)
noncomputable def f84 (p : Pr β) (n : Nat) (a0 a1 : AV) (H : Heap) (k : AV → Heap → Option β) : Option β :=
  p.len a0 fun t7 =>
  p.len a1 fun t9 =>
  p.bin .neq t7 t9 fun t10 =>
  p.cond t10
  (k (.sc (.bool false)) H)
  (p.len a0 fun t12 =>
  f84_l0 p n  k n a0 a1 t12 (.sc (.int .i64 0)) H)
noncomputable def f84_L0 (p : Pr β) (n : Nat)  (k : AV → Heap → Option β) (m : Nat) (tm : Tm) (H : Heap) : Option β :=
  iterC 26 (fun tm H k => evalCode ti0 p o84 26 n (cd c84 [1, 1, 0, 1, 0, 0]) tm H k) (blkK 0 (seqK (fun tm H => evalCode ti0 p o84 26 n (cd c84 [1, 1, 1]) tm H (endK ti0 p Go.Proofs.Try.f84.results.toList k)) (endK ti0 p Go.Proofs.Try.f84.results.toList k))) m tm H
theorem f84_L0_step (p : Pr β) (n : Nat)  (k : AV → Heap → Option β) (m0 : Nat) (t0 t1 t2 t3 t4 t5 t6 t7 t8 t9 t10 t11 t12 t13 t14 t15 t16 t17 t18 t19 t20 t21 t22 t23 t24 t25 : AV) (H : Heap) : f84_L0 p n  k (m0 + 1) [(0, t0), (1, t1), (2, t2), (3, t3), (4, t4), (5, t5), (6, t6), (7, t7), (8, t8), (9, t9), (10, t10), (11, t11), (12, t12), (13, t13), (14, t14), (15, t15), (16, t16), (17, t17), (18, t18), (19, t19), (20, t20), (21, t21), (22, t22), (23, t23), (24, t24), (25, t25)] H =
  p.bin .lss t13 t12 fun t14 =>
  p.cond t14
  (p.iadr 1 t0 t13 fun t18 =>
  p.load false 1 t18 H fun t19 =>
  p.iadr 1 t1 t13 fun t22 =>
  p.load false 1 t22 H fun t23 =>
  p.bin .neq t19 t23 fun t24 =>
  p.cond t24
  (k (.sc (.bool false)) H)
  (p.bin .add t13 (.sc (.int .i64 1)) fun t25 =>
  f84_L0 p n  k m0 [(0, t0), (1, t1), (2, t2), (3, t3), (4, t4), (5, t13), (6, t6), (7, t7), (8, t8), (9, t9), (10, t10), (11, t11), (12, t12), (13, t25), (14, t14), (15, t13), (16, t0), (17, t13), (18, t18), (19, t19), (20, t1), (21, t13), (22, t22), (23, t23), (24, t24), (25, t25)] H))
  (k (.sc (.bool true)) H) := by kernel_rfl
theorem f84_l0_eq (p : Pr β) (n : Nat)  (k : AV → Heap → Option β)   (m0 : Nat) : ∀ (t0 t1 t2 t3 t4 t5 t6 t7 t8 t9 t10 t11 t12 t13 t14 t15 t16 t17 t18 t19 t20 t21 t22 t23 t24 t25 : AV) (H : Heap), f84_L0 p n  k m0 [(0, t0), (1, t1), (2, t2), (3, t3), (4, t4), (5, t5), (6, t6), (7, t7), (8, t8), (9, t9), (10, t10), (11, t11), (12, t12), (13, t13), (14, t14), (15, t15), (16, t16), (17, t17), (18, t18), (19, t19), (20, t20), (21, t21), (22, t22), (23, t23), (24, t24), (25, t25)] H = f84_l0 p n  k m0 t0 t1 t12 t13 H := by
  induction m0 with
  | zero => intros; rfl
  | succ m0 ih =>
    intro t0 t1 t2 t3 t4 t5 t6 t7 t8 t9 t10 t11 t12 t13 t14 t15 t16 t17 t18 t19 t20 t21 t22 t23 t24 t25 H
    rw [f84_L0_step]
    simp only [ih]
    rfl
theorem f84_raw (p : Pr β) (n : Nat) (a0 a1 : AV) (H : Heap) (k : AV → Heap → Option β) : evalBody ti0 p n ⟨c84, 26, Go.Proofs.Try.f84.results.toList, o84⟩ [a0, a1] H k =
  p.len a0 fun t7 =>
  p.len a1 fun t9 =>
  p.bin .neq t7 t9 fun t10 =>
  p.cond t10
  (k (.sc (.bool false)) H)
  (p.len a0 fun t12 =>
  f84_L0 p n  k n [(0, a0), (1, a1), (2, (.sc undef)), (3, (.sc undef)), (4, (.sc (.bool false))), (5, (.sc undef)), (6, a0), (7, t7), (8, a1), (9, t9), (10, t10), (11, a0), (12, t12), (13, (.sc (.int .i64 0))), (14, (.sc undef)), (15, (.sc undef)), (16, (.sc undef)), (17, (.sc undef)), (18, (.sc undef)), (19, (.sc undef)), (20, (.sc undef)), (21, (.sc undef)), (22, (.sc undef)), (23, (.sc undef)), (24, (.sc undef)), (25, (.sc undef))] H) := by kernel_rfl
theorem f84_body (p : Pr β) (n : Nat) (a0 a1 : AV) (H : Heap) (k : AV → Heap → Option β) : evalBody ti0 p n ⟨c84, 26, Go.Proofs.Try.f84.results.toList, o84⟩ [a0, a1] H k = f84 p n a0 a1 H k := by
  rw [f84_raw]
  simp only [f84_l0_eq]
  rfl

/-! 82 loop.example/g00480/impl.SamePacket -/
noncomputable def f82 (p : Pr β) (n : Nat) (a0 a1 : AV) (H : Heap) (k : AV → Heap → Option β) : Option β :=
  p.box a0 H fun t2 H =>
  p.box a1 H fun t3 H =>
  p.fadr 0 t2 fun t9 =>
  p.load false 1 t9 H fun t10 =>
  p.fadr 0 t3 fun t11 =>
  p.load false 1 t11 H fun t12 =>
  p.bin .eql t10 t12 fun t13 =>
  p.guard t13 true H (fun k' => p.fadr 1 t2 fun t' => k' t' H) fun t15 H =>
  p.guard t13 true H (fun k' => p.load false 1 t15 H fun t' => k' t' H) fun t16 H =>
  p.guard t13 true H (fun k' => p.fadr 1 t3 fun t' => k' t' H) fun t17 H =>
  p.guard t13 true H (fun k' => p.load false 1 t17 H fun t' => k' t' H) fun t18 H =>
  p.guard t13 true H (fun k' => p.binB .eql t16 t18 fun t' => k' t' H) fun t19 H =>
  p.pick t13 t19 (.sc (.bool false)) fun t20 =>
  p.guard t20 true H (fun k' => p.fadr 2 t2 fun t' => k' t' H) fun t22 H =>
  p.guard t20 true H (fun k' => p.load false 1 t22 H fun t' => k' t' H) fun t23 H =>
  p.guard t20 true H (fun k' => p.fadr 2 t3 fun t' => k' t' H) fun t24 H =>
  p.guard t20 true H (fun k' => p.load false 1 t24 H fun t' => k' t' H) fun t25 H =>
  p.guard t20 true H (fun k' => p.bin .eql t23 t25 fun t' => k' t' H) fun t26 H =>
  p.pick t20 t26 (.sc (.bool false)) fun t27 =>
  p.guard t27 true H (fun k' => p.fadr 3 t2 fun t' => k' t' H) fun t29 H =>
  p.guard t27 true H (fun k' => p.load false 1 t29 H fun t' => k' t' H) fun t30 H =>
  p.guard t27 true H (fun k' => p.fadr 3 t3 fun t' => k' t' H) fun t31 H =>
  p.guard t27 true H (fun k' => p.load false 1 t31 H fun t' => k' t' H) fun t32 H =>
  p.guard t27 true H (fun k' => p.binB .eql t30 t32 fun t' => k' t' H) fun t33 H =>
  p.pick t27 t33 (.sc (.bool false)) fun t34 =>
  p.guard t34 true H (fun k' => p.fadr 4 t2 fun t' => k' t' H) fun t36 H =>
  p.guard t34 true H (fun k' => p.load false 1 t36 H fun t' => k' t' H) fun t37 H =>
  p.guard t34 true H (fun k' => p.fadr 4 t3 fun t' => k' t' H) fun t38 H =>
  p.guard t34 true H (fun k' => p.load false 1 t38 H fun t' => k' t' H) fun t39 H =>
  p.guard t34 true H (fun k' => p.bin .eql t37 t39 fun t' => k' t' H) fun t40 H =>
  p.pick t34 t40 (.sc (.bool false)) fun t41 =>
  p.guard t41 true H (fun k' => p.fadr 5 t2 fun t' => k' t' H) fun t43 H =>
  p.guard t41 true H (fun k' => p.load false 1 t43 H fun t' => k' t' H) fun t44 H =>
  p.guard t41 true H (fun k' => p.fadr 5 t3 fun t' => k' t' H) fun t45 H =>
  p.guard t41 true H (fun k' => p.load false 1 t45 H fun t' => k' t' H) fun t46 H =>
  p.guard t41 true H (fun k' => p.bin .eql t44 t46 fun t' => k' t' H) fun t47 H =>
  p.pick t41 t47 (.sc (.bool false)) fun t48 =>
  p.guard t48 true H (fun k' => p.fadr 6 t2 fun t' => k' t' H) fun t50 H =>
  p.guard t48 true H (fun k' => p.load false 1 t50 H fun t' => k' t' H) fun t51 H =>
  p.guard t48 true H (fun k' => p.fadr 6 t3 fun t' => k' t' H) fun t52 H =>
  p.guard t48 true H (fun k' => p.load false 1 t52 H fun t' => k' t' H) fun t53 H =>
  p.guard t48 true H (fun k' => p.call 4 (.fn 109 [] []) [t51, t53] H fun t' H => k' t' H) fun t54 H =>
  p.pick t48 t54 (.sc (.bool false)) fun t55 =>
  p.fadr 7 t2 fun t56 =>
  p.load false 1 t56 H fun t57 =>
  p.fadr 7 t3 fun t58 =>
  p.load false 1 t58 H fun t59 =>
  p.bin .eql t57 t59 fun t60 =>
  p.guard t60 true H (fun k' => p.fadr 8 t2 fun t' => k' t' H) fun t62 H =>
  p.guard t60 true H (fun k' => p.load false 1 t62 H fun t' => k' t' H) fun t63 H =>
  p.guard t60 true H (fun k' => p.fadr 8 t3 fun t' => k' t' H) fun t64 H =>
  p.guard t60 true H (fun k' => p.load false 1 t64 H fun t' => k' t' H) fun t65 H =>
  p.guard t60 true H (fun k' => p.bin .eql t63 t65 fun t' => k' t' H) fun t66 H =>
  p.pick t60 t66 (.sc (.bool false)) fun t67 =>
  p.guard t67 true H (fun k' => p.fadr 9 t2 fun t' => k' t' H) fun t69 H =>
  p.guard t67 true H (fun k' => p.load false 1 t69 H fun t' => k' t' H) fun t70 H =>
  p.guard t67 true H (fun k' => p.fadr 9 t3 fun t' => k' t' H) fun t71 H =>
  p.guard t67 true H (fun k' => p.load false 1 t71 H fun t' => k' t' H) fun t72 H =>
  p.guard t67 true H (fun k' => p.binB .eql t70 t72 fun t' => k' t' H) fun t73 H =>
  p.pick t67 t73 (.sc (.bool false)) fun t74 =>
  p.guard t74 true H (fun k' => p.fadr 10 t2 fun t' => k' t' H) fun t76 H =>
  p.guard t74 true H (fun k' => p.load false 1 t76 H fun t' => k' t' H) fun t77 H =>
  p.guard t74 true H (fun k' => p.fadr 10 t3 fun t' => k' t' H) fun t78 H =>
  p.guard t74 true H (fun k' => p.load false 1 t78 H fun t' => k' t' H) fun t79 H =>
  p.guard t74 true H (fun k' => p.bin .eql t77 t79 fun t' => k' t' H) fun t80 H =>
  p.pick t74 t80 (.sc (.bool false)) fun t81 =>
  p.guard t81 true H (fun k' => p.fadr 16 t2 fun t' => k' t' H) fun t83 H =>
  p.guard t81 true H (fun k' => p.load false 1 t83 H fun t' => k' t' H) fun t84 H =>
  p.guard t81 true H (fun k' => p.fadr 16 t3 fun t' => k' t' H) fun t85 H =>
  p.guard t81 true H (fun k' => p.load false 1 t85 H fun t' => k' t' H) fun t86 H =>
  p.guard t81 true H (fun k' => p.binB .eql t84 t86 fun t' => k' t' H) fun t87 H =>
  p.pick t81 t87 (.sc (.bool false)) fun t88 =>
  p.guard t88 true H (fun k' => p.fadr 17 t2 fun t' => k' t' H) fun t90 H =>
  p.guard t88 true H (fun k' => p.load false 1 t90 H fun t' => k' t' H) fun t91 H =>
  p.guard t88 true H (fun k' => p.fadr 17 t3 fun t' => k' t' H) fun t92 H =>
  p.guard t88 true H (fun k' => p.load false 1 t92 H fun t' => k' t' H) fun t93 H =>
  p.guard t88 true H (fun k' => p.bin .eql t91 t93 fun t' => k' t' H) fun t94 H =>
  p.pick t88 t94 (.sc (.bool false)) fun t95 =>
  p.guard t95 true H (fun k' => p.fadr 18 t2 fun t' => k' t' H) fun t97 H =>
  p.guard t95 true H (fun k' => p.load false 1 t97 H fun t' => k' t' H) fun t98 H =>
  p.guard t95 true H (fun k' => p.fadr 18 t3 fun t' => k' t' H) fun t99 H =>
  p.guard t95 true H (fun k' => p.load false 1 t99 H fun t' => k' t' H) fun t100 H =>
  p.guard t95 true H (fun k' => p.binB .eql t98 t100 fun t' => k' t' H) fun t101 H =>
  p.pick t95 t101 (.sc (.bool false)) fun t102 =>
  p.guard t102 true H (fun k' => p.fadr 19 t2 fun t' => k' t' H) fun t104 H =>
  p.guard t102 true H (fun k' => p.load false 1 t104 H fun t' => k' t' H) fun t105 H =>
  p.guard t102 true H (fun k' => p.fadr 19 t3 fun t' => k' t' H) fun t106 H =>
  p.guard t102 true H (fun k' => p.load false 1 t106 H fun t' => k' t' H) fun t107 H =>
  p.guard t102 true H (fun k' => p.call 4 (.fn 109 [] []) [t105, t107] H fun t' H => k' t' H) fun t108 H =>
  p.pick t102 t108 (.sc (.bool false)) fun t109 =>
  p.fadr 11 t2 fun t110 =>
  p.load false 1 t110 H fun t111 =>
  p.fadr 11 t3 fun t112 =>
  p.load false 1 t112 H fun t113 =>
  p.binB .eql t111 t113 fun t114 =>
  p.guard t114 true H (fun k' => p.fadr 12 t2 fun t' => k' t' H) fun t116 H =>
  p.guard t114 true H (fun k' => p.load false 1 t116 H fun t' => k' t' H) fun t117 H =>
  p.guard t114 true H (fun k' => p.fadr 12 t3 fun t' => k' t' H) fun t118 H =>
  p.guard t114 true H (fun k' => p.load false 1 t118 H fun t' => k' t' H) fun t119 H =>
  p.guard t114 true H (fun k' => p.bin .eql t117 t119 fun t' => k' t' H) fun t120 H =>
  p.pick t114 t120 (.sc (.bool false)) fun t121 =>
  p.guard t121 true H (fun k' => p.fadr 13 t2 fun t' => k' t' H) fun t123 H =>
  p.guard t121 true H (fun k' => p.load false 1 t123 H fun t' => k' t' H) fun t124 H =>
  p.guard t121 true H (fun k' => p.fadr 13 t3 fun t' => k' t' H) fun t125 H =>
  p.guard t121 true H (fun k' => p.load false 1 t125 H fun t' => k' t' H) fun t126 H =>
  p.guard t121 true H (fun k' => p.call 4 (.fn 109 [] []) [t124, t126] H fun t' H => k' t' H) fun t127 H =>
  p.pick t121 t127 (.sc (.bool false)) fun t128 =>
  p.guard t128 true H (fun k' => p.fadr 14 t2 fun t' => k' t' H) fun t130 H =>
  p.guard t128 true H (fun k' => p.load false 1 t130 H fun t' => k' t' H) fun t131 H =>
  p.guard t128 true H (fun k' => p.fadr 14 t3 fun t' => k' t' H) fun t132 H =>
  p.guard t128 true H (fun k' => p.load false 1 t132 H fun t' => k' t' H) fun t133 H =>
  p.guard t128 true H (fun k' => p.bin .eql t131 t133 fun t' => k' t' H) fun t134 H =>
  p.pick t128 t134 (.sc (.bool false)) fun t135 =>
  p.guard t135 true H (fun k' => p.fadr 15 t2 fun t' => k' t' H) fun t137 H =>
  p.guard t135 true H (fun k' => p.load false 1 t137 H fun t' => k' t' H) fun t138 H =>
  p.guard t135 true H (fun k' => p.fadr 15 t3 fun t' => k' t' H) fun t139 H =>
  p.guard t135 true H (fun k' => p.load false 1 t139 H fun t' => k' t' H) fun t140 H =>
  p.guard t135 true H (fun k' => p.binB .eql t138 t140 fun t' => k' t' H) fun t141 H =>
  p.pick t135 t141 (.sc (.bool false)) fun t142 =>
  p.fadr 22 t2 fun t143 =>
  p.load false 1 t143 H fun t144 =>
  p.fadr 22 t3 fun t145 =>
  p.load false 1 t145 H fun t146 =>
  p.call 4 (.fn 110 [] []) [t144, t146] H fun t147 H =>
  p.guard t147 true H (fun k' => p.fadr 23 t2 fun t' => k' t' H) fun t149 H =>
  p.guard t147 true H (fun k' => p.load false 1 t149 H fun t' => k' t' H) fun t150 H =>
  p.guard t147 true H (fun k' => p.fadr 23 t3 fun t' => k' t' H) fun t151 H =>
  p.guard t147 true H (fun k' => p.load false 1 t151 H fun t' => k' t' H) fun t152 H =>
  p.guard t147 true H (fun k' => p.call 4 (.fn 111 [] []) [t150, t152] H fun t' H => k' t' H) fun t153 H =>
  p.pick t147 t153 (.sc (.bool false)) fun t154 =>
  p.guard t154 true H (fun k' => p.fadr 24 t2 fun t' => k' t' H) fun t156 H =>
  p.guard t154 true H (fun k' => p.load false 1 t156 H fun t' => k' t' H) fun t157 H =>
  p.guard t154 true H (fun k' => p.fadr 24 t3 fun t' => k' t' H) fun t158 H =>
  p.guard t154 true H (fun k' => p.load false 1 t158 H fun t' => k' t' H) fun t159 H =>
  p.guard t154 true H (fun k' => p.call 4 (.fn 84 [] []) [t157, t159] H fun t' H => k' t' H) fun t160 H =>
  p.pick t154 t160 (.sc (.bool false)) fun t161 =>
  p.guard t55 true H (fun k' => k' t109 H) fun t164 H =>
  p.pick t55 t164 (.sc (.bool false)) fun t165 =>
  p.guard t165 true H (fun k' => k' t142 H) fun t167 H =>
  p.pick t165 t167 (.sc (.bool false)) fun t168 =>
  p.guard t168 true H (fun k' => k' t161 H) fun t170 H =>
  p.pick t168 t170 (.sc (.bool false)) fun t171 =>
  p.guard t171 true H (fun k' => p.fadr 20 t2 fun t' => k' t' H) fun t173 H =>
  p.guard t171 true H (fun k' => p.load false 1 t173 H fun t' => k' t' H) fun t174 H =>
  p.guard t171 true H (fun k' => p.fadr 20 t3 fun t' => k' t' H) fun t175 H =>
  p.guard t171 true H (fun k' => p.load false 1 t175 H fun t' => k' t' H) fun t176 H =>
  p.guard t171 true H (fun k' => p.bin .eql t174 t176 fun t' => k' t' H) fun t177 H =>
  p.pick t171 t177 (.sc (.bool false)) fun t178 =>
  p.guard t178 true H (fun k' => p.fadr 21 t2 fun t' => k' t' H) fun t180 H =>
  p.guard t178 true H (fun k' => p.load false 1 t180 H fun t' => k' t' H) fun t181 H =>
  p.guard t178 true H (fun k' => p.fadr 21 t3 fun t' => k' t' H) fun t182 H =>
  p.guard t178 true H (fun k' => p.load false 1 t182 H fun t' => k' t' H) fun t183 H =>
  p.guard t178 true H (fun k' => p.binB .eql t181 t183 fun t' => k' t' H) fun t184 H =>
  p.pick t178 t184 (.sc (.bool false)) fun t185 =>
  k t185 H
theorem f82_body (p : Pr β) (n : Nat) (a0 a1 : AV) (H : Heap) (k : AV → Heap → Option β) : evalBody ti0 p n ⟨c82, 186, Go.Proofs.Try.f82.results.toList, o82⟩ [a0, a1] H k = f82 p n a0 a1 H k := by kernel_rfl

/-! 83 slices.Equal[[]loop.example/g00480/impl.Sub,loop.example/g00480/impl.Sub] -/
noncomputable def f83_l0 (p : Pr β) (n : Nat)  (k : AV → Heap → Option β) : Nat → AV → AV → AV → AV → Heap → Option β
  | 0, _, _, _, _, _ => none
  | m + 1, t0, t1, t12, t13, H => p.bin .lss t13 t12 fun t14 =>
      p.cond t14
      (p.iadr 3 t0 t13 fun t18 =>
      p.load true 3 t18 H fun t19 =>
      p.iadr 3 t1 t13 fun t22 =>
      p.load true 3 t22 H fun t23 =>
      p.binA .neq [1, 0, 0] t19 t23 fun t24 =>
      p.cond t24
      (k (.sc (.bool false)) H)
      (p.bin .add t13 (.sc (.int .i64 1)) fun t25 =>
      f83_l0 p n  k m t0 t1 t12 t25 H))
      (k (.sc (.bool true)) H)
noncomputable def f83 (p : Pr β) (n : Nat) (a0 a1 : AV) (H : Heap) (k : AV → Heap → Option β) : Option β :=
  p.len a0 fun t7 =>
  p.len a1 fun t9 =>
  p.bin .neq t7 t9 fun t10 =>
  p.cond t10
  (k (.sc (.bool false)) H)
  (p.len a0 fun t12 =>
  f83_l0 p n  k n a0 a1 t12 (.sc (.int .i64 0)) H)
noncomputable def f83_L0 (p : Pr β) (n : Nat)  (k : AV → Heap → Option β) (m : Nat) (tm : Tm) (H : Heap) : Option β :=
  iterC 26 (fun tm H k => evalCode ti0 p o83 26 n (cd c83 [1, 1, 0, 1, 0, 0]) tm H k) (blkK 0 (seqK (fun tm H => evalCode ti0 p o83 26 n (cd c83 [1, 1, 1]) tm H (endK ti0 p Go.Proofs.Try.f83.results.toList k)) (endK ti0 p Go.Proofs.Try.f83.results.toList k))) m tm H
theorem f83_L0_step (p : Pr β) (n : Nat)  (k : AV → Heap → Option β) (m0 : Nat) (t0 t1 t2 t3 t4 t5 t6 t7 t8 t9 t10 t11 t12 t13 t14 t15 t16 t17 t18 t19 t20 t21 t22 t23 t24 t25 : AV) (H : Heap) : f83_L0 p n  k (m0 + 1) [(0, t0), (1, t1), (2, t2), (3, t3), (4, t4), (5, t5), (6, t6), (7, t7), (8, t8), (9, t9), (10, t10), (11, t11), (12, t12), (13, t13), (14, t14), (15, t15), (16, t16), (17, t17), (18, t18), (19, t19), (20, t20), (21, t21), (22, t22), (23, t23), (24, t24), (25, t25)] H =
  p.bin .lss t13 t12 fun t14 =>
  p.cond t14
  (p.iadr 3 t0 t13 fun t18 =>
  p.load true 3 t18 H fun t19 =>
  p.iadr 3 t1 t13 fun t22 =>
  p.load true 3 t22 H fun t23 =>
  p.binA .neq [1, 0, 0] t19 t23 fun t24 =>
  p.cond t24
  (k (.sc (.bool false)) H)
  (p.bin .add t13 (.sc (.int .i64 1)) fun t25 =>
  f83_L0 p n  k m0 [(0, t0), (1, t1), (2, t2), (3, t3), (4, t4), (5, t13), (6, t6), (7, t7), (8, t8), (9, t9), (10, t10), (11, t11), (12, t12), (13, t25), (14, t14), (15, t13), (16, t0), (17, t13), (18, t18), (19, t19), (20, t1), (21, t13), (22, t22), (23, t23), (24, t24), (25, t25)] H))
  (k (.sc (.bool true)) H) := by kernel_rfl
theorem f83_l0_eq (p : Pr β) (n : Nat)  (k : AV → Heap → Option β)   (m0 : Nat) : ∀ (t0 t1 t2 t3 t4 t5 t6 t7 t8 t9 t10 t11 t12 t13 t14 t15 t16 t17 t18 t19 t20 t21 t22 t23 t24 t25 : AV) (H : Heap), f83_L0 p n  k m0 [(0, t0), (1, t1), (2, t2), (3, t3), (4, t4), (5, t5), (6, t6), (7, t7), (8, t8), (9, t9), (10, t10), (11, t11), (12, t12), (13, t13), (14, t14), (15, t15), (16, t16), (17, t17), (18, t18), (19, t19), (20, t20), (21, t21), (22, t22), (23, t23), (24, t24), (25, t25)] H = f83_l0 p n  k m0 t0 t1 t12 t13 H := by
  induction m0 with
  | zero => intros; rfl
  | succ m0 ih =>
    intro t0 t1 t2 t3 t4 t5 t6 t7 t8 t9 t10 t11 t12 t13 t14 t15 t16 t17 t18 t19 t20 t21 t22 t23 t24 t25 H
    rw [f83_L0_step]
    simp only [ih]
    rfl
theorem f83_raw (p : Pr β) (n : Nat) (a0 a1 : AV) (H : Heap) (k : AV → Heap → Option β) : evalBody ti0 p n ⟨c83, 26, Go.Proofs.Try.f83.results.toList, o83⟩ [a0, a1] H k =
  p.len a0 fun t7 =>
  p.len a1 fun t9 =>
  p.bin .neq t7 t9 fun t10 =>
  p.cond t10
  (k (.sc (.bool false)) H)
  (p.len a0 fun t12 =>
  f83_L0 p n  k n [(0, a0), (1, a1), (2, (.sc undef)), (3, (.sc undef)), (4, (.sc (.bool false))), (5, (.sc undef)), (6, a0), (7, t7), (8, a1), (9, t9), (10, t10), (11, a0), (12, t12), (13, (.sc (.int .i64 0))), (14, (.sc undef)), (15, (.sc undef)), (16, (.sc undef)), (17, (.sc undef)), (18, (.sc undef)), (19, (.sc undef)), (20, (.sc undef)), (21, (.sc undef)), (22, (.sc undef)), (23, (.sc undef)), (24, (.sc undef)), (25, (.sc undef))] H) := by kernel_rfl
theorem f83_body (p : Pr β) (n : Nat) (a0 a1 : AV) (H : Heap) (k : AV → Heap → Option β) : evalBody ti0 p n ⟨c83, 26, Go.Proofs.Try.f83.results.toList, o83⟩ [a0, a1] H k = f83 p n a0 a1 H k := by
  rw [f83_raw]
  simp only [f83_l0_eq]
  rfl

/-! 112 slices.EqualFunc[[]loop.example/g00480/impl.Msg,[]loop.example/g00480/impl.Msg,loop.example/g00480/impl.Msg,loop.example/g00480/impl.Msg] -/
noncomputable def f112_l0 (p : Pr β) (n : Nat)  (k : AV → Heap → Option β) : Nat → AV → AV → AV → AV → AV → Heap → Option β
  | 0, _, _, _, _, _, _ => none
  | m + 1, t1, t2, t15, t16, t17, H => p.bin .lss t17 t16 fun t18 =>
      p.cond t18
      (p.iadr 4 t15 t17 fun t20 =>
      p.load true 4 t20 H fun t21 =>
      p.new [(.sc (.string ⟨#[]⟩)), .nl, (.sc (.int .i64 0)), (.sc (.bool false))] H fun t8 H =>
      p.store 4 t8 t21 H fun H =>
      p.iadr 4 t1 t17 fun t24 =>
      p.load true 4 t24 H fun t25 =>
      p.new [(.sc (.string ⟨#[]⟩)), .nl, (.sc (.int .i64 0)), (.sc (.bool false))] H fun t9 H =>
      p.store 4 t9 t25 H fun H =>
      p.load true 4 t8 H fun t27 =>
      p.load true 4 t9 H fun t28 =>
      p.call 4 t2 [t27, t28] H fun t29 H =>
      p.un .not t29 fun t30 =>
      p.cond t30
      (k (.sc (.bool false)) H)
      (p.bin .add t17 (.sc (.int .i64 1)) fun t31 =>
      f112_l0 p n  k m t1 t2 t15 t16 t31 H))
      (k (.sc (.bool true)) H)
noncomputable def f112 (p : Pr β) (n : Nat) (a0 a1 a2 : AV) (H : Heap) (k : AV → Heap → Option β) : Option β :=
  p.len a0 fun t11 =>
  p.len a1 fun t13 =>
  p.bin .neq t11 t13 fun t14 =>
  p.cond t14
  (k (.sc (.bool false)) H)
  (p.len a0 fun t16 =>
  f112_l0 p n  k n a1 a2 a0 t16 (.sc (.int .i64 0)) H)
noncomputable def f112_L0 (p : Pr β) (n : Nat)  (k : AV → Heap → Option β) (m : Nat) (tm : Tm) (H : Heap) : Option β :=
  iterC 32 (fun tm H k => evalCode ti0 p o112 32 n (cd c112 [1, 1, 0, 1, 0, 0]) tm H k) (blkK 0 (seqK (fun tm H => evalCode ti0 p o112 32 n (cd c112 [1, 1, 1]) tm H (endK ti0 p Go.Proofs.Try.f112.results.toList k)) (endK ti0 p Go.Proofs.Try.f112.results.toList k))) m tm H
theorem f112_L0_step (p : Pr β) (n : Nat)  (k : AV → Heap → Option β) (m0 : Nat) (t0 t1 t2 t3 t4 t5 t6 t7 t8 t9 t10 t11 t12 t13 t14 t15 t16 t17 t18 t19 t20 t21 t22 t23 t24 t25 t26 t27 t28 t29 t30 t31 : AV) (H : Heap) : f112_L0 p n  k (m0 + 1) [(0, t0), (1, t1), (2, t2), (3, t3), (4, t4), (5, t5), (6, t6), (7, t7), (8, t8), (9, t9), (10, t10), (11, t11), (12, t12), (13, t13), (14, t14), (15, t15), (16, t16), (17, t17), (18, t18), (19, t19), (20, t20), (21, t21), (22, t22), (23, t23), (24, t24), (25, t25), (26, t26), (27, t27), (28, t28), (29, t29), (30, t30), (31, t31)] H =
  p.bin .lss t17 t16 fun t18 =>
  p.cond t18
  (p.iadr 4 t15 t17 fun t20 =>
  p.load true 4 t20 H fun t21 =>
  p.new [(.sc (.string ⟨#[]⟩)), .nl, (.sc (.int .i64 0)), (.sc (.bool false))] H fun t8 H =>
  p.store 4 t8 t21 H fun H =>
  p.iadr 4 t1 t17 fun t24 =>
  p.load true 4 t24 H fun t25 =>
  p.new [(.sc (.string ⟨#[]⟩)), .nl, (.sc (.int .i64 0)), (.sc (.bool false))] H fun t9 H =>
  p.store 4 t9 t25 H fun H =>
  p.load true 4 t8 H fun t27 =>
  p.load true 4 t9 H fun t28 =>
  p.call 4 t2 [t27, t28] H fun t29 H =>
  p.un .not t29 fun t30 =>
  p.cond t30
  (k (.sc (.bool false)) H)
  (p.bin .add t17 (.sc (.int .i64 1)) fun t31 =>
  f112_L0 p n  k m0 [(0, t0), (1, t1), (2, t2), (3, t3), (4, t4), (5, t5), (6, t6), (7, t17), (8, t8), (9, t9), (10, t10), (11, t11), (12, t12), (13, t13), (14, t14), (15, t15), (16, t16), (17, t31), (18, t18), (19, t17), (20, t20), (21, t21), (22, t1), (23, t17), (24, t24), (25, t25), (26, t2), (27, t27), (28, t28), (29, t29), (30, t30), (31, t31)] H))
  (k (.sc (.bool true)) H) := by kernel_rfl
theorem f112_l0_eq (p : Pr β) (n : Nat)  (k : AV → Heap → Option β)   (m0 : Nat) : ∀ (t0 t1 t2 t3 t4 t5 t6 t7 t8 t9 t10 t11 t12 t13 t14 t15 t16 t17 t18 t19 t20 t21 t22 t23 t24 t25 t26 t27 t28 t29 t30 t31 : AV) (H : Heap), f112_L0 p n  k m0 [(0, t0), (1, t1), (2, t2), (3, t3), (4, t4), (5, t5), (6, t6), (7, t7), (8, t8), (9, t9), (10, t10), (11, t11), (12, t12), (13, t13), (14, t14), (15, t15), (16, t16), (17, t17), (18, t18), (19, t19), (20, t20), (21, t21), (22, t22), (23, t23), (24, t24), (25, t25), (26, t26), (27, t27), (28, t28), (29, t29), (30, t30), (31, t31)] H = f112_l0 p n  k m0 t1 t2 t15 t16 t17 H := by
  induction m0 with
  | zero => intros; rfl
  | succ m0 ih =>
    intro t0 t1 t2 t3 t4 t5 t6 t7 t8 t9 t10 t11 t12 t13 t14 t15 t16 t17 t18 t19 t20 t21 t22 t23 t24 t25 t26 t27 t28 t29 t30 t31 H
    rw [f112_L0_step]
    simp only [ih]
    rfl
theorem f112_raw (p : Pr β) (n : Nat) (a0 a1 a2 : AV) (H : Heap) (k : AV → Heap → Option β) : evalBody ti0 p n ⟨c112, 32, Go.Proofs.Try.f112.results.toList, o112⟩ [a0, a1, a2] H k =
  p.len a0 fun t11 =>
  p.len a1 fun t13 =>
  p.bin .neq t11 t13 fun t14 =>
  p.cond t14
  (k (.sc (.bool false)) H)
  (p.len a0 fun t16 =>
  f112_L0 p n  k n [(0, a0), (1, a1), (2, a2), (3, (.sc undef)), (4, (.sc undef)), (5, (.sc undef)), (6, (.sc (.bool false))), (7, (.sc undef)), (8, (.sc undef)), (9, (.sc undef)), (10, a0), (11, t11), (12, a1), (13, t13), (14, t14), (15, a0), (16, t16), (17, (.sc (.int .i64 0))), (18, (.sc undef)), (19, (.sc undef)), (20, (.sc undef)), (21, (.sc undef)), (22, (.sc undef)), (23, (.sc undef)), (24, (.sc undef)), (25, (.sc undef)), (26, (.sc undef)), (27, (.sc undef)), (28, (.sc undef)), (29, (.sc undef)), (30, (.sc undef)), (31, (.sc undef))] H) := by kernel_rfl
theorem f112_body (p : Pr β) (n : Nat) (a0 a1 a2 : AV) (H : Heap) (k : AV → Heap → Option β) : evalBody ti0 p n ⟨c112, 32, Go.Proofs.Try.f112.results.toList, o112⟩ [a0, a1, a2] H k = f112 p n a0 a1 a2 H k := by
  rw [f112_raw]
  simp only [f112_l0_eq]
  rfl

/-! 113 loop.example/g00480/impl.SameMsg -/
noncomputable def f113 (p : Pr β) (n : Nat) (a0 a1 : AV) (H : Heap) (k : AV → Heap → Option β) : Option β :=
  p.box a0 H fun t2 H =>
  p.box a1 H fun t3 H =>
  p.fadr 0 t2 fun t5 =>
  p.load false 1 t5 H fun t6 =>
  p.fadr 0 t3 fun t7 =>
  p.load false 1 t7 H fun t8 =>
  p.bin .eql t6 t8 fun t9 =>
  p.guard t9 true H (fun k' => p.fadr 1 t2 fun t' => k' t' H) fun t11 H =>
  p.guard t9 true H (fun k' => p.load false 1 t11 H fun t' => k' t' H) fun t12 H =>
  p.guard t9 true H (fun k' => p.fadr 1 t3 fun t' => k' t' H) fun t13 H =>
  p.guard t9 true H (fun k' => p.load false 1 t13 H fun t' => k' t' H) fun t14 H =>
  p.guard t9 true H (fun k' => p.call 4 (.fn 109 [] []) [t12, t14] H fun t' H => k' t' H) fun t15 H =>
  p.pick t9 t15 (.sc (.bool false)) fun t16 =>
  p.guard t16 true H (fun k' => p.fadr 2 t2 fun t' => k' t' H) fun t18 H =>
  p.guard t16 true H (fun k' => p.load false 1 t18 H fun t' => k' t' H) fun t19 H =>
  p.guard t16 true H (fun k' => p.fadr 2 t3 fun t' => k' t' H) fun t20 H =>
  p.guard t16 true H (fun k' => p.load false 1 t20 H fun t' => k' t' H) fun t21 H =>
  p.guard t16 true H (fun k' => p.bin .eql t19 t21 fun t' => k' t' H) fun t22 H =>
  p.pick t16 t22 (.sc (.bool false)) fun t23 =>
  p.guard t23 true H (fun k' => p.fadr 3 t2 fun t' => k' t' H) fun t25 H =>
  p.guard t23 true H (fun k' => p.load false 1 t25 H fun t' => k' t' H) fun t26 H =>
  p.guard t23 true H (fun k' => p.fadr 3 t3 fun t' => k' t' H) fun t27 H =>
  p.guard t23 true H (fun k' => p.load false 1 t27 H fun t' => k' t' H) fun t28 H =>
  p.guard t23 true H (fun k' => p.binB .eql t26 t28 fun t' => k' t' H) fun t29 H =>
  p.pick t23 t29 (.sc (.bool false)) fun t30 =>
  k t30 H
theorem f113_body (p : Pr β) (n : Nat) (a0 a1 : AV) (H : Heap) (k : AV → Heap → Option β) : evalBody ti0 p n ⟨c113, 31, Go.Proofs.Try.f113.results.toList, o113⟩ [a0, a1] H k = f113 p n a0 a1 H k := by kernel_rfl

/-! 85 loop.example/g00480/impl.sameMsgs -/
noncomputable def f85 (p : Pr β) (n : Nat) (a0 a1 : AV) (H : Heap) (k : AV → Heap → Option β) : Option β :=
  p.call 4 (.fn 112 [] []) [a0, a1, (.fn 113 [] [])] H fun t7 H =>
  k t7 H
theorem f85_body (p : Pr β) (n : Nat) (a0 a1 : AV) (H : Heap) (k : AV → Heap → Option β) : evalBody ti0 p n ⟨c85, 8, Go.Proofs.Try.f85.results.toList, o85⟩ [a0, a1] H k = f85 p n a0 a1 H k := by kernel_rfl
end Go.Proofs.Ytnkelipioodhjaa.Abs
