/- The program's functions as plain functions over abstract values, and that the evaluator comes to them (written by gen.py). -/
import Derived.Test.YtpcgppelelfmiaaDoorProg
import Derived.Test.YtpcgppelelfmiaaDoorAbs
import Derived.Test.YtpcgppelelfmiaaDoorExt0
import Derived.KernelRfl
set_option linter.unusedVariables false
set_option linter.unusedSimpArgs false
set_option maxRecDepth 100000
namespace Go.Proofs.YtpcgppelelfmiaaDoor.Abs
open Go
variable {β : Type}
noncomputable def tis : List (Option TI) := [none,
  none,
  none,
  some ⟨false, false, 1, 8, [(.int .i64 0)], 0, [], some .i64, false, false, [3], false⟩,
  some ⟨false, false, 1, 1, [(.bool false)], 0, [], none, false, true, [4], false⟩,
  some ⟨false, false, 1, 1, [(.int .u8 0)], 0, [], some .u8, false, false, [5], false⟩,
  none,
  none,
  none,
  some ⟨false, false, 1, 16, [(.string ⟨#[]⟩)], 0, [], none, true, false, [9], false⟩,
  none,
  none,
  none,
  none,
  none,
  none,
  none,
  none,
  none,
  none,
  none,
  none,
  some ⟨false, true, 1, 24, [(.slice none 0 0)], 5, [], none, false, false, [22], false⟩,
  none,
  some ⟨true, false, 4, 56, [(.string ⟨#[]⟩), (.slice none 0 0), (.int .i64 0), (.bool false)], 0, [(0, 9), (1, 22), (2, 3), (3, 4)], none, false, false, [9, 22, 3, 4], false⟩,
  none,
  none,
  some ⟨true, false, 4, 56, [(.string ⟨#[]⟩), (.slice none 0 0), (.int .i64 0), (.bool false)], 0, [(0, 9), (1, 22), (2, 3), (3, 4)], none, false, false, [9, 22, 3, 4], false⟩,
  none,
  none,
  none,
  some ⟨false, true, 1, 24, [(.slice none 0 0)], 24, [], none, false, false, [31], false⟩,
  none,
  none,
  some ⟨false, true, 1, 24, [(.slice none 0 0)], 27, [], none, false, false, [34], false⟩,
  none,
  none,
  none,
  some ⟨false, true, 1, 24, [(.slice none 0 0)], 114, [], none, false, false, [38], false⟩,
  none,
  some ⟨true, false, 3, 56, [(.int .i64 0), (.slice none 0 0), (.slice none 0 0)], 0, [(0, 3), (1, 38), (2, 31)], none, false, false, [3, 38, 31], false⟩,
  none,
  none,
  some ⟨false, true, 1, 24, [(.slice none 0 0)], 90, [], none, false, false, [43], false⟩,
  none,
  some ⟨true, false, 3, 56, [(.int .i64 0), (.slice none 0 0), (.slice none 0 0)], 0, [(0, 3), (1, 43), (2, 34)], none, false, false, [3, 43, 34], false⟩,
  none,
  none,
  none,
  some ⟨false, true, 1, 24, [(.slice none 0 0)], 3, [], none, false, false, [49], false⟩,
  none,
  none,
  none,
  none,
  none,
  some ⟨true, false, 9, 128, [(.string ⟨#[]⟩), (.int .i64 0), (.bool false), (.int .i64 0), (.int .i64 0), (.int .i64 0), (.slice none 0 0), (.slice none 0 0), (.slice none 0 0)], 0, [(0, 9), (1, 3), (2, 4), (3, 3), (4, 3), (5, 45), (8, 49)], none, false, false, [9, 3, 4, 3, 3, 3, 43, 34, 49], false⟩,
  none,
  none,
  none,
  none,
  none,
  none,
  none,
  none,
  none,
  none,
  none,
  none,
  none,
  none,
  none,
  none,
  none,
  none,
  none,
  none,
  none,
  none,
  none,
  none,
  none,
  none,
  none,
  none,
  none,
  none,
  none,
  none,
  none,
  none,
  some ⟨true, false, 6, 72, [(.int .i64 0), (.string ⟨#[]⟩), (.slice none 0 0), (.int .i64 0), (.bool false), (.int .i64 0)], 0, [(0, 3), (1, 27), (5, 3)], none, false, false, [3, 9, 22, 3, 4, 3], false⟩,
  none,
  none,
  none,
  none,
  none,
  none,
  none,
  none,
  none,
  none,
  none,
  none,
  none,
  none,
  none,
  none,
  none,
  none,
  some ⟨false, true, 1, 24, [(.slice none 0 0)], 9, [], none, false, false, [109], false⟩,
  none,
  none,
  none,
  none,
  some ⟨true, false, 6, 72, [(.int .i64 0), (.string ⟨#[]⟩), (.slice none 0 0), (.int .i64 0), (.bool false), (.int .i64 0)], 0, [(0, 3), (1, 24), (5, 3)], none, false, false, [3, 9, 22, 3, 4, 3], false⟩,
  none,
  none,
  none,
  none,
  none,
  none,
  none,
  none,
  some ⟨false, true, 1, 24, [(.slice none 0 0)], 22, [], none, false, false, [123], false⟩]
noncomputable def bodyOf (f : Func) : Code := match f.body with | some c => c | none => .skip
noncomputable def c52 : Code := bodyOf Go.Proofs.Tryd.f52
noncomputable def c12 : Code := bodyOf Go.Proofs.Tryd.f12
noncomputable def c17 : Code := bodyOf Go.Proofs.Tryd.f17
noncomputable def c55 : Code := bodyOf Go.Proofs.Tryd.f55
noncomputable def c14 : Code := bodyOf Go.Proofs.Tryd.f14
noncomputable def c19 : Code := bodyOf Go.Proofs.Tryd.f19
noncomputable def c82 : Code := bodyOf Go.Proofs.Tryd.f82
noncomputable def c81 : Code := bodyOf Go.Proofs.Tryd.f81
noncomputable def c54 : Code := bodyOf Go.Proofs.Tryd.f54
noncomputable def c109 : Code := bodyOf Go.Proofs.Tryd.f109
noncomputable def c104 : Code := bodyOf Go.Proofs.Tryd.f104
noncomputable def c69 : Code := bodyOf Go.Proofs.Tryd.f69
noncomputable def c94 : Code := bodyOf Go.Proofs.Tryd.f94
noncomputable def c95 : Code := bodyOf Go.Proofs.Tryd.f95
noncomputable def c53 : Code := bodyOf Go.Proofs.Tryd.f53
noncomputable def c13 : Code := bodyOf Go.Proofs.Tryd.f13
noncomputable def c18 : Code := bodyOf Go.Proofs.Tryd.f18
noncomputable def c39 : Code := bodyOf Go.Proofs.Tryd.f39
noncomputable def c105 : Code := bodyOf Go.Proofs.Tryd.f105
noncomputable def c84 : Code := bodyOf Go.Proofs.Tryd.f84
noncomputable def c83 : Code := bodyOf Go.Proofs.Tryd.f83
noncomputable def c98 : Code := bodyOf Go.Proofs.Tryd.f98
noncomputable def c56 : Code := bodyOf Go.Proofs.Tryd.f56
noncomputable def c65 : Code := bodyOf Go.Proofs.Tryd.f65
noncomputable def c57 : Code := bodyOf Go.Proofs.Tryd.f57
noncomputable def c15 : Code := bodyOf Go.Proofs.Tryd.f15
noncomputable def c59 : Code := bodyOf Go.Proofs.Tryd.f59
noncomputable def c20 : Code := bodyOf Go.Proofs.Tryd.f20
noncomputable def c40 : Code := bodyOf Go.Proofs.Tryd.f40
noncomputable def c58 : Code := bodyOf Go.Proofs.Tryd.f58
noncomputable def c16 : Code := bodyOf Go.Proofs.Tryd.f16
noncomputable def c21 : Code := bodyOf Go.Proofs.Tryd.f21
noncomputable def c85 : Code := bodyOf Go.Proofs.Tryd.f85
noncomputable def c86 : Code := bodyOf Go.Proofs.Tryd.f86
noncomputable def c41 : Code := bodyOf Go.Proofs.Tryd.f41
noncomputable def c42 : Code := bodyOf Go.Proofs.Tryd.f42
noncomputable def c87 : Code := bodyOf Go.Proofs.Tryd.f87
noncomputable def c43 : Code := bodyOf Go.Proofs.Tryd.f43
noncomputable def c9 : Code := bodyOf Go.Proofs.Tryd.f9
noncomputable def c99 : Code := bodyOf Go.Proofs.Tryd.f99
noncomputable def c60 : Code := bodyOf Go.Proofs.Tryd.f60
noncomputable def c22 : Code := bodyOf Go.Proofs.Tryd.f22
noncomputable def c100 : Code := bodyOf Go.Proofs.Tryd.f100
noncomputable def c62 : Code := bodyOf Go.Proofs.Tryd.f62
noncomputable def c24 : Code := bodyOf Go.Proofs.Tryd.f24
noncomputable def c88 : Code := bodyOf Go.Proofs.Tryd.f88
noncomputable def c61 : Code := bodyOf Go.Proofs.Tryd.f61
noncomputable def c23 : Code := bodyOf Go.Proofs.Tryd.f23
noncomputable def c44 : Code := bodyOf Go.Proofs.Tryd.f44
noncomputable def c89 : Code := bodyOf Go.Proofs.Tryd.f89
noncomputable def c63 : Code := bodyOf Go.Proofs.Tryd.f63
noncomputable def c102 : Code := bodyOf Go.Proofs.Tryd.f102
noncomputable def c101 : Code := bodyOf Go.Proofs.Tryd.f101
noncomputable def c64 : Code := bodyOf Go.Proofs.Tryd.f64
noncomputable def c66 : Code := bodyOf Go.Proofs.Tryd.f66
noncomputable def c25 : Code := bodyOf Go.Proofs.Tryd.f25
noncomputable def c45 : Code := bodyOf Go.Proofs.Tryd.f45
noncomputable def c103 : Code := bodyOf Go.Proofs.Tryd.f103
noncomputable def c67 : Code := bodyOf Go.Proofs.Tryd.f67
noncomputable def c26 : Code := bodyOf Go.Proofs.Tryd.f26
noncomputable def c90 : Code := bodyOf Go.Proofs.Tryd.f90
noncomputable def c46 : Code := bodyOf Go.Proofs.Tryd.f46
noncomputable def c91 : Code := bodyOf Go.Proofs.Tryd.f91
noncomputable def c47 : Code := bodyOf Go.Proofs.Tryd.f47
noncomputable def c10 : Code := bodyOf Go.Proofs.Tryd.f10
noncomputable def c70 : Code := bodyOf Go.Proofs.Tryd.f70
noncomputable def c30 : Code := bodyOf Go.Proofs.Tryd.f30
noncomputable def c48 : Code := bodyOf Go.Proofs.Tryd.f48
noncomputable def c72 : Code := bodyOf Go.Proofs.Tryd.f72
noncomputable def c73 : Code := bodyOf Go.Proofs.Tryd.f73
noncomputable def c74 : Code := bodyOf Go.Proofs.Tryd.f74
noncomputable def c32 : Code := bodyOf Go.Proofs.Tryd.f32
noncomputable def c49 : Code := bodyOf Go.Proofs.Tryd.f49
noncomputable def c75 : Code := bodyOf Go.Proofs.Tryd.f75
noncomputable def c33 : Code := bodyOf Go.Proofs.Tryd.f33
noncomputable def c92 : Code := bodyOf Go.Proofs.Tryd.f92
noncomputable def c50 : Code := bodyOf Go.Proofs.Tryd.f50
noncomputable def c93 : Code := bodyOf Go.Proofs.Tryd.f93
noncomputable def c51 : Code := bodyOf Go.Proofs.Tryd.f51
noncomputable def c11 : Code := bodyOf Go.Proofs.Tryd.f11
noncomputable def o52 : List (Nat × PI) := []
noncomputable def o12 : List (Nat × PI) := []
noncomputable def o17 : List (Nat × PI) := []
noncomputable def o55 : List (Nat × PI) := []
noncomputable def o14 : List (Nat × PI) := []
noncomputable def o19 : List (Nat × PI) := []
noncomputable def o82 : List (Nat × PI) := [(1, PI.of [0, 1, 3, 4, 6, 7, 8, 9, 2, 5, 10, 11])]
noncomputable def o81 : List (Nat × PI) := []
noncomputable def o54 : List (Nat × PI) := []
noncomputable def o109 : List (Nat × PI) := []
noncomputable def o104 : List (Nat × PI) := []
noncomputable def o69 : List (Nat × PI) := []
noncomputable def o94 : List (Nat × PI) := []
noncomputable def o95 : List (Nat × PI) := []
noncomputable def o53 : List (Nat × PI) := []
noncomputable def o13 : List (Nat × PI) := []
noncomputable def o18 : List (Nat × PI) := []
noncomputable def o39 : List (Nat × PI) := []
noncomputable def o105 : List (Nat × PI) := []
noncomputable def o84 : List (Nat × PI) := []
noncomputable def o83 : List (Nat × PI) := []
noncomputable def o98 : List (Nat × PI) := []
noncomputable def o56 : List (Nat × PI) := []
noncomputable def o65 : List (Nat × PI) := []
noncomputable def o57 : List (Nat × PI) := []
noncomputable def o15 : List (Nat × PI) := []
noncomputable def o59 : List (Nat × PI) := []
noncomputable def o20 : List (Nat × PI) := []
noncomputable def o40 : List (Nat × PI) := []
noncomputable def o58 : List (Nat × PI) := [(6, PI.of [0, 1, 2, 3, 4, 5, 6, 7, 8])]
noncomputable def o16 : List (Nat × PI) := []
noncomputable def o21 : List (Nat × PI) := [(6, PI.of [0, 1, 2, 3, 4, 5, 6, 7, 8, 9])]
noncomputable def o85 : List (Nat × PI) := []
noncomputable def o86 : List (Nat × PI) := []
noncomputable def o41 : List (Nat × PI) := []
noncomputable def o42 : List (Nat × PI) := []
noncomputable def o87 : List (Nat × PI) := []
noncomputable def o43 : List (Nat × PI) := [(4, PI.of [0, 1, 2, 3, 4, 5, 6, 7])]
noncomputable def o9 : List (Nat × PI) := [(8, PI.of [0, 2, 1, 3, 4, 5, 6, 7, 8, 9]), (16, PI.of [0, 1, 2, 3, 4]), (31, PI.of [0, 2, 1, 3, 4, 5, 6, 7, 8, 9])]
noncomputable def o99 : List (Nat × PI) := []
noncomputable def o60 : List (Nat × PI) := []
noncomputable def o22 : List (Nat × PI) := []
noncomputable def o100 : List (Nat × PI) := []
noncomputable def o62 : List (Nat × PI) := []
noncomputable def o24 : List (Nat × PI) := []
noncomputable def o88 : List (Nat × PI) := [(1, .one 0 (.one 1 (.one 2 (.one 3 (.two 4 (PI.of [5, 6, 7]) 6 (PI.of [4, 5, 7])))))), (5, PI.of [0, 1, 2, 3, 4, 5, 6, 7, 8, 9, 10, 11, 12, 13, 15, 16, 17, 18, 19, 20, 14, 21, 22, 23, 24, 25])]
noncomputable def o61 : List (Nat × PI) := []
noncomputable def o23 : List (Nat × PI) := [(9, PI.of [0, 1, 2, 3, 4, 5, 6, 7, 8, 9, 10, 11, 12])]
noncomputable def o44 : List (Nat × PI) := []
noncomputable def o89 : List (Nat × PI) := [(1, .one 0 (.one 1 (.one 2 (.one 3 (.two 4 (PI.of [5, 6, 7]) 6 (PI.of [4, 5, 7])))))), (5, PI.of [0, 1, 2, 3, 4, 5, 7, 8, 6, 9, 10, 11, 12, 13])]
noncomputable def o63 : List (Nat × PI) := []
noncomputable def o102 : List (Nat × PI) := []
noncomputable def o101 : List (Nat × PI) := []
noncomputable def o64 : List (Nat × PI) := []
noncomputable def o66 : List (Nat × PI) := []
noncomputable def o25 : List (Nat × PI) := []
noncomputable def o45 : List (Nat × PI) := []
noncomputable def o103 : List (Nat × PI) := []
noncomputable def o67 : List (Nat × PI) := [(6, PI.of [0, 1, 2, 3, 4, 5, 6, 7, 8, 9])]
noncomputable def o26 : List (Nat × PI) := []
noncomputable def o90 : List (Nat × PI) := []
noncomputable def o46 : List (Nat × PI) := []
noncomputable def o91 : List (Nat × PI) := [(7, PI.of [0, 1, 2, 3, 4, 5, 6, 7, 8])]
noncomputable def o47 : List (Nat × PI) := []
noncomputable def o10 : List (Nat × PI) := [(8, .one 0 (.one 2 (.two 1 (.two 3 (.two 4 (PI.of [5, 6, 7, 8, 9, 10]) 8 (PI.of [4, 5, 6, 7, 9, 10])) 8 (PI.of [3, 4, 5, 6, 7, 9, 10])) 8 (PI.of [1, 3, 4, 5, 6, 7, 9, 10])))), (14, PI.of [0, 1, 2, 3, 4]), (16, PI.of [0, 1, 2, 3, 4]), (31, .one 0 (.one 2 (.two 1 (.two 3 (.two 4 (PI.of [5, 6, 7, 8, 9, 10]) 8 (PI.of [4, 5, 6, 7, 9, 10])) 8 (PI.of [3, 4, 5, 6, 7, 9, 10])) 8 (PI.of [1, 3, 4, 5, 6, 7, 9, 10]))))]
noncomputable def o70 : List (Nat × PI) := [(4, PI.of [0, 1, 2, 3, 4, 5, 6, 7, 8, 9, 10, 11, 12, 13, 14, 15, 16, 17, 18, 19, 20, 21])]
noncomputable def o30 : List (Nat × PI) := []
noncomputable def o48 : List (Nat × PI) := []
noncomputable def o72 : List (Nat × PI) := []
noncomputable def o73 : List (Nat × PI) := []
noncomputable def o74 : List (Nat × PI) := []
noncomputable def o32 : List (Nat × PI) := []
noncomputable def o49 : List (Nat × PI) := []
noncomputable def o75 : List (Nat × PI) := [(6, PI.of [0, 1, 2, 3, 4, 5, 6, 7, 8])]
noncomputable def o33 : List (Nat × PI) := []
noncomputable def o92 : List (Nat × PI) := []
noncomputable def o50 : List (Nat × PI) := []
noncomputable def o93 : List (Nat × PI) := []
noncomputable def o51 : List (Nat × PI) := []
noncomputable def o11 : List (Nat × PI) := []
noncomputable def ti0 (t : Nat) : Option TI := (tis[t]?).getD none
noncomputable def cd : Code → List Nat → Code
  | c, [] => c
  | .seq a b, i :: p => cd (if i = 0 then a else b) p
  | .cond _ a b, i :: p => cd (if i = 1 then a else b) p
  | .block _ a, _ :: p => cd a p
  | .loop a, _ :: p => cd a p
  | c, _ => c

/-! 52 loop.example/g00480/laws.szByteS -/
noncomputable def f52 (p : Pr β) (n : Nat) (a0 a1 : AV) (H : Heap) (k : AV → Heap → Option β) : Option β :=
  p.len a0 fun t7 =>
  p.bin .sub a1 t7 fun t8 =>
  p.bin .lss t8 (.sc (.int .i64 0)) fun t10 =>
  p.cond t10
  (k (.sc (.int .i64 (-1))) H)
  (k t8 H)
theorem f52_body (p : Pr β) (n : Nat) (a0 a1 : AV) (H : Heap) (k : AV → Heap → Option β) : evalBody ti0 p n ⟨c52, 12, Go.Proofs.Tryd.f52.results.toList, o52⟩ [a0, a1] H k = f52 p n a0 a1 H k := by kernel_rfl

/-! 12 loop.example/g00480/laws.szMsg -/
noncomputable def f12 (p : Pr β) (n : Nat) (a0 a1 : AV) (H : Heap) (k : AV → Heap → Option β) : Option β :=
  p.box a0 H fun t2 H =>
  p.fadr 0 t2 fun t6 =>
  p.load false 1 t6 H fun t7 =>
  p.lenS t7 fun t8 =>
  p.bin .sub a1 t8 fun t9 =>
  p.bin .lss t9 (.sc (.int .i64 0)) fun t11 =>
  p.cond t11
  (k (.sc (.int .i64 (-1))) H)
  (p.fadr 1 t2 fun t12 =>
  p.load false 1 t12 H fun t13 =>
  p.call 3 (.fn 52 [] []) [t13, t9] H fun t15 H =>
  p.bin .lss t15 (.sc (.int .i64 0)) fun t17 =>
  p.cond t17
  (k (.sc (.int .i64 (-1))) H)
  (k t15 H))
theorem f12_body (p : Pr β) (n : Nat) (a0 a1 : AV) (H : Heap) (k : AV → Heap → Option β) : evalBody ti0 p n ⟨c12, 19, Go.Proofs.Tryd.f12.results.toList, o12⟩ [a0, a1] H k = f12 p n a0 a1 H k := by kernel_rfl

/-! 17 loop.example/g00480/laws.szMsgS -/
noncomputable def f17_l0 (p : Pr β) (n : Nat)  (k : AV → Heap → Option β) : Nat → AV → AV → AV → Heap → Option β
  | 0, _, _, _, _ => none
  | m + 1, t0, t1, t5, H => p.len t0 fun t14 =>
      p.bin .lss t5 t14 fun t15 =>
      p.cond t15
      (p.iadr 4 t0 t5 fun t20 =>
      p.load true 4 t20 H fun t21 =>
      p.call 3 (.fn 12 [] []) [t21, t1] H fun t23 H =>
      p.bin .lss t23 (.sc (.int .i64 0)) fun t25 =>
      p.cond t25
      (k (.sc (.int .i64 (-1))) H)
      (p.bin .add t5 (.sc (.int .i64 1)) fun t17 =>
      f17_l0 p n  k m t0 t23 t17 H))
      (k t1 H)
noncomputable def f17 (p : Pr β) (n : Nat) (a0 a1 : AV) (H : Heap) (k : AV → Heap → Option β) : Option β :=
  p.len a0 fun t8 =>
  p.bin .sub a1 t8 fun t9 =>
  p.bin .lss t9 (.sc (.int .i64 0)) fun t11 =>
  p.cond t11
  (k (.sc (.int .i64 (-1))) H)
  (f17_l0 p n  k n a0 t9 (.sc (.int .i64 0)) H)
noncomputable def f17_L0 (p : Pr β) (n : Nat)  (k : AV → Heap → Option β) (m : Nat) (tm : Tm) (H : Heap) : Option β :=
  iterC 27 (fun tm H k => evalCode ti0 p o17 27 n (cd c17 [1, 1, 1, 0, 1, 0, 0]) tm H k) (blkK 0 (seqK (fun tm H => evalCode ti0 p o17 27 n (cd c17 [1, 1, 1, 1]) tm H (endK ti0 p Go.Proofs.Tryd.f17.results.toList k)) (endK ti0 p Go.Proofs.Tryd.f17.results.toList k))) m tm H
theorem f17_L0_step (p : Pr β) (n : Nat)  (k : AV → Heap → Option β) (m0 : Nat) (t0 t1 t2 t3 t4 t5 t6 t7 t8 t9 t10 t11 t12 t13 t14 t15 t16 t17 t18 t19 t20 t21 t22 t23 t24 t25 t26 : AV) (H : Heap) : f17_L0 p n  k (m0 + 1) [(0, t0), (1, t1), (2, t2), (3, t3), (4, t4), (5, t5), (6, t6), (7, t7), (8, t8), (9, t9), (10, t10), (11, t11), (12, t12), (13, t13), (14, t14), (15, t15), (16, t16), (17, t17), (18, t18), (19, t19), (20, t20), (21, t21), (22, t22), (23, t23), (24, t24), (25, t25), (26, t26)] H =
  p.len t0 fun t14 =>
  p.bin .lss t5 t14 fun t15 =>
  p.cond t15
  (p.iadr 4 t0 t5 fun t20 =>
  p.load true 4 t20 H fun t21 =>
  p.call 3 (.fn 12 [] []) [t21, t1] H fun t23 H =>
  p.bin .lss t23 (.sc (.int .i64 0)) fun t25 =>
  p.cond t25
  (k (.sc (.int .i64 (-1))) H)
  (p.bin .add t5 (.sc (.int .i64 1)) fun t17 =>
  f17_L0 p n  k m0 [(0, t0), (1, t23), (2, t2), (3, t3), (4, t4), (5, t17), (6, t6), (7, t7), (8, t8), (9, t9), (10, t10), (11, t11), (12, t5), (13, t0), (14, t14), (15, t15), (16, t5), (17, t17), (18, t0), (19, t5), (20, t20), (21, t21), (22, t1), (23, t23), (24, t23), (25, t25), (26, t26)] H))
  (k t1 H) := by kernel_rfl
theorem f17_l0_eq (p : Pr β) (n : Nat)  (k : AV → Heap → Option β)   (m0 : Nat) : ∀ (t0 t1 t2 t3 t4 t5 t6 t7 t8 t9 t10 t11 t12 t13 t14 t15 t16 t17 t18 t19 t20 t21 t22 t23 t24 t25 t26 : AV) (H : Heap), f17_L0 p n  k m0 [(0, t0), (1, t1), (2, t2), (3, t3), (4, t4), (5, t5), (6, t6), (7, t7), (8, t8), (9, t9), (10, t10), (11, t11), (12, t12), (13, t13), (14, t14), (15, t15), (16, t16), (17, t17), (18, t18), (19, t19), (20, t20), (21, t21), (22, t22), (23, t23), (24, t24), (25, t25), (26, t26)] H = f17_l0 p n  k m0 t0 t1 t5 H := by
  induction m0 with
  | zero => intros; rfl
  | succ m0 ih =>
    intro t0 t1 t2 t3 t4 t5 t6 t7 t8 t9 t10 t11 t12 t13 t14 t15 t16 t17 t18 t19 t20 t21 t22 t23 t24 t25 t26 H
    rw [f17_L0_step]
    simp only [ih]
    rfl
theorem f17_raw (p : Pr β) (n : Nat) (a0 a1 : AV) (H : Heap) (k : AV → Heap → Option β) : evalBody ti0 p n ⟨c17, 27, Go.Proofs.Tryd.f17.results.toList, o17⟩ [a0, a1] H k =
  p.len a0 fun t8 =>
  p.bin .sub a1 t8 fun t9 =>
  p.bin .lss t9 (.sc (.int .i64 0)) fun t11 =>
  p.cond t11
  (k (.sc (.int .i64 (-1))) H)
  (f17_L0 p n  k n [(0, a0), (1, t9), (2, (.sc undef)), (3, (.sc undef)), (4, (.sc (.int .i64 0))), (5, (.sc (.int .i64 0))), (6, a1), (7, a0), (8, t8), (9, t9), (10, t9), (11, t11), (12, (.sc undef)), (13, (.sc undef)), (14, (.sc undef)), (15, (.sc undef)), (16, (.sc undef)), (17, (.sc undef)), (18, (.sc undef)), (19, (.sc undef)), (20, (.sc undef)), (21, (.sc undef)), (22, (.sc undef)), (23, (.sc undef)), (24, (.sc undef)), (25, (.sc undef)), (26, (.sc undef))] H) := by kernel_rfl
theorem f17_body (p : Pr β) (n : Nat) (a0 a1 : AV) (H : Heap) (k : AV → Heap → Option β) : evalBody ti0 p n ⟨c17, 27, Go.Proofs.Tryd.f17.results.toList, o17⟩ [a0, a1] H k = f17 p n a0 a1 H k := by
  rw [f17_raw]
  simp only [f17_l0_eq]
  rfl

/-! 55 loop.example/g00480/laws.toByteS -/
noncomputable def f55_l0 (p : Pr β) (n : Nat)  (k : AV → Heap → Option β) : Nat → AV → AV → AV → Heap → Option β
  | 0, _, _, _, _ => none
  | m + 1, t0, t3, t4, H => p.len t0 fun t10 =>
      p.bin .lss t4 t10 fun t11 =>
      p.cond t11
      (p.iadr 1 t0 t4 fun t18 =>
      p.load false 1 t18 H fun t19 =>
      p.iadr 1 t3 t4 fun t20 =>
      p.store 1 t20 t19 H fun H =>
      p.bin .add t4 (.sc (.int .i64 1)) fun t13 =>
      f55_l0 p n  k m t0 t3 t13 H)
      (k t3 H)
noncomputable def f55 (p : Pr β) (n : Nat) (a0 : AV) (H : Heap) (k : AV → Heap → Option β) : Option β :=
  p.len a0 fun t6 =>
  p.make 1 1 [(.sc (.int .u8 0))] t6 t6 H fun t7 H =>
  f55_l0 p n  k n a0 t7 (.sc (.int .i64 0)) H
noncomputable def f55_L0 (p : Pr β) (n : Nat)  (k : AV → Heap → Option β) (m : Nat) (tm : Tm) (H : Heap) : Option β :=
  iterC 22 (fun tm H k => evalCode ti0 p o55 22 n (cd c55 [1, 1, 0, 1, 0, 0]) tm H k) (blkK 0 (seqK (fun tm H => evalCode ti0 p o55 22 n (cd c55 [1, 1, 1]) tm H (endK ti0 p Go.Proofs.Tryd.f55.results.toList k)) (endK ti0 p Go.Proofs.Tryd.f55.results.toList k))) m tm H
theorem f55_L0_step (p : Pr β) (n : Nat)  (k : AV → Heap → Option β) (m0 : Nat) (t0 t1 t2 t3 t4 t5 t6 t7 t8 t9 t10 t11 t12 t13 t14 t15 t16 t17 t18 t19 t20 t21 : AV) (H : Heap) : f55_L0 p n  k (m0 + 1) [(0, t0), (1, t1), (2, t2), (3, t3), (4, t4), (5, t5), (6, t6), (7, t7), (8, t8), (9, t9), (10, t10), (11, t11), (12, t12), (13, t13), (14, t14), (15, t15), (16, t16), (17, t17), (18, t18), (19, t19), (20, t20), (21, t21)] H =
  p.len t0 fun t10 =>
  p.bin .lss t4 t10 fun t11 =>
  p.cond t11
  (p.iadr 1 t0 t4 fun t18 =>
  p.load false 1 t18 H fun t19 =>
  p.iadr 1 t3 t4 fun t20 =>
  p.store 1 t20 t19 H fun H =>
  p.bin .add t4 (.sc (.int .i64 1)) fun t13 =>
  f55_L0 p n  k m0 [(0, t0), (1, t1), (2, t2), (3, t3), (4, t13), (5, t5), (6, t6), (7, t7), (8, t4), (9, t0), (10, t10), (11, t11), (12, t4), (13, t13), (14, t3), (15, t4), (16, t0), (17, t4), (18, t18), (19, t19), (20, t20), (21, t21)] H)
  (k t3 H) := by kernel_rfl
theorem f55_l0_eq (p : Pr β) (n : Nat)  (k : AV → Heap → Option β)   (m0 : Nat) : ∀ (t0 t1 t2 t3 t4 t5 t6 t7 t8 t9 t10 t11 t12 t13 t14 t15 t16 t17 t18 t19 t20 t21 : AV) (H : Heap), f55_L0 p n  k m0 [(0, t0), (1, t1), (2, t2), (3, t3), (4, t4), (5, t5), (6, t6), (7, t7), (8, t8), (9, t9), (10, t10), (11, t11), (12, t12), (13, t13), (14, t14), (15, t15), (16, t16), (17, t17), (18, t18), (19, t19), (20, t20), (21, t21)] H = f55_l0 p n  k m0 t0 t3 t4 H := by
  induction m0 with
  | zero => intros; rfl
  | succ m0 ih =>
    intro t0 t1 t2 t3 t4 t5 t6 t7 t8 t9 t10 t11 t12 t13 t14 t15 t16 t17 t18 t19 t20 t21 H
    rw [f55_L0_step]
    simp only [ih]
    rfl
theorem f55_raw (p : Pr β) (n : Nat) (a0 : AV) (H : Heap) (k : AV → Heap → Option β) : evalBody ti0 p n ⟨c55, 22, Go.Proofs.Tryd.f55.results.toList, o55⟩ [a0] H k =
  p.len a0 fun t6 =>
  p.make 1 1 [(.sc (.int .u8 0))] t6 t6 H fun t7 H =>
  f55_L0 p n  k n [(0, a0), (1, (.sc undef)), (2, .nl), (3, t7), (4, (.sc (.int .i64 0))), (5, a0), (6, t6), (7, t7), (8, (.sc undef)), (9, (.sc undef)), (10, (.sc undef)), (11, (.sc undef)), (12, (.sc undef)), (13, (.sc undef)), (14, (.sc undef)), (15, (.sc undef)), (16, (.sc undef)), (17, (.sc undef)), (18, (.sc undef)), (19, (.sc undef)), (20, (.sc undef)), (21, (.sc undef))] H := by kernel_rfl
theorem f55_body (p : Pr β) (n : Nat) (a0 : AV) (H : Heap) (k : AV → Heap → Option β) : evalBody ti0 p n ⟨c55, 22, Go.Proofs.Tryd.f55.results.toList, o55⟩ [a0] H k = f55 p n a0 H k := by
  rw [f55_raw]
  simp only [f55_l0_eq]
  rfl

/-! 14 loop.example/g00480/laws.toMsg -/
noncomputable def f14 (p : Pr β) (n : Nat) (a0 : AV) (H : Heap) (k : AV → Heap → Option β) : Option β :=
  p.box a0 H fun t1 H =>
  p.new [(.sc (.string ⟨#[]⟩)), .nl, (.sc (.int .i64 0)), (.sc (.bool false))] H fun t2 H =>
  p.new [(.sc (.string ⟨#[]⟩)), .nl, (.sc (.int .i64 0)), (.sc (.bool false))] H fun t3 H =>
  p.fadr 0 t1 fun t4 =>
  p.load false 1 t4 H fun t5 =>
  p.fadr 0 t3 fun t6 =>
  p.store 1 t6 t5 H fun H =>
  p.fadr 1 t1 fun t7 =>
  p.load false 1 t7 H fun t8 =>
  p.call 22 (.fn 55 [] []) [t8] H fun t9 H =>
  p.fadr 1 t3 fun t10 =>
  p.store 1 t10 t9 H fun H =>
  p.fadr 2 t1 fun t11 =>
  p.load false 1 t11 H fun t12 =>
  p.fadr 2 t3 fun t13 =>
  p.store 1 t13 t12 H fun H =>
  p.fadr 3 t1 fun t14 =>
  p.load false 1 t14 H fun t15 =>
  p.fadr 3 t3 fun t16 =>
  p.store 1 t16 t15 H fun H =>
  p.load true 4 t3 H fun t17 =>
  p.store 4 t2 t17 H fun H =>
  p.load true 4 t2 H fun r0 =>
  k r0 H
theorem f14_body (p : Pr β) (n : Nat) (a0 : AV) (H : Heap) (k : AV → Heap → Option β) : evalBody ti0 p n ⟨c14, 18, Go.Proofs.Tryd.f14.results.toList, o14⟩ [a0] H k = f14 p n a0 H k := by kernel_rfl

/-! 19 loop.example/g00480/laws.toMsgS -/
noncomputable def f19_l0 (p : Pr β) (n : Nat)  (k : AV → Heap → Option β) : Nat → AV → AV → AV → Heap → Option β
  | 0, _, _, _, _ => none
  | m + 1, t0, t3, t4, H => p.len t0 fun t10 =>
      p.bin .lss t4 t10 fun t11 =>
      p.cond t11
      (p.iadr 4 t0 t4 fun t18 =>
      p.load true 4 t18 H fun t19 =>
      p.call 27 (.fn 14 [] []) [t19] H fun t20 H =>
      p.iadr 4 t3 t4 fun t21 =>
      p.store 4 t21 t20 H fun H =>
      p.bin .add t4 (.sc (.int .i64 1)) fun t13 =>
      f19_l0 p n  k m t0 t3 t13 H)
      (k t3 H)
noncomputable def f19 (p : Pr β) (n : Nat) (a0 : AV) (H : Heap) (k : AV → Heap → Option β) : Option β :=
  p.len a0 fun t6 =>
  p.make 4 56 [(.sc (.string ⟨#[]⟩)), .nl, (.sc (.int .i64 0)), (.sc (.bool false))] t6 t6 H fun t7 H =>
  f19_l0 p n  k n a0 t7 (.sc (.int .i64 0)) H
noncomputable def f19_L0 (p : Pr β) (n : Nat)  (k : AV → Heap → Option β) (m : Nat) (tm : Tm) (H : Heap) : Option β :=
  iterC 23 (fun tm H k => evalCode ti0 p o19 23 n (cd c19 [1, 1, 0, 1, 0, 0]) tm H k) (blkK 0 (seqK (fun tm H => evalCode ti0 p o19 23 n (cd c19 [1, 1, 1]) tm H (endK ti0 p Go.Proofs.Tryd.f19.results.toList k)) (endK ti0 p Go.Proofs.Tryd.f19.results.toList k))) m tm H
theorem f19_L0_step (p : Pr β) (n : Nat)  (k : AV → Heap → Option β) (m0 : Nat) (t0 t1 t2 t3 t4 t5 t6 t7 t8 t9 t10 t11 t12 t13 t14 t15 t16 t17 t18 t19 t20 t21 t22 : AV) (H : Heap) : f19_L0 p n  k (m0 + 1) [(0, t0), (1, t1), (2, t2), (3, t3), (4, t4), (5, t5), (6, t6), (7, t7), (8, t8), (9, t9), (10, t10), (11, t11), (12, t12), (13, t13), (14, t14), (15, t15), (16, t16), (17, t17), (18, t18), (19, t19), (20, t20), (21, t21), (22, t22)] H =
  p.len t0 fun t10 =>
  p.bin .lss t4 t10 fun t11 =>
  p.cond t11
  (p.iadr 4 t0 t4 fun t18 =>
  p.load true 4 t18 H fun t19 =>
  p.call 27 (.fn 14 [] []) [t19] H fun t20 H =>
  p.iadr 4 t3 t4 fun t21 =>
  p.store 4 t21 t20 H fun H =>
  p.bin .add t4 (.sc (.int .i64 1)) fun t13 =>
  f19_L0 p n  k m0 [(0, t0), (1, t1), (2, t2), (3, t3), (4, t13), (5, t5), (6, t6), (7, t7), (8, t4), (9, t0), (10, t10), (11, t11), (12, t4), (13, t13), (14, t3), (15, t4), (16, t0), (17, t4), (18, t18), (19, t19), (20, t20), (21, t21), (22, t22)] H)
  (k t3 H) := by kernel_rfl
theorem f19_l0_eq (p : Pr β) (n : Nat)  (k : AV → Heap → Option β)   (m0 : Nat) : ∀ (t0 t1 t2 t3 t4 t5 t6 t7 t8 t9 t10 t11 t12 t13 t14 t15 t16 t17 t18 t19 t20 t21 t22 : AV) (H : Heap), f19_L0 p n  k m0 [(0, t0), (1, t1), (2, t2), (3, t3), (4, t4), (5, t5), (6, t6), (7, t7), (8, t8), (9, t9), (10, t10), (11, t11), (12, t12), (13, t13), (14, t14), (15, t15), (16, t16), (17, t17), (18, t18), (19, t19), (20, t20), (21, t21), (22, t22)] H = f19_l0 p n  k m0 t0 t3 t4 H := by
  induction m0 with
  | zero => intros; rfl
  | succ m0 ih =>
    intro t0 t1 t2 t3 t4 t5 t6 t7 t8 t9 t10 t11 t12 t13 t14 t15 t16 t17 t18 t19 t20 t21 t22 H
    rw [f19_L0_step]
    simp only [ih]
    rfl
theorem f19_raw (p : Pr β) (n : Nat) (a0 : AV) (H : Heap) (k : AV → Heap → Option β) : evalBody ti0 p n ⟨c19, 23, Go.Proofs.Tryd.f19.results.toList, o19⟩ [a0] H k =
  p.len a0 fun t6 =>
  p.make 4 56 [(.sc (.string ⟨#[]⟩)), .nl, (.sc (.int .i64 0)), (.sc (.bool false))] t6 t6 H fun t7 H =>
  f19_L0 p n  k n [(0, a0), (1, (.sc undef)), (2, .nl), (3, t7), (4, (.sc (.int .i64 0))), (5, a0), (6, t6), (7, t7), (8, (.sc undef)), (9, (.sc undef)), (10, (.sc undef)), (11, (.sc undef)), (12, (.sc undef)), (13, (.sc undef)), (14, (.sc undef)), (15, (.sc undef)), (16, (.sc undef)), (17, (.sc undef)), (18, (.sc undef)), (19, (.sc undef)), (20, (.sc undef)), (21, (.sc undef)), (22, (.sc undef))] H := by kernel_rfl
theorem f19_body (p : Pr β) (n : Nat) (a0 : AV) (H : Heap) (k : AV → Heap → Option β) : evalBody ti0 p n ⟨c19, 23, Go.Proofs.Tryd.f19.results.toList, o19⟩ [a0] H k = f19 p n a0 H k := by
  rw [f19_raw]
  simp only [f19_l0_eq]
  rfl

/-! 82 loop.example/g00480/spec.l12Msg -/
noncomputable def f82 (p : Pr β) (n : Nat) (a0 : AV) (H : Heap) (k : AV → Heap → Option β) : Option β :=
  p.box a0 H fun t1 H =>
  p.new [(.sc (.string ⟨#[]⟩)), .nl, (.sc (.int .i64 0)), (.sc (.bool false))] H fun t2 H =>
  p.fadr 0 t1 fun t3 =>
  p.load false 1 t3 H fun t4 =>
  p.fadr 1 t1 fun t6 =>
  p.load false 1 t6 H fun t7 =>
  p.fadr 2 t1 fun t9 =>
  p.load false 1 t9 H fun t10 =>
  p.fadr 3 t1 fun t11 =>
  p.load false 1 t11 H fun t12 =>
  p.app 1 1 .nl t7 H fun t8 H =>
  p.fill [(.sc (.string ⟨#[]⟩)), .nl, (.sc (.int .i64 0)), (.sc (.bool false))] [(0, 1, t4), (1, 1, t8), (2, 1, t10), (3, 1, t12)] fun ct13 =>
  p.store 4 t2 (.agg ct13) H fun H =>
  p.load true 4 t2 H fun r0 =>
  k r0 H
theorem f82_body (p : Pr β) (n : Nat) (a0 : AV) (H : Heap) (k : AV → Heap → Option β) : evalBody ti0 p n ⟨c82, 14, Go.Proofs.Tryd.f82.results.toList, o82⟩ [a0] H k = f82 p n a0 H k := by kernel_rfl

/-! 81 loop.example/g00480/spec.l12Copy -/
noncomputable def f81_l0 (p : Pr β) (n : Nat)  (k : AV → Heap → Option β) : Nat → AV → AV → AV → Heap → Option β
  | 0, _, _, _, _ => none
  | m + 1, t0, t3, t4, H => p.len t0 fun t8 =>
      p.bin .lss t4 t8 fun t9 =>
      p.cond t9
      (p.iadr 4 t0 t4 fun t15 =>
      p.load true 4 t15 H fun t16 =>
      p.call 27 (.fn 82 [] []) [t16] H fun t17 H =>
      p.fill [(.sc (.string ⟨#[]⟩)), .nl, (.sc (.int .i64 0)), (.sc (.bool false))] [(0, 4, t17)] fun ct18 => p.newSl 1 4 ct18 true H fun t18 H =>
      p.app 4 56 t3 t18 H fun t19 H =>
      p.bin .add t4 (.sc (.int .i64 1)) fun t11 =>
      f81_l0 p n  k m t0 t19 t11 H)
      (k t3 H)
noncomputable def f81 (p : Pr β) (n : Nat) (a0 : AV) (H : Heap) (k : AV → Heap → Option β) : Option β :=
  f81_l0 p n  k n a0 .nl (.sc (.int .i64 0)) H
noncomputable def f81_L0 (p : Pr β) (n : Nat)  (k : AV → Heap → Option β) (m : Nat) (tm : Tm) (H : Heap) : Option β :=
  iterC 21 (fun tm H k => evalCode ti0 p o81 21 n (cd c81 [1, 1, 0, 1, 0, 0]) tm H k) (blkK 0 (seqK (fun tm H => evalCode ti0 p o81 21 n (cd c81 [1, 1, 1]) tm H (endK ti0 p Go.Proofs.Tryd.f81.results.toList k)) (endK ti0 p Go.Proofs.Tryd.f81.results.toList k))) m tm H
theorem f81_L0_step (p : Pr β) (n : Nat)  (k : AV → Heap → Option β) (m0 : Nat) (t0 t1 t2 t3 t4 t5 t6 t7 t8 t9 t10 t11 t12 t13 t14 t15 t16 t17 t18 t19 t20 : AV) (H : Heap) : f81_L0 p n  k (m0 + 1) [(0, t0), (1, t1), (2, t2), (3, t3), (4, t4), (5, t5), (6, t6), (7, t7), (8, t8), (9, t9), (10, t10), (11, t11), (12, t12), (13, t13), (14, t14), (15, t15), (16, t16), (17, t17), (18, t18), (19, t19), (20, t20)] H =
  p.len t0 fun t8 =>
  p.bin .lss t4 t8 fun t9 =>
  p.cond t9
  (p.iadr 4 t0 t4 fun t15 =>
  p.load true 4 t15 H fun t16 =>
  p.call 27 (.fn 82 [] []) [t16] H fun t17 H =>
  p.fill [(.sc (.string ⟨#[]⟩)), .nl, (.sc (.int .i64 0)), (.sc (.bool false))] [(0, 4, t17)] fun ct18 => p.newSl 1 4 ct18 true H fun t18 H =>
  p.app 4 56 t3 t18 H fun t19 H =>
  p.bin .add t4 (.sc (.int .i64 1)) fun t11 =>
  f81_L0 p n  k m0 [(0, t0), (1, t1), (2, t2), (3, t19), (4, t11), (5, t5), (6, t4), (7, t0), (8, t8), (9, t9), (10, t4), (11, t11), (12, t3), (13, t0), (14, t4), (15, t15), (16, t16), (17, t17), (18, t18), (19, t19), (20, t20)] H)
  (k t3 H) := by kernel_rfl
theorem f81_l0_eq (p : Pr β) (n : Nat)  (k : AV → Heap → Option β)   (m0 : Nat) : ∀ (t0 t1 t2 t3 t4 t5 t6 t7 t8 t9 t10 t11 t12 t13 t14 t15 t16 t17 t18 t19 t20 : AV) (H : Heap), f81_L0 p n  k m0 [(0, t0), (1, t1), (2, t2), (3, t3), (4, t4), (5, t5), (6, t6), (7, t7), (8, t8), (9, t9), (10, t10), (11, t11), (12, t12), (13, t13), (14, t14), (15, t15), (16, t16), (17, t17), (18, t18), (19, t19), (20, t20)] H = f81_l0 p n  k m0 t0 t3 t4 H := by
  induction m0 with
  | zero => intros; rfl
  | succ m0 ih =>
    intro t0 t1 t2 t3 t4 t5 t6 t7 t8 t9 t10 t11 t12 t13 t14 t15 t16 t17 t18 t19 t20 H
    rw [f81_L0_step]
    simp only [ih]
    rfl
theorem f81_raw (p : Pr β) (n : Nat) (a0 : AV) (H : Heap) (k : AV → Heap → Option β) : evalBody ti0 p n ⟨c81, 21, Go.Proofs.Tryd.f81.results.toList, o81⟩ [a0] H k =
  f81_L0 p n  k n [(0, a0), (1, (.sc undef)), (2, .nl), (3, .nl), (4, (.sc (.int .i64 0))), (5, .nl), (6, (.sc undef)), (7, (.sc undef)), (8, (.sc undef)), (9, (.sc undef)), (10, (.sc undef)), (11, (.sc undef)), (12, (.sc undef)), (13, (.sc undef)), (14, (.sc undef)), (15, (.sc undef)), (16, (.sc undef)), (17, (.sc undef)), (18, (.sc undef)), (19, (.sc undef)), (20, (.sc undef))] H := by kernel_rfl
theorem f81_body (p : Pr β) (n : Nat) (a0 : AV) (H : Heap) (k : AV → Heap → Option β) : evalBody ti0 p n ⟨c81, 21, Go.Proofs.Tryd.f81.results.toList, o81⟩ [a0] H k = f81 p n a0 H k := by
  rw [f81_raw]
  simp only [f81_l0_eq]
  rfl

/-! 54 loop.example/g00480/spec.l1In -/
noncomputable def f54 (p : Pr β) (n : Nat) (a0 a1 a2 : AV) (H : Heap) (k : AV → Heap → Option β) : Option β :=
  p.bin .geq a0 a1 fun t9 =>
  p.guard t9 true H (fun k' => k' a0 H) fun t11 H =>
  p.guard t9 true H (fun k' => k' a2 H) fun t12 H =>
  p.guard t9 true H (fun k' => p.bin .leq t11 t12 fun t' => k' t' H) fun t13 H =>
  p.pick t9 t13 (.sc (.bool false)) fun t14 =>
  k t14 H
theorem f54_body (p : Pr β) (n : Nat) (a0 a1 a2 : AV) (H : Heap) (k : AV → Heap → Option β) : evalBody ti0 p n ⟨c54, 15, Go.Proofs.Tryd.f54.results.toList, o54⟩ [a0, a1, a2] H k = f54 p n a0 a1 a2 H k := by kernel_rfl

/-! 109 loop.example/g00480/spec.RuneAt -/
noncomputable def f109_l0 (p : Pr β) (n : Nat)  (k : AV → Heap → Option β) : Nat → AV → AV → AV → AV → AV → AV → Heap → Option β
  | 0, _, _, _, _, _, _, _ => none
  | m + 1, t0, t1, t8, t9, t10, t11, H => p.bin .leq t11 t8 fun t67 =>
      p.cond t67
      (p.bin .add t1 t11 fun t73 =>
      p.iadr 1 t0 t73 fun t74 =>
      p.load false 1 t74 H fun t75 =>
      p.cvI .i64 t75 fun t76 =>
      p.bin .lss t76 (.sc (.int .i64 128)) fun t78 =>
      p.guard t78 false H (fun k' => k' t76 H) fun t80 H =>
      p.guard t78 false H (fun k' => p.bin .gtr t80 (.sc (.int .i64 191)) fun t' => k' t' H) fun t81 H =>
      p.pick t78 (.sc (.bool true)) t81 fun t82 =>
      p.cond t82
      (k (packA [(.sc (.int .i64 0)), (.sc (.int .i64 0)), (.sc (.bool false))]) H)
      (p.bin .mul t10 (.sc (.int .i64 64)) fun t84 =>
      p.bin .add t84 t76 fun t86 =>
      p.bin .sub t86 (.sc (.int .i64 128)) fun t87 =>
      p.bin .add t11 (.sc (.int .i64 1)) fun t69 =>
      f109_l0 p n  k m t0 t1 t8 t9 t87 t69 H))
      (p.bin .lss t10 t9 fun t90 =>
      p.guard t90 false H (fun k' => k' t10 H) fun t92 H =>
      p.guard t90 false H (fun k' => p.bin .gtr t92 (.sc (.int .i64 1114111)) fun t' => k' t' H) fun t93 H =>
      p.pick t90 (.sc (.bool true)) t93 fun t94 =>
      p.guard t94 false H (fun k' => k' t10 H) fun t96 H =>
      p.guard t94 false H (fun k' => p.call 4 (.fn 54 [] []) [t96, (.sc (.int .i64 55296)), (.sc (.int .i64 57343))] H fun t' H => k' t' H) fun t97 H =>
      p.pick t94 (.sc (.bool true)) t97 fun t98 =>
      p.cond t98
      (k (packA [(.sc (.int .i64 0)), (.sc (.int .i64 0)), (.sc (.bool false))]) H)
      (p.bin .add t1 (.sc (.int .i64 1)) fun t101 =>
      p.bin .add t101 t8 fun t103 =>
      k (packA [t10, t103, (.sc (.bool true))]) H))
noncomputable def f109 (p : Pr β) (n : Nat) (a0 a1 : AV) (H : Heap) (k : AV → Heap → Option β) : Option β :=
  p.bin .lss a1 (.sc (.int .i64 0)) fun t14 =>
  p.guard t14 false H (fun k' => k' a1 H) fun t16 H =>
  p.guard t14 false H (fun k' => k' a0 H) fun t17 H =>
  p.guard t14 false H (fun k' => p.len t17 fun t' => k' t' H) fun t18 H =>
  p.guard t14 false H (fun k' => p.bin .geq t16 t18 fun t' => k' t' H) fun t19 H =>
  p.pick t14 (.sc (.bool true)) t19 fun t20 =>
  p.cond t20
  (k (packA [(.sc (.int .i64 0)), (.sc (.int .i64 0)), (.sc (.bool false))]) H)
  (p.iadr 1 a0 a1 fun t23 =>
  p.load false 1 t23 H fun t24 =>
  p.cvI .i64 t24 fun t25 =>
  p.bin .lss t25 (.sc (.int .i64 128)) fun t27 =>
  p.cond t27
  (p.bin .add a1 (.sc (.int .i64 1)) fun t30 =>
  k (packA [t25, t30, (.sc (.bool true))]) H)
  (p.bin .geq t25 (.sc (.int .i64 192)) fun t33 =>
  p.guard t33 true H (fun k' => k' t25 H) fun t35 H =>
  p.guard t33 true H (fun k' => p.bin .lss t35 (.sc (.int .i64 224)) fun t' => k' t' H) fun t36 H =>
  p.pick t33 t36 (.sc (.bool false)) fun t37 =>
  p.cond t37
  (p.bin .and t25 (.sc (.int .i64 31)) fun t39 =>
  p.len a0 fun t60 =>
  p.bin .sub t60 (.sc (.int .i64 1)) fun t61 =>
  p.bin .sub t61 (.sc (.int .i64 1)) fun t63 =>
  p.bin .gtr a1 t63 fun t64 =>
  p.cond t64
  (k (packA [(.sc (.int .i64 0)), (.sc (.int .i64 0)), (.sc (.bool false))]) H)
  (f109_l0 p n  k n a0 a1 (.sc (.int .i64 1)) (.sc (.int .i64 128)) t39 (.sc (.int .i64 1)) H))
  (p.bin .geq t25 (.sc (.int .i64 224)) fun t42 =>
  p.guard t42 true H (fun k' => k' t25 H) fun t44 H =>
  p.guard t42 true H (fun k' => p.bin .lss t44 (.sc (.int .i64 240)) fun t' => k' t' H) fun t45 H =>
  p.pick t42 t45 (.sc (.bool false)) fun t46 =>
  p.cond t46
  (p.bin .and t25 (.sc (.int .i64 15)) fun t48 =>
  p.len a0 fun t60 =>
  p.bin .sub t60 (.sc (.int .i64 1)) fun t61 =>
  p.bin .sub t61 (.sc (.int .i64 2)) fun t63 =>
  p.bin .gtr a1 t63 fun t64 =>
  p.cond t64
  (k (packA [(.sc (.int .i64 0)), (.sc (.int .i64 0)), (.sc (.bool false))]) H)
  (f109_l0 p n  k n a0 a1 (.sc (.int .i64 2)) (.sc (.int .i64 2048)) t48 (.sc (.int .i64 1)) H))
  (p.bin .geq t25 (.sc (.int .i64 240)) fun t51 =>
  p.guard t51 true H (fun k' => k' t25 H) fun t53 H =>
  p.guard t51 true H (fun k' => p.bin .lss t53 (.sc (.int .i64 248)) fun t' => k' t' H) fun t54 H =>
  p.pick t51 t54 (.sc (.bool false)) fun t55 =>
  p.cond t55
  (p.bin .and t25 (.sc (.int .i64 7)) fun t57 =>
  p.len a0 fun t60 =>
  p.bin .sub t60 (.sc (.int .i64 1)) fun t61 =>
  p.bin .sub t61 (.sc (.int .i64 3)) fun t63 =>
  p.bin .gtr a1 t63 fun t64 =>
  p.cond t64
  (k (packA [(.sc (.int .i64 0)), (.sc (.int .i64 0)), (.sc (.bool false))]) H)
  (f109_l0 p n  k n a0 a1 (.sc (.int .i64 3)) (.sc (.int .i64 65536)) t57 (.sc (.int .i64 1)) H))
  (k (packA [(.sc (.int .i64 0)), (.sc (.int .i64 0)), (.sc (.bool false))]) H)))))
noncomputable def f109_L0 (p : Pr β) (n : Nat)  (k : AV → Heap → Option β) (m : Nat) (tm : Tm) (H : Heap) : Option β :=
  iterC 104 (fun tm H k => evalCode ti0 p o109 104 n (cd c109 [1, 1, 1, 1, 1, 1, 1, 1, 1, 0, 1, 0, 0]) tm H k) (blkK 1 (seqK (fun tm H => evalCode ti0 p o109 104 n (cd c109 [1, 1, 1, 1, 1, 1, 1, 1, 1, 1]) tm H (endK ti0 p Go.Proofs.Tryd.f109.results.toList k)) (endK ti0 p Go.Proofs.Tryd.f109.results.toList k))) m tm H
theorem f109_L0_step (p : Pr β) (n : Nat)  (k : AV → Heap → Option β) (m0 : Nat) (t0 t1 t2 t3 t4 t5 t6 t7 t8 t9 t10 t11 t12 t13 t14 t15 t16 t17 t18 t19 t20 t21 t22 t23 t24 t25 t26 t27 t28 t29 t30 t31 t32 t33 t34 t35 t36 t37 t38 t39 t40 t41 t42 t43 t44 t45 t46 t47 t48 t49 t50 t51 t52 t53 t54 t55 t56 t57 t58 t59 t60 t61 t62 t63 t64 t65 t66 t67 t68 t69 t70 t71 t72 t73 t74 t75 t76 t77 t78 t79 t80 t81 t82 t83 t84 t85 t86 t87 t88 t89 t90 t91 t92 t93 t94 t95 t96 t97 t98 t99 t100 t101 t102 t103 : AV) (H : Heap) : f109_L0 p n  k (m0 + 1) [(0, t0), (1, t1), (2, t2), (3, t3), (4, t4), (5, t5), (6, t6), (7, t7), (8, t8), (9, t9), (10, t10), (11, t11), (12, t12), (13, t13), (14, t14), (15, t15), (16, t16), (17, t17), (18, t18), (19, t19), (20, t20), (21, t21), (22, t22), (23, t23), (24, t24), (25, t25), (26, t26), (27, t27), (28, t28), (29, t29), (30, t30), (31, t31), (32, t32), (33, t33), (34, t34), (35, t35), (36, t36), (37, t37), (38, t38), (39, t39), (40, t40), (41, t41), (42, t42), (43, t43), (44, t44), (45, t45), (46, t46), (47, t47), (48, t48), (49, t49), (50, t50), (51, t51), (52, t52), (53, t53), (54, t54), (55, t55), (56, t56), (57, t57), (58, t58), (59, t59), (60, t60), (61, t61), (62, t62), (63, t63), (64, t64), (65, t65), (66, t66), (67, t67), (68, t68), (69, t69), (70, t70), (71, t71), (72, t72), (73, t73), (74, t74), (75, t75), (76, t76), (77, t77), (78, t78), (79, t79), (80, t80), (81, t81), (82, t82), (83, t83), (84, t84), (85, t85), (86, t86), (87, t87), (88, t88), (89, t89), (90, t90), (91, t91), (92, t92), (93, t93), (94, t94), (95, t95), (96, t96), (97, t97), (98, t98), (99, t99), (100, t100), (101, t101), (102, t102), (103, t103)] H =
  p.bin .leq t11 t8 fun t67 =>
  p.cond t67
  (p.bin .add t1 t11 fun t73 =>
  p.iadr 1 t0 t73 fun t74 =>
  p.load false 1 t74 H fun t75 =>
  p.cvI .i64 t75 fun t76 =>
  p.bin .lss t76 (.sc (.int .i64 128)) fun t78 =>
  p.guard t78 false H (fun k' => k' t76 H) fun t80 H =>
  p.guard t78 false H (fun k' => p.bin .gtr t80 (.sc (.int .i64 191)) fun t' => k' t' H) fun t81 H =>
  p.pick t78 (.sc (.bool true)) t81 fun t82 =>
  p.cond t82
  (k (packA [(.sc (.int .i64 0)), (.sc (.int .i64 0)), (.sc (.bool false))]) H)
  (p.bin .mul t10 (.sc (.int .i64 64)) fun t84 =>
  p.bin .add t84 t76 fun t86 =>
  p.bin .sub t86 (.sc (.int .i64 128)) fun t87 =>
  p.bin .add t11 (.sc (.int .i64 1)) fun t69 =>
  f109_L0 p n  k m0 [(0, t0), (1, t1), (2, t2), (3, t3), (4, t4), (5, t5), (6, t6), (7, t7), (8, t8), (9, t9), (10, t87), (11, t69), (12, t76), (13, t13), (14, t14), (15, t15), (16, t16), (17, t17), (18, t18), (19, t19), (20, t20), (21, t21), (22, t22), (23, t23), (24, t24), (25, t25), (26, t26), (27, t27), (28, t28), (29, t29), (30, t30), (31, t31), (32, t32), (33, t33), (34, t34), (35, t35), (36, t36), (37, t37), (38, t38), (39, t39), (40, t40), (41, t41), (42, t42), (43, t43), (44, t44), (45, t45), (46, t46), (47, t47), (48, t48), (49, t49), (50, t50), (51, t51), (52, t52), (53, t53), (54, t54), (55, t55), (56, t56), (57, t57), (58, t58), (59, t59), (60, t60), (61, t61), (62, t62), (63, t63), (64, t64), (65, t11), (66, t8), (67, t67), (68, t11), (69, t69), (70, t0), (71, t1), (72, t11), (73, t73), (74, t74), (75, t75), (76, t76), (77, t76), (78, t78), (79, t78), (80, t80), (81, t81), (82, t82), (83, t10), (84, t84), (85, t76), (86, t86), (87, t87), (88, t88), (89, t89), (90, t90), (91, t91), (92, t92), (93, t93), (94, t94), (95, t95), (96, t96), (97, t97), (98, t98), (99, t99), (100, t100), (101, t101), (102, t102), (103, t103)] H))
  (p.bin .lss t10 t9 fun t90 =>
  p.guard t90 false H (fun k' => k' t10 H) fun t92 H =>
  p.guard t90 false H (fun k' => p.bin .gtr t92 (.sc (.int .i64 1114111)) fun t' => k' t' H) fun t93 H =>
  p.pick t90 (.sc (.bool true)) t93 fun t94 =>
  p.guard t94 false H (fun k' => k' t10 H) fun t96 H =>
  p.guard t94 false H (fun k' => p.call 4 (.fn 54 [] []) [t96, (.sc (.int .i64 55296)), (.sc (.int .i64 57343))] H fun t' H => k' t' H) fun t97 H =>
  p.pick t94 (.sc (.bool true)) t97 fun t98 =>
  p.cond t98
  (k (packA [(.sc (.int .i64 0)), (.sc (.int .i64 0)), (.sc (.bool false))]) H)
  (p.bin .add t1 (.sc (.int .i64 1)) fun t101 =>
  p.bin .add t101 t8 fun t103 =>
  k (packA [t10, t103, (.sc (.bool true))]) H)) := by kernel_rfl
theorem f109_l0_eq (p : Pr β) (n : Nat)  (k : AV → Heap → Option β)   (m0 : Nat) : ∀ (t0 t1 t2 t3 t4 t5 t6 t7 t8 t9 t10 t11 t12 t13 t14 t15 t16 t17 t18 t19 t20 t21 t22 t23 t24 t25 t26 t27 t28 t29 t30 t31 t32 t33 t34 t35 t36 t37 t38 t39 t40 t41 t42 t43 t44 t45 t46 t47 t48 t49 t50 t51 t52 t53 t54 t55 t56 t57 t58 t59 t60 t61 t62 t63 t64 t65 t66 t67 t68 t69 t70 t71 t72 t73 t74 t75 t76 t77 t78 t79 t80 t81 t82 t83 t84 t85 t86 t87 t88 t89 t90 t91 t92 t93 t94 t95 t96 t97 t98 t99 t100 t101 t102 t103 : AV) (H : Heap), f109_L0 p n  k m0 [(0, t0), (1, t1), (2, t2), (3, t3), (4, t4), (5, t5), (6, t6), (7, t7), (8, t8), (9, t9), (10, t10), (11, t11), (12, t12), (13, t13), (14, t14), (15, t15), (16, t16), (17, t17), (18, t18), (19, t19), (20, t20), (21, t21), (22, t22), (23, t23), (24, t24), (25, t25), (26, t26), (27, t27), (28, t28), (29, t29), (30, t30), (31, t31), (32, t32), (33, t33), (34, t34), (35, t35), (36, t36), (37, t37), (38, t38), (39, t39), (40, t40), (41, t41), (42, t42), (43, t43), (44, t44), (45, t45), (46, t46), (47, t47), (48, t48), (49, t49), (50, t50), (51, t51), (52, t52), (53, t53), (54, t54), (55, t55), (56, t56), (57, t57), (58, t58), (59, t59), (60, t60), (61, t61), (62, t62), (63, t63), (64, t64), (65, t65), (66, t66), (67, t67), (68, t68), (69, t69), (70, t70), (71, t71), (72, t72), (73, t73), (74, t74), (75, t75), (76, t76), (77, t77), (78, t78), (79, t79), (80, t80), (81, t81), (82, t82), (83, t83), (84, t84), (85, t85), (86, t86), (87, t87), (88, t88), (89, t89), (90, t90), (91, t91), (92, t92), (93, t93), (94, t94), (95, t95), (96, t96), (97, t97), (98, t98), (99, t99), (100, t100), (101, t101), (102, t102), (103, t103)] H = f109_l0 p n  k m0 t0 t1 t8 t9 t10 t11 H := by
  induction m0 with
  | zero => intros; rfl
  | succ m0 ih =>
    intro t0 t1 t2 t3 t4 t5 t6 t7 t8 t9 t10 t11 t12 t13 t14 t15 t16 t17 t18 t19 t20 t21 t22 t23 t24 t25 t26 t27 t28 t29 t30 t31 t32 t33 t34 t35 t36 t37 t38 t39 t40 t41 t42 t43 t44 t45 t46 t47 t48 t49 t50 t51 t52 t53 t54 t55 t56 t57 t58 t59 t60 t61 t62 t63 t64 t65 t66 t67 t68 t69 t70 t71 t72 t73 t74 t75 t76 t77 t78 t79 t80 t81 t82 t83 t84 t85 t86 t87 t88 t89 t90 t91 t92 t93 t94 t95 t96 t97 t98 t99 t100 t101 t102 t103 H
    rw [f109_L0_step]
    simp only [ih]
    rfl
theorem f109_raw (p : Pr β) (n : Nat) (a0 a1 : AV) (H : Heap) (k : AV → Heap → Option β) : evalBody ti0 p n ⟨c109, 104, Go.Proofs.Tryd.f109.results.toList, o109⟩ [a0, a1] H k =
  p.bin .lss a1 (.sc (.int .i64 0)) fun t14 =>
  p.guard t14 false H (fun k' => k' a1 H) fun t16 H =>
  p.guard t14 false H (fun k' => k' a0 H) fun t17 H =>
  p.guard t14 false H (fun k' => p.len t17 fun t' => k' t' H) fun t18 H =>
  p.guard t14 false H (fun k' => p.bin .geq t16 t18 fun t' => k' t' H) fun t19 H =>
  p.pick t14 (.sc (.bool true)) t19 fun t20 =>
  p.cond t20
  (k (packA [(.sc (.int .i64 0)), (.sc (.int .i64 0)), (.sc (.bool false))]) H)
  (p.iadr 1 a0 a1 fun t23 =>
  p.load false 1 t23 H fun t24 =>
  p.cvI .i64 t24 fun t25 =>
  p.bin .lss t25 (.sc (.int .i64 128)) fun t27 =>
  p.cond t27
  (p.bin .add a1 (.sc (.int .i64 1)) fun t30 =>
  k (packA [t25, t30, (.sc (.bool true))]) H)
  (p.bin .geq t25 (.sc (.int .i64 192)) fun t33 =>
  p.guard t33 true H (fun k' => k' t25 H) fun t35 H =>
  p.guard t33 true H (fun k' => p.bin .lss t35 (.sc (.int .i64 224)) fun t' => k' t' H) fun t36 H =>
  p.pick t33 t36 (.sc (.bool false)) fun t37 =>
  p.cond t37
  (p.bin .and t25 (.sc (.int .i64 31)) fun t39 =>
  p.len a0 fun t60 =>
  p.bin .sub t60 (.sc (.int .i64 1)) fun t61 =>
  p.bin .sub t61 (.sc (.int .i64 1)) fun t63 =>
  p.bin .gtr a1 t63 fun t64 =>
  p.cond t64
  (k (packA [(.sc (.int .i64 0)), (.sc (.int .i64 0)), (.sc (.bool false))]) H)
  (f109_L0 p n  k n [(0, a0), (1, a1), (2, (.sc undef)), (3, (.sc undef)), (4, (.sc (.int .i64 0))), (5, (.sc (.int .i64 0))), (6, (.sc (.bool false))), (7, t25), (8, (.sc (.int .i64 1))), (9, (.sc (.int .i64 128))), (10, t39), (11, (.sc (.int .i64 1))), (12, (.sc undef)), (13, a1), (14, t14), (15, t14), (16, t16), (17, t17), (18, t18), (19, t19), (20, t20), (21, a0), (22, a1), (23, t23), (24, t24), (25, t25), (26, t25), (27, t27), (28, (.sc undef)), (29, (.sc undef)), (30, (.sc undef)), (31, t37), (32, t25), (33, t33), (34, t33), (35, t35), (36, t36), (37, t37), (38, t25), (39, t39), (40, (.sc undef)), (41, (.sc undef)), (42, (.sc undef)), (43, (.sc undef)), (44, (.sc undef)), (45, (.sc undef)), (46, (.sc undef)), (47, (.sc undef)), (48, (.sc undef)), (49, (.sc undef)), (50, (.sc undef)), (51, (.sc undef)), (52, (.sc undef)), (53, (.sc undef)), (54, (.sc undef)), (55, (.sc undef)), (56, (.sc undef)), (57, (.sc undef)), (58, a1), (59, a0), (60, t60), (61, t61), (62, (.sc (.int .i64 1))), (63, t63), (64, t64), (65, (.sc undef)), (66, (.sc undef)), (67, (.sc undef)), (68, (.sc undef)), (69, (.sc undef)), (70, (.sc undef)), (71, (.sc undef)), (72, (.sc undef)), (73, (.sc undef)), (74, (.sc undef)), (75, (.sc undef)), (76, (.sc undef)), (77, (.sc undef)), (78, (.sc undef)), (79, (.sc undef)), (80, (.sc undef)), (81, (.sc undef)), (82, (.sc undef)), (83, (.sc undef)), (84, (.sc undef)), (85, (.sc undef)), (86, (.sc undef)), (87, (.sc undef)), (88, (.sc undef)), (89, (.sc undef)), (90, (.sc undef)), (91, (.sc undef)), (92, (.sc undef)), (93, (.sc undef)), (94, (.sc undef)), (95, (.sc undef)), (96, (.sc undef)), (97, (.sc undef)), (98, (.sc undef)), (99, (.sc undef)), (100, (.sc undef)), (101, (.sc undef)), (102, (.sc undef)), (103, (.sc undef))] H))
  (p.bin .geq t25 (.sc (.int .i64 224)) fun t42 =>
  p.guard t42 true H (fun k' => k' t25 H) fun t44 H =>
  p.guard t42 true H (fun k' => p.bin .lss t44 (.sc (.int .i64 240)) fun t' => k' t' H) fun t45 H =>
  p.pick t42 t45 (.sc (.bool false)) fun t46 =>
  p.cond t46
  (p.bin .and t25 (.sc (.int .i64 15)) fun t48 =>
  p.len a0 fun t60 =>
  p.bin .sub t60 (.sc (.int .i64 1)) fun t61 =>
  p.bin .sub t61 (.sc (.int .i64 2)) fun t63 =>
  p.bin .gtr a1 t63 fun t64 =>
  p.cond t64
  (k (packA [(.sc (.int .i64 0)), (.sc (.int .i64 0)), (.sc (.bool false))]) H)
  (f109_L0 p n  k n [(0, a0), (1, a1), (2, (.sc undef)), (3, (.sc undef)), (4, (.sc (.int .i64 0))), (5, (.sc (.int .i64 0))), (6, (.sc (.bool false))), (7, t25), (8, (.sc (.int .i64 2))), (9, (.sc (.int .i64 2048))), (10, t48), (11, (.sc (.int .i64 1))), (12, (.sc undef)), (13, a1), (14, t14), (15, t14), (16, t16), (17, t17), (18, t18), (19, t19), (20, t20), (21, a0), (22, a1), (23, t23), (24, t24), (25, t25), (26, t25), (27, t27), (28, (.sc undef)), (29, (.sc undef)), (30, (.sc undef)), (31, t37), (32, t25), (33, t33), (34, t33), (35, t35), (36, t36), (37, t37), (38, (.sc undef)), (39, (.sc undef)), (40, t46), (41, t25), (42, t42), (43, t42), (44, t44), (45, t45), (46, t46), (47, t25), (48, t48), (49, (.sc undef)), (50, (.sc undef)), (51, (.sc undef)), (52, (.sc undef)), (53, (.sc undef)), (54, (.sc undef)), (55, (.sc undef)), (56, (.sc undef)), (57, (.sc undef)), (58, a1), (59, a0), (60, t60), (61, t61), (62, (.sc (.int .i64 2))), (63, t63), (64, t64), (65, (.sc undef)), (66, (.sc undef)), (67, (.sc undef)), (68, (.sc undef)), (69, (.sc undef)), (70, (.sc undef)), (71, (.sc undef)), (72, (.sc undef)), (73, (.sc undef)), (74, (.sc undef)), (75, (.sc undef)), (76, (.sc undef)), (77, (.sc undef)), (78, (.sc undef)), (79, (.sc undef)), (80, (.sc undef)), (81, (.sc undef)), (82, (.sc undef)), (83, (.sc undef)), (84, (.sc undef)), (85, (.sc undef)), (86, (.sc undef)), (87, (.sc undef)), (88, (.sc undef)), (89, (.sc undef)), (90, (.sc undef)), (91, (.sc undef)), (92, (.sc undef)), (93, (.sc undef)), (94, (.sc undef)), (95, (.sc undef)), (96, (.sc undef)), (97, (.sc undef)), (98, (.sc undef)), (99, (.sc undef)), (100, (.sc undef)), (101, (.sc undef)), (102, (.sc undef)), (103, (.sc undef))] H))
  (p.bin .geq t25 (.sc (.int .i64 240)) fun t51 =>
  p.guard t51 true H (fun k' => k' t25 H) fun t53 H =>
  p.guard t51 true H (fun k' => p.bin .lss t53 (.sc (.int .i64 248)) fun t' => k' t' H) fun t54 H =>
  p.pick t51 t54 (.sc (.bool false)) fun t55 =>
  p.cond t55
  (p.bin .and t25 (.sc (.int .i64 7)) fun t57 =>
  p.len a0 fun t60 =>
  p.bin .sub t60 (.sc (.int .i64 1)) fun t61 =>
  p.bin .sub t61 (.sc (.int .i64 3)) fun t63 =>
  p.bin .gtr a1 t63 fun t64 =>
  p.cond t64
  (k (packA [(.sc (.int .i64 0)), (.sc (.int .i64 0)), (.sc (.bool false))]) H)
  (f109_L0 p n  k n [(0, a0), (1, a1), (2, (.sc undef)), (3, (.sc undef)), (4, (.sc (.int .i64 0))), (5, (.sc (.int .i64 0))), (6, (.sc (.bool false))), (7, t25), (8, (.sc (.int .i64 3))), (9, (.sc (.int .i64 65536))), (10, t57), (11, (.sc (.int .i64 1))), (12, (.sc undef)), (13, a1), (14, t14), (15, t14), (16, t16), (17, t17), (18, t18), (19, t19), (20, t20), (21, a0), (22, a1), (23, t23), (24, t24), (25, t25), (26, t25), (27, t27), (28, (.sc undef)), (29, (.sc undef)), (30, (.sc undef)), (31, t37), (32, t25), (33, t33), (34, t33), (35, t35), (36, t36), (37, t37), (38, (.sc undef)), (39, (.sc undef)), (40, t46), (41, t25), (42, t42), (43, t42), (44, t44), (45, t45), (46, t46), (47, (.sc undef)), (48, (.sc undef)), (49, t55), (50, t25), (51, t51), (52, t51), (53, t53), (54, t54), (55, t55), (56, t25), (57, t57), (58, a1), (59, a0), (60, t60), (61, t61), (62, (.sc (.int .i64 3))), (63, t63), (64, t64), (65, (.sc undef)), (66, (.sc undef)), (67, (.sc undef)), (68, (.sc undef)), (69, (.sc undef)), (70, (.sc undef)), (71, (.sc undef)), (72, (.sc undef)), (73, (.sc undef)), (74, (.sc undef)), (75, (.sc undef)), (76, (.sc undef)), (77, (.sc undef)), (78, (.sc undef)), (79, (.sc undef)), (80, (.sc undef)), (81, (.sc undef)), (82, (.sc undef)), (83, (.sc undef)), (84, (.sc undef)), (85, (.sc undef)), (86, (.sc undef)), (87, (.sc undef)), (88, (.sc undef)), (89, (.sc undef)), (90, (.sc undef)), (91, (.sc undef)), (92, (.sc undef)), (93, (.sc undef)), (94, (.sc undef)), (95, (.sc undef)), (96, (.sc undef)), (97, (.sc undef)), (98, (.sc undef)), (99, (.sc undef)), (100, (.sc undef)), (101, (.sc undef)), (102, (.sc undef)), (103, (.sc undef))] H))
  (k (packA [(.sc (.int .i64 0)), (.sc (.int .i64 0)), (.sc (.bool false))]) H))))) := by kernel_rfl
theorem f109_body (p : Pr β) (n : Nat) (a0 a1 : AV) (H : Heap) (k : AV → Heap → Option β) : evalBody ti0 p n ⟨c109, 104, Go.Proofs.Tryd.f109.results.toList, o109⟩ [a0, a1] H k = f109 p n a0 a1 H k := by
  rw [f109_raw]
  simp only [f109_l0_eq]
  rfl

/-! 104 loop.example/g00480/spec.CountRunes -/
noncomputable def f104_l0 (p : Pr β) (n : Nat)  (k : AV → Heap → Option β) : Nat → AV → AV → AV → Heap → Option β
  | 0, _, _, _, _ => none
  | m + 1, t3, t4, t5, H => p.len t3 fun t16 =>
      p.bin .lss t5 t16 fun t17 =>
      p.cond t17
      (p.call 121 (.fn 109 [] []) [t3, t5] H fun t21 H =>
      p.extr t21 0 fun t22 =>
      p.extr t21 1 fun t23 =>
      p.extr t21 2 fun t24 =>
      p.un .not t24 fun t26 =>
      p.guard t26 false H (fun k' => k' t22 H) fun t28 H =>
      p.guard t26 false H (fun k' => p.bin .eql t28 (.sc (.int .i64 0)) fun t' => k' t' H) fun t29 H =>
      p.pick t26 (.sc (.bool true)) t29 fun t30 =>
      p.cond t30
      (k (.sc (.int .i64 (-1))) H)
      (p.bin .add t4 (.sc (.int .i64 1)) fun t33 =>
      f104_l0 p n  k m t3 t33 t23 H))
      (k t4 H)
noncomputable def f104 (p : Pr β) (n : Nat) (a0 : AV) (H : Heap) (k : AV → Heap → Option β) : Option β :=
  p.lenS a0 fun t10 =>
  p.bin .gtr t10 (.sc (.int .i64 60)) fun t11 =>
  p.cond t11
  (k (.sc (.int .i64 (-1))) H)
  (p.cvSB a0 H fun t13 H =>
  f104_l0 p n  k n t13 (.sc (.int .i64 0)) (.sc (.int .i64 0)) H)
noncomputable def f104_L0 (p : Pr β) (n : Nat)  (k : AV → Heap → Option β) (m : Nat) (tm : Tm) (H : Heap) : Option β :=
  iterC 35 (fun tm H k => evalCode ti0 p o104 35 n (cd c104 [1, 1, 1, 1, 0, 1, 0, 0]) tm H k) (blkK 0 (seqK (fun tm H => evalCode ti0 p o104 35 n (cd c104 [1, 1, 1, 1, 1]) tm H (endK ti0 p Go.Proofs.Tryd.f104.results.toList k)) (endK ti0 p Go.Proofs.Tryd.f104.results.toList k))) m tm H
theorem f104_L0_step (p : Pr β) (n : Nat)  (k : AV → Heap → Option β) (m0 : Nat) (t0 t1 t2 t3 t4 t5 t6 t7 t8 t9 t10 t11 t12 t13 t14 t15 t16 t17 t18 t19 t20 t21 t22 t23 t24 t25 t26 t27 t28 t29 t30 t31 t32 t33 t34 : AV) (H : Heap) : f104_L0 p n  k (m0 + 1) [(0, t0), (1, t1), (2, t2), (3, t3), (4, t4), (5, t5), (6, t6), (7, t7), (8, t8), (9, t9), (10, t10), (11, t11), (12, t12), (13, t13), (14, t14), (15, t15), (16, t16), (17, t17), (18, t18), (19, t19), (20, t20), (21, t21), (22, t22), (23, t23), (24, t24), (25, t25), (26, t26), (27, t27), (28, t28), (29, t29), (30, t30), (31, t31), (32, t32), (33, t33), (34, t34)] H =
  p.len t3 fun t16 =>
  p.bin .lss t5 t16 fun t17 =>
  p.cond t17
  (p.call 121 (.fn 109 [] []) [t3, t5] H fun t21 H =>
  p.extr t21 0 fun t22 =>
  p.extr t21 1 fun t23 =>
  p.extr t21 2 fun t24 =>
  p.un .not t24 fun t26 =>
  p.guard t26 false H (fun k' => k' t22 H) fun t28 H =>
  p.guard t26 false H (fun k' => p.bin .eql t28 (.sc (.int .i64 0)) fun t' => k' t' H) fun t29 H =>
  p.pick t26 (.sc (.bool true)) t29 fun t30 =>
  p.cond t30
  (k (.sc (.int .i64 (-1))) H)
  (p.bin .add t4 (.sc (.int .i64 1)) fun t33 =>
  f104_L0 p n  k m0 [(0, t0), (1, t1), (2, t2), (3, t3), (4, t33), (5, t23), (6, t22), (7, t23), (8, t24), (9, t9), (10, t10), (11, t11), (12, t12), (13, t13), (14, t5), (15, t3), (16, t16), (17, t17), (18, t21), (19, t3), (20, t5), (21, t21), (22, t22), (23, t23), (24, t24), (25, t24), (26, t26), (27, t26), (28, t28), (29, t29), (30, t30), (31, t23), (32, t4), (33, t33), (34, t34)] H))
  (k t4 H) := by kernel_rfl
theorem f104_l0_eq (p : Pr β) (n : Nat)  (k : AV → Heap → Option β)   (m0 : Nat) : ∀ (t0 t1 t2 t3 t4 t5 t6 t7 t8 t9 t10 t11 t12 t13 t14 t15 t16 t17 t18 t19 t20 t21 t22 t23 t24 t25 t26 t27 t28 t29 t30 t31 t32 t33 t34 : AV) (H : Heap), f104_L0 p n  k m0 [(0, t0), (1, t1), (2, t2), (3, t3), (4, t4), (5, t5), (6, t6), (7, t7), (8, t8), (9, t9), (10, t10), (11, t11), (12, t12), (13, t13), (14, t14), (15, t15), (16, t16), (17, t17), (18, t18), (19, t19), (20, t20), (21, t21), (22, t22), (23, t23), (24, t24), (25, t25), (26, t26), (27, t27), (28, t28), (29, t29), (30, t30), (31, t31), (32, t32), (33, t33), (34, t34)] H = f104_l0 p n  k m0 t3 t4 t5 H := by
  induction m0 with
  | zero => intros; rfl
  | succ m0 ih =>
    intro t0 t1 t2 t3 t4 t5 t6 t7 t8 t9 t10 t11 t12 t13 t14 t15 t16 t17 t18 t19 t20 t21 t22 t23 t24 t25 t26 t27 t28 t29 t30 t31 t32 t33 t34 H
    rw [f104_L0_step]
    simp only [ih]
    rfl
theorem f104_raw (p : Pr β) (n : Nat) (a0 : AV) (H : Heap) (k : AV → Heap → Option β) : evalBody ti0 p n ⟨c104, 35, Go.Proofs.Tryd.f104.results.toList, o104⟩ [a0] H k =
  p.lenS a0 fun t10 =>
  p.bin .gtr t10 (.sc (.int .i64 60)) fun t11 =>
  p.cond t11
  (k (.sc (.int .i64 (-1))) H)
  (p.cvSB a0 H fun t13 H =>
  f104_L0 p n  k n [(0, a0), (1, (.sc undef)), (2, (.sc (.int .i64 0))), (3, t13), (4, (.sc (.int .i64 0))), (5, (.sc (.int .i64 0))), (6, (.sc undef)), (7, (.sc undef)), (8, (.sc undef)), (9, a0), (10, t10), (11, t11), (12, a0), (13, t13), (14, (.sc undef)), (15, (.sc undef)), (16, (.sc undef)), (17, (.sc undef)), (18, (.sc undef)), (19, (.sc undef)), (20, (.sc undef)), (21, (.sc undef)), (22, (.sc undef)), (23, (.sc undef)), (24, (.sc undef)), (25, (.sc undef)), (26, (.sc undef)), (27, (.sc undef)), (28, (.sc undef)), (29, (.sc undef)), (30, (.sc undef)), (31, (.sc undef)), (32, (.sc undef)), (33, (.sc undef)), (34, (.sc undef))] H) := by kernel_rfl
theorem f104_body (p : Pr β) (n : Nat) (a0 : AV) (H : Heap) (k : AV → Heap → Option β) : evalBody ti0 p n ⟨c104, 35, Go.Proofs.Tryd.f104.results.toList, o104⟩ [a0] H k = f104 p n a0 H k := by
  rw [f104_raw]
  simp only [f104_l0_eq]
  rfl

/-! 69 loop.example/g00480/spec.TextOk -/
noncomputable def f69 (p : Pr β) (n : Nat) (a0 : AV) (H : Heap) (k : AV → Heap → Option β) : Option β :=
  p.call 3 (.fn 104 [] []) [a0] H fun t4 H =>
  p.bin .geq t4 (.sc (.int .i64 0)) fun t5 =>
  k t5 H
theorem f69_body (p : Pr β) (n : Nat) (a0 : AV) (H : Heap) (k : AV → Heap → Option β) : evalBody ti0 p n ⟨c69, 6, Go.Proofs.Tryd.f69.results.toList, o69⟩ [a0] H k = f69 p n a0 H k := by kernel_rfl

/-! 94 loop.example/g00480/spec.l3Has -/
noncomputable def f94_l0 (p : Pr β) (n : Nat)  (k : AV → Heap → Option β) : Nat → AV → AV → AV → Heap → Option β
  | 0, _, _, _, _ => none
  | m + 1, t0, t1, t5, H => p.lenS t0 fun t8 =>
      p.bin .lss t5 t8 fun t9 =>
      p.cond t9
      (p.idx t0 t5 fun t14 =>
      p.bin .eql t14 t1 fun t16 =>
      p.cond t16
      (k (.sc (.bool true)) H)
      (p.bin .add t5 (.sc (.int .i64 1)) fun t11 =>
      f94_l0 p n  k m t0 t1 t11 H))
      (k (.sc (.bool false)) H)
noncomputable def f94 (p : Pr β) (n : Nat) (a0 a1 : AV) (H : Heap) (k : AV → Heap → Option β) : Option β :=
  f94_l0 p n  k n a0 a1 (.sc (.int .i64 0)) H
noncomputable def f94_L0 (p : Pr β) (n : Nat)  (k : AV → Heap → Option β) (m : Nat) (tm : Tm) (H : Heap) : Option β :=
  iterC 17 (fun tm H k => evalCode ti0 p o94 17 n (cd c94 [1, 0, 1, 0, 0]) tm H k) (blkK 0 (seqK (fun tm H => evalCode ti0 p o94 17 n (cd c94 [1, 1]) tm H (endK ti0 p Go.Proofs.Tryd.f94.results.toList k)) (endK ti0 p Go.Proofs.Tryd.f94.results.toList k))) m tm H
theorem f94_L0_step (p : Pr β) (n : Nat)  (k : AV → Heap → Option β) (m0 : Nat) (t0 t1 t2 t3 t4 t5 t6 t7 t8 t9 t10 t11 t12 t13 t14 t15 t16 : AV) (H : Heap) : f94_L0 p n  k (m0 + 1) [(0, t0), (1, t1), (2, t2), (3, t3), (4, t4), (5, t5), (6, t6), (7, t7), (8, t8), (9, t9), (10, t10), (11, t11), (12, t12), (13, t13), (14, t14), (15, t15), (16, t16)] H =
  p.lenS t0 fun t8 =>
  p.bin .lss t5 t8 fun t9 =>
  p.cond t9
  (p.idx t0 t5 fun t14 =>
  p.bin .eql t14 t1 fun t16 =>
  p.cond t16
  (k (.sc (.bool true)) H)
  (p.bin .add t5 (.sc (.int .i64 1)) fun t11 =>
  f94_L0 p n  k m0 [(0, t0), (1, t1), (2, t2), (3, t3), (4, t4), (5, t11), (6, t5), (7, t0), (8, t8), (9, t9), (10, t5), (11, t11), (12, t0), (13, t5), (14, t14), (15, t1), (16, t16)] H))
  (k (.sc (.bool false)) H) := by kernel_rfl
theorem f94_l0_eq (p : Pr β) (n : Nat)  (k : AV → Heap → Option β)   (m0 : Nat) : ∀ (t0 t1 t2 t3 t4 t5 t6 t7 t8 t9 t10 t11 t12 t13 t14 t15 t16 : AV) (H : Heap), f94_L0 p n  k m0 [(0, t0), (1, t1), (2, t2), (3, t3), (4, t4), (5, t5), (6, t6), (7, t7), (8, t8), (9, t9), (10, t10), (11, t11), (12, t12), (13, t13), (14, t14), (15, t15), (16, t16)] H = f94_l0 p n  k m0 t0 t1 t5 H := by
  induction m0 with
  | zero => intros; rfl
  | succ m0 ih =>
    intro t0 t1 t2 t3 t4 t5 t6 t7 t8 t9 t10 t11 t12 t13 t14 t15 t16 H
    rw [f94_L0_step]
    simp only [ih]
    rfl
theorem f94_raw (p : Pr β) (n : Nat) (a0 a1 : AV) (H : Heap) (k : AV → Heap → Option β) : evalBody ti0 p n ⟨c94, 17, Go.Proofs.Tryd.f94.results.toList, o94⟩ [a0, a1] H k =
  f94_L0 p n  k n [(0, a0), (1, a1), (2, (.sc undef)), (3, (.sc undef)), (4, (.sc (.bool false))), (5, (.sc (.int .i64 0))), (6, (.sc undef)), (7, (.sc undef)), (8, (.sc undef)), (9, (.sc undef)), (10, (.sc undef)), (11, (.sc undef)), (12, (.sc undef)), (13, (.sc undef)), (14, (.sc undef)), (15, (.sc undef)), (16, (.sc undef))] H := by kernel_rfl
theorem f94_body (p : Pr β) (n : Nat) (a0 a1 : AV) (H : Heap) (k : AV → Heap → Option β) : evalBody ti0 p n ⟨c94, 17, Go.Proofs.Tryd.f94.results.toList, o94⟩ [a0, a1] H k = f94 p n a0 a1 H k := by
  rw [f94_raw]
  simp only [f94_l0_eq]
  rfl

/-! 95 loop.example/g00480/spec.Levels -/
noncomputable def f95_l0 (p : Pr β) (n : Nat)  (k : AV → Heap → Option β) : Nat → AV → AV → AV → AV → Heap → Option β
  | 0, _, _, _, _, _ => none
  | m + 1, t0, t3, t4, t5, H => p.lenS t0 fun t9 =>
      p.bin .leq t5 t9 fun t10 =>
      p.cond t10
      (p.lenS t0 fun t15 =>
      p.bin .eql t5 t15 fun t16 =>
      p.guard t16 false H (fun k' => k' t0 H) fun t18 H =>
      p.guard t16 false H (fun k' => k' t5 H) fun t19 H =>
      p.guard t16 false H (fun k' => p.idx t18 t19 fun t' => k' t' H) fun t20 H =>
      p.guard t16 false H (fun k' => p.bin .eql t20 (.sc (.int .u8 47)) fun t' => k' t' H) fun t21 H =>
      p.pick t16 (.sc (.bool true)) t21 fun t22 =>
      p.cond t22
      (p.sliceS t0 (some t4) (some t5) fun t27 =>
      p.fill [(.sc (.string ⟨#[]⟩))] [(0, 1, t27)] fun ct28 => p.newSl 1 1 ct28 true H fun t28 H =>
      p.app 1 16 t3 t28 H fun t29 H =>
      p.bin .add t5 (.sc (.int .i64 1)) fun t31 =>
      p.bin .add t5 (.sc (.int .i64 1)) fun t12 =>
      f95_l0 p n  k m t0 t29 t31 t12 H)
      (p.bin .add t5 (.sc (.int .i64 1)) fun t12 =>
      f95_l0 p n  k m t0 t3 t4 t12 H))
      (k t3 H)
noncomputable def f95 (p : Pr β) (n : Nat) (a0 : AV) (H : Heap) (k : AV → Heap → Option β) : Option β :=
  f95_l0 p n  k n a0 .nl (.sc (.int .i64 0)) (.sc (.int .i64 0)) H
noncomputable def f95_L0 (p : Pr β) (n : Nat)  (k : AV → Heap → Option β) (m : Nat) (tm : Tm) (H : Heap) : Option β :=
  iterC 33 (fun tm H k => evalCode ti0 p o95 33 n (cd c95 [1, 1, 1, 0, 1, 0, 0]) tm H k) (blkK 0 (seqK (fun tm H => evalCode ti0 p o95 33 n (cd c95 [1, 1, 1, 1]) tm H (endK ti0 p Go.Proofs.Tryd.f95.results.toList k)) (endK ti0 p Go.Proofs.Tryd.f95.results.toList k))) m tm H
theorem f95_L0_step (p : Pr β) (n : Nat)  (k : AV → Heap → Option β) (m0 : Nat) (t0 t1 t2 t3 t4 t5 t6 t7 t8 t9 t10 t11 t12 t13 t14 t15 t16 t17 t18 t19 t20 t21 t22 t23 t24 t25 t26 t27 t28 t29 t30 t31 t32 : AV) (H : Heap) : f95_L0 p n  k (m0 + 1) [(0, t0), (1, t1), (2, t2), (3, t3), (4, t4), (5, t5), (6, t6), (7, t7), (8, t8), (9, t9), (10, t10), (11, t11), (12, t12), (13, t13), (14, t14), (15, t15), (16, t16), (17, t17), (18, t18), (19, t19), (20, t20), (21, t21), (22, t22), (23, t23), (24, t24), (25, t25), (26, t26), (27, t27), (28, t28), (29, t29), (30, t30), (31, t31), (32, t32)] H =
  p.lenS t0 fun t9 =>
  p.bin .leq t5 t9 fun t10 =>
  p.cond t10
  (p.lenS t0 fun t15 =>
  p.bin .eql t5 t15 fun t16 =>
  p.guard t16 false H (fun k' => k' t0 H) fun t18 H =>
  p.guard t16 false H (fun k' => k' t5 H) fun t19 H =>
  p.guard t16 false H (fun k' => p.idx t18 t19 fun t' => k' t' H) fun t20 H =>
  p.guard t16 false H (fun k' => p.bin .eql t20 (.sc (.int .u8 47)) fun t' => k' t' H) fun t21 H =>
  p.pick t16 (.sc (.bool true)) t21 fun t22 =>
  p.cond t22
  (p.sliceS t0 (some t4) (some t5) fun t27 =>
  p.fill [(.sc (.string ⟨#[]⟩))] [(0, 1, t27)] fun ct28 => p.newSl 1 1 ct28 true H fun t28 H =>
  p.app 1 16 t3 t28 H fun t29 H =>
  p.bin .add t5 (.sc (.int .i64 1)) fun t31 =>
  p.bin .add t5 (.sc (.int .i64 1)) fun t12 =>
  f95_L0 p n  k m0 [(0, t0), (1, t1), (2, t2), (3, t29), (4, t31), (5, t12), (6, t6), (7, t5), (8, t0), (9, t9), (10, t10), (11, t5), (12, t12), (13, t5), (14, t0), (15, t15), (16, t16), (17, t16), (18, t18), (19, t19), (20, t20), (21, t21), (22, t22), (23, t3), (24, t0), (25, t4), (26, t5), (27, t27), (28, t28), (29, t29), (30, t5), (31, t31), (32, t32)] H)
  (p.bin .add t5 (.sc (.int .i64 1)) fun t12 =>
  f95_L0 p n  k m0 [(0, t0), (1, t1), (2, t2), (3, t3), (4, t4), (5, t12), (6, t6), (7, t5), (8, t0), (9, t9), (10, t10), (11, t5), (12, t12), (13, t5), (14, t0), (15, t15), (16, t16), (17, t16), (18, t18), (19, t19), (20, t20), (21, t21), (22, t22), (23, t23), (24, t24), (25, t25), (26, t26), (27, t27), (28, t28), (29, t29), (30, t30), (31, t31), (32, t32)] H))
  (k t3 H) := by kernel_rfl
theorem f95_l0_eq (p : Pr β) (n : Nat)  (k : AV → Heap → Option β)   (m0 : Nat) : ∀ (t0 t1 t2 t3 t4 t5 t6 t7 t8 t9 t10 t11 t12 t13 t14 t15 t16 t17 t18 t19 t20 t21 t22 t23 t24 t25 t26 t27 t28 t29 t30 t31 t32 : AV) (H : Heap), f95_L0 p n  k m0 [(0, t0), (1, t1), (2, t2), (3, t3), (4, t4), (5, t5), (6, t6), (7, t7), (8, t8), (9, t9), (10, t10), (11, t11), (12, t12), (13, t13), (14, t14), (15, t15), (16, t16), (17, t17), (18, t18), (19, t19), (20, t20), (21, t21), (22, t22), (23, t23), (24, t24), (25, t25), (26, t26), (27, t27), (28, t28), (29, t29), (30, t30), (31, t31), (32, t32)] H = f95_l0 p n  k m0 t0 t3 t4 t5 H := by
  induction m0 with
  | zero => intros; rfl
  | succ m0 ih =>
    intro t0 t1 t2 t3 t4 t5 t6 t7 t8 t9 t10 t11 t12 t13 t14 t15 t16 t17 t18 t19 t20 t21 t22 t23 t24 t25 t26 t27 t28 t29 t30 t31 t32 H
    rw [f95_L0_step]
    simp only [ih]
    rfl
theorem f95_raw (p : Pr β) (n : Nat) (a0 : AV) (H : Heap) (k : AV → Heap → Option β) : evalBody ti0 p n ⟨c95, 33, Go.Proofs.Tryd.f95.results.toList, o95⟩ [a0] H k =
  f95_L0 p n  k n [(0, a0), (1, (.sc undef)), (2, .nl), (3, .nl), (4, (.sc (.int .i64 0))), (5, (.sc (.int .i64 0))), (6, .nl), (7, (.sc undef)), (8, (.sc undef)), (9, (.sc undef)), (10, (.sc undef)), (11, (.sc undef)), (12, (.sc undef)), (13, (.sc undef)), (14, (.sc undef)), (15, (.sc undef)), (16, (.sc undef)), (17, (.sc undef)), (18, (.sc undef)), (19, (.sc undef)), (20, (.sc undef)), (21, (.sc undef)), (22, (.sc undef)), (23, (.sc undef)), (24, (.sc undef)), (25, (.sc undef)), (26, (.sc undef)), (27, (.sc undef)), (28, (.sc undef)), (29, (.sc undef)), (30, (.sc undef)), (31, (.sc undef)), (32, (.sc undef))] H := by kernel_rfl
theorem f95_body (p : Pr β) (n : Nat) (a0 : AV) (H : Heap) (k : AV → Heap → Option β) : evalBody ti0 p n ⟨c95, 33, Go.Proofs.Tryd.f95.results.toList, o95⟩ [a0] H k = f95 p n a0 H k := by
  rw [f95_raw]
  simp only [f95_l0_eq]
  rfl

/-! 53 loop.example/g00480/spec.TopicOk -/
noncomputable def f53 (p : Pr β) (n : Nat) (a0 : AV) (H : Heap) (k : AV → Heap → Option β) : Option β :=
  p.call 4 (.fn 69 [] []) [a0] H fun t4 H =>
  p.guard t4 true H (fun k' => k' a0 H) fun t6 H =>
  p.guard t4 true H (fun k' => p.bin .neq t6 (.sc (.string ⟨#[]⟩)) fun t' => k' t' H) fun t7 H =>
  p.pick t4 t7 (.sc (.bool false)) fun t8 =>
  p.guard t8 true H (fun k' => k' a0 H) fun t10 H =>
  p.guard t8 true H (fun k' => p.call 4 (.fn 94 [] []) [t10, (.sc (.int .u8 43))] H fun t' H => k' t' H) fun t11 H =>
  p.guard t8 true H (fun k' => p.un .not t11 fun t' => k' t' H) fun t12 H =>
  p.pick t8 t12 (.sc (.bool false)) fun t13 =>
  p.guard t13 true H (fun k' => k' a0 H) fun t15 H =>
  p.guard t13 true H (fun k' => p.call 4 (.fn 94 [] []) [t15, (.sc (.int .u8 35))] H fun t' H => k' t' H) fun t16 H =>
  p.guard t13 true H (fun k' => p.un .not t16 fun t' => k' t' H) fun t17 H =>
  p.pick t13 t17 (.sc (.bool false)) fun t18 =>
  p.guard t18 true H (fun k' => k' a0 H) fun t20 H =>
  p.guard t18 true H (fun k' => p.call 109 (.fn 95 [] []) [t20] H fun t' H => k' t' H) fun t21 H =>
  p.guard t18 true H (fun k' => p.len t21 fun t' => k' t' H) fun t22 H =>
  p.guard t18 true H (fun k' => p.bin .leq t22 (.sc (.int .i64 6)) fun t' => k' t' H) fun t23 H =>
  p.pick t18 t23 (.sc (.bool false)) fun t24 =>
  k t24 H
theorem f53_body (p : Pr β) (n : Nat) (a0 : AV) (H : Heap) (k : AV → Heap → Option β) : evalBody ti0 p n ⟨c53, 25, Go.Proofs.Tryd.f53.results.toList, o53⟩ [a0] H k = f53 p n a0 H k := by kernel_rfl

/-! 13 loop.example/g00480/spec.MsgOk -/
noncomputable def f13 (p : Pr β) (n : Nat) (a0 : AV) (H : Heap) (k : AV → Heap → Option β) : Option β :=
  p.box a0 H fun t1 H =>
  p.fadr 0 t1 fun t3 =>
  p.load false 1 t3 H fun t4 =>
  p.call 4 (.fn 53 [] []) [t4] H fun t5 H =>
  p.guard t5 true H (fun k' => p.fadr 1 t1 fun t' => k' t' H) fun t7 H =>
  p.guard t5 true H (fun k' => p.load false 1 t7 H fun t' => k' t' H) fun t8 H =>
  p.guard t5 true H (fun k' => p.len t8 fun t' => k' t' H) fun t9 H =>
  p.guard t5 true H (fun k' => p.bin .leq t9 (.sc (.int .i64 40)) fun t' => k' t' H) fun t10 H =>
  p.pick t5 t10 (.sc (.bool false)) fun t11 =>
  p.guard t11 true H (fun k' => p.fadr 2 t1 fun t' => k' t' H) fun t13 H =>
  p.guard t11 true H (fun k' => p.load false 1 t13 H fun t' => k' t' H) fun t14 H =>
  p.guard t11 true H (fun k' => p.call 4 (.fn 54 [] []) [t14, (.sc (.int .i64 0)), (.sc (.int .i64 2))] H fun t' H => k' t' H) fun t15 H =>
  p.pick t11 t15 (.sc (.bool false)) fun t16 =>
  k t16 H
theorem f13_body (p : Pr β) (n : Nat) (a0 : AV) (H : Heap) (k : AV → Heap → Option β) : evalBody ti0 p n ⟨c13, 17, Go.Proofs.Tryd.f13.results.toList, o13⟩ [a0] H k = f13 p n a0 H k := by kernel_rfl

/-! 18 loop.example/g00480/spec.QueueOk -/
noncomputable def f18_l0 (p : Pr β) (n : Nat)  (k : AV → Heap → Option β) : Nat → AV → AV → Heap → Option β
  | 0, _, _, _ => none
  | m + 1, t0, t3, H => p.len t0 fun t6 =>
      p.bin .lss t3 t6 fun t7 =>
      p.cond t7
      (p.iadr 4 t0 t3 fun t12 =>
      p.load true 4 t12 H fun t13 =>
      p.call 4 (.fn 13 [] []) [t13] H fun t14 H =>
      p.un .not t14 fun t15 =>
      p.cond t15
      (k (.sc (.bool false)) H)
      (p.bin .add t3 (.sc (.int .i64 1)) fun t9 =>
      f18_l0 p n  k m t0 t9 H))
      (p.len t0 fun t17 =>
      p.bin .leq t17 (.sc (.int .i64 6)) fun t18 =>
      k t18 H)
noncomputable def f18 (p : Pr β) (n : Nat) (a0 : AV) (H : Heap) (k : AV → Heap → Option β) : Option β :=
  f18_l0 p n  k n a0 (.sc (.int .i64 0)) H
noncomputable def f18_L0 (p : Pr β) (n : Nat)  (k : AV → Heap → Option β) (m : Nat) (tm : Tm) (H : Heap) : Option β :=
  iterC 19 (fun tm H k => evalCode ti0 p o18 19 n (cd c18 [1, 0, 1, 0, 0]) tm H k) (blkK 0 (seqK (fun tm H => evalCode ti0 p o18 19 n (cd c18 [1, 1]) tm H (endK ti0 p Go.Proofs.Tryd.f18.results.toList k)) (endK ti0 p Go.Proofs.Tryd.f18.results.toList k))) m tm H
theorem f18_L0_step (p : Pr β) (n : Nat)  (k : AV → Heap → Option β) (m0 : Nat) (t0 t1 t2 t3 t4 t5 t6 t7 t8 t9 t10 t11 t12 t13 t14 t15 t16 t17 t18 : AV) (H : Heap) : f18_L0 p n  k (m0 + 1) [(0, t0), (1, t1), (2, t2), (3, t3), (4, t4), (5, t5), (6, t6), (7, t7), (8, t8), (9, t9), (10, t10), (11, t11), (12, t12), (13, t13), (14, t14), (15, t15), (16, t16), (17, t17), (18, t18)] H =
  p.len t0 fun t6 =>
  p.bin .lss t3 t6 fun t7 =>
  p.cond t7
  (p.iadr 4 t0 t3 fun t12 =>
  p.load true 4 t12 H fun t13 =>
  p.call 4 (.fn 13 [] []) [t13] H fun t14 H =>
  p.un .not t14 fun t15 =>
  p.cond t15
  (k (.sc (.bool false)) H)
  (p.bin .add t3 (.sc (.int .i64 1)) fun t9 =>
  f18_L0 p n  k m0 [(0, t0), (1, t1), (2, t2), (3, t9), (4, t3), (5, t0), (6, t6), (7, t7), (8, t3), (9, t9), (10, t0), (11, t3), (12, t12), (13, t13), (14, t14), (15, t15), (16, t16), (17, t17), (18, t18)] H))
  (p.len t0 fun t17 =>
  p.bin .leq t17 (.sc (.int .i64 6)) fun t18 =>
  k t18 H) := by kernel_rfl
theorem f18_l0_eq (p : Pr β) (n : Nat)  (k : AV → Heap → Option β)   (m0 : Nat) : ∀ (t0 t1 t2 t3 t4 t5 t6 t7 t8 t9 t10 t11 t12 t13 t14 t15 t16 t17 t18 : AV) (H : Heap), f18_L0 p n  k m0 [(0, t0), (1, t1), (2, t2), (3, t3), (4, t4), (5, t5), (6, t6), (7, t7), (8, t8), (9, t9), (10, t10), (11, t11), (12, t12), (13, t13), (14, t14), (15, t15), (16, t16), (17, t17), (18, t18)] H = f18_l0 p n  k m0 t0 t3 H := by
  induction m0 with
  | zero => intros; rfl
  | succ m0 ih =>
    intro t0 t1 t2 t3 t4 t5 t6 t7 t8 t9 t10 t11 t12 t13 t14 t15 t16 t17 t18 H
    rw [f18_L0_step]
    simp only [ih]
    rfl
theorem f18_raw (p : Pr β) (n : Nat) (a0 : AV) (H : Heap) (k : AV → Heap → Option β) : evalBody ti0 p n ⟨c18, 19, Go.Proofs.Tryd.f18.results.toList, o18⟩ [a0] H k =
  f18_L0 p n  k n [(0, a0), (1, (.sc undef)), (2, (.sc (.bool false))), (3, (.sc (.int .i64 0))), (4, (.sc undef)), (5, (.sc undef)), (6, (.sc undef)), (7, (.sc undef)), (8, (.sc undef)), (9, (.sc undef)), (10, (.sc undef)), (11, (.sc undef)), (12, (.sc undef)), (13, (.sc undef)), (14, (.sc undef)), (15, (.sc undef)), (16, (.sc undef)), (17, (.sc undef)), (18, (.sc undef))] H := by kernel_rfl
theorem f18_body (p : Pr β) (n : Nat) (a0 : AV) (H : Heap) (k : AV → Heap → Option β) : evalBody ti0 p n ⟨c18, 19, Go.Proofs.Tryd.f18.results.toList, o18⟩ [a0] H k = f18 p n a0 H k := by
  rw [f18_raw]
  simp only [f18_l0_eq]
  rfl

/-! 39 loop.example/g00480/spec.Push -/
noncomputable def f39 (p : Pr β) (n : Nat) (a0 a1 : AV) (H : Heap) (k : AV → Heap → Option β) : Option β :=
  p.box a1 H fun t3 H =>
  p.call 34 (.fn 81 [] []) [a0] H fun t8 H =>
  p.call 4 (.fn 18 [] []) [a0] H fun t10 H =>
  p.un .not t10 fun t11 =>
  p.guard t11 false H (fun k' => p.load true 4 t3 H fun t' => k' t' H) fun t13 H =>
  p.guard t11 false H (fun k' => p.call 4 (.fn 13 [] []) [t13] H fun t' H => k' t' H) fun t14 H =>
  p.guard t11 false H (fun k' => p.un .not t14 fun t' => k' t' H) fun t15 H =>
  p.pick t11 (.sc (.bool true)) t15 fun t16 =>
  p.cond t16
  (k (packA [t8, (.sc (.int .i64 2))]) H)
  (p.len a0 fun t19 =>
  p.bin .eql t19 (.sc (.int .i64 6)) fun t20 =>
  p.cond t20
  (p.fadr 2 t3 fun t21 =>
  p.load false 1 t21 H fun t22 =>
  p.bin .eql t22 (.sc (.int .i64 0)) fun t23 =>
  p.cond t23
  (k (packA [t8, (.sc (.int .i64 1))]) H)
  (k (packA [t8, (.sc (.int .i64 2))]) H))
  (p.load true 4 t3 H fun t27 =>
  p.call 27 (.fn 82 [] []) [t27] H fun t28 H =>
  p.fill [(.sc (.string ⟨#[]⟩)), .nl, (.sc (.int .i64 0)), (.sc (.bool false))] [(0, 4, t28)] fun ct29 => p.newSl 1 4 ct29 true H fun t29 H =>
  p.app 4 56 t8 t29 H fun t30 H =>
  k (packA [t30, (.sc (.int .i64 0))]) H))
theorem f39_body (p : Pr β) (n : Nat) (a0 a1 : AV) (H : Heap) (k : AV → Heap → Option β) : evalBody ti0 p n ⟨c39, 31, Go.Proofs.Tryd.f39.results.toList, o39⟩ [a0, a1] H k = f39 p n a0 a1 H k := by kernel_rfl

/-! 105 loop.example/g00480/impl.joined -/
noncomputable def f105_l0 (p : Pr β) (n : Nat)  (k : AV → Heap → Option β) : Nat → AV → AV → AV → AV → Heap → Option β
  | 0, _, _, _, _, _ => none
  | m + 1, t3, t7, t8, t9, H => p.bin .lss t9 t8 fun t10 =>
      p.cond t10
      (p.iadr 1 t7 t9 fun t11 =>
      p.load false 1 t11 H fun t12 =>
      p.app 1 1 t3 t12 H fun t15 H =>
      p.bin .add t9 (.sc (.int .i64 1)) fun t16 =>
      f105_l0 p n  k m t15 t7 t8 t16 H)
      (k t3 H)
noncomputable def f105 (p : Pr β) (n : Nat) (a0 : AV) (H : Heap) (k : AV → Heap → Option β) : Option β :=
  p.len a0 fun t8 =>
  f105_l0 p n  k n .nl a0 t8 (.sc (.int .i64 0)) H
noncomputable def f105_L0 (p : Pr β) (n : Nat)  (k : AV → Heap → Option β) (m : Nat) (tm : Tm) (H : Heap) : Option β :=
  iterC 18 (fun tm H k => evalCode ti0 p o105 18 n (cd c105 [1, 1, 0, 1, 0, 0]) tm H k) (blkK 0 (seqK (fun tm H => evalCode ti0 p o105 18 n (cd c105 [1, 1, 1]) tm H (endK ti0 p Go.Proofs.Tryd.f105.results.toList k)) (endK ti0 p Go.Proofs.Tryd.f105.results.toList k))) m tm H
theorem f105_L0_step (p : Pr β) (n : Nat)  (k : AV → Heap → Option β) (m0 : Nat) (t0 t1 t2 t3 t4 t5 t6 t7 t8 t9 t10 t11 t12 t13 t14 t15 t16 t17 : AV) (H : Heap) : f105_L0 p n  k (m0 + 1) [(0, t0), (1, t1), (2, t2), (3, t3), (4, t4), (5, t5), (6, t6), (7, t7), (8, t8), (9, t9), (10, t10), (11, t11), (12, t12), (13, t13), (14, t14), (15, t15), (16, t16), (17, t17)] H =
  p.bin .lss t9 t8 fun t10 =>
  p.cond t10
  (p.iadr 1 t7 t9 fun t11 =>
  p.load false 1 t11 H fun t12 =>
  p.app 1 1 t3 t12 H fun t15 H =>
  p.bin .add t9 (.sc (.int .i64 1)) fun t16 =>
  f105_L0 p n  k m0 [(0, t0), (1, t1), (2, t2), (3, t15), (4, t4), (5, t12), (6, t6), (7, t7), (8, t8), (9, t16), (10, t10), (11, t11), (12, t12), (13, t3), (14, t12), (15, t15), (16, t16), (17, t17)] H)
  (k t3 H) := by kernel_rfl
theorem f105_l0_eq (p : Pr β) (n : Nat)  (k : AV → Heap → Option β)   (m0 : Nat) : ∀ (t0 t1 t2 t3 t4 t5 t6 t7 t8 t9 t10 t11 t12 t13 t14 t15 t16 t17 : AV) (H : Heap), f105_L0 p n  k m0 [(0, t0), (1, t1), (2, t2), (3, t3), (4, t4), (5, t5), (6, t6), (7, t7), (8, t8), (9, t9), (10, t10), (11, t11), (12, t12), (13, t13), (14, t14), (15, t15), (16, t16), (17, t17)] H = f105_l0 p n  k m0 t3 t7 t8 t9 H := by
  induction m0 with
  | zero => intros; rfl
  | succ m0 ih =>
    intro t0 t1 t2 t3 t4 t5 t6 t7 t8 t9 t10 t11 t12 t13 t14 t15 t16 t17 H
    rw [f105_L0_step]
    simp only [ih]
    rfl
theorem f105_raw (p : Pr β) (n : Nat) (a0 : AV) (H : Heap) (k : AV → Heap → Option β) : evalBody ti0 p n ⟨c105, 18, Go.Proofs.Tryd.f105.results.toList, o105⟩ [a0] H k =
  p.len a0 fun t8 =>
  f105_L0 p n  k n [(0, a0), (1, (.sc undef)), (2, .nl), (3, .nl), (4, (.sc undef)), (5, (.sc undef)), (6, .nl), (7, a0), (8, t8), (9, (.sc (.int .i64 0))), (10, (.sc undef)), (11, (.sc undef)), (12, (.sc undef)), (13, (.sc undef)), (14, (.sc undef)), (15, (.sc undef)), (16, (.sc undef)), (17, (.sc undef))] H := by kernel_rfl
theorem f105_body (p : Pr β) (n : Nat) (a0 : AV) (H : Heap) (k : AV → Heap → Option β) : evalBody ti0 p n ⟨c105, 18, Go.Proofs.Tryd.f105.results.toList, o105⟩ [a0] H k = f105 p n a0 H k := by
  rw [f105_raw]
  simp only [f105_l0_eq]
  rfl

/-! 84 loop.example/g00480/impl.copyMsg -/
noncomputable def f84 (p : Pr β) (n : Nat) (a0 : AV) (H : Heap) (k : AV → Heap → Option β) : Option β :=
  p.box a0 H fun t1 H =>
  p.new [(.sc (.string ⟨#[]⟩)), .nl, (.sc (.int .i64 0)), (.sc (.bool false))] H fun t2 H =>
  p.fadr 1 t1 fun t3 =>
  p.load false 1 t3 H fun t4 =>
  p.fill [.nl] [(0, 1, t4)] fun ct5 => p.newSl 1 1 ct5 true H fun t5 H =>
  p.call 22 (.fn 105 [] []) [t5] H fun t6 H =>
  p.fadr 1 t1 fun t7 =>
  p.store 1 t7 t6 H fun H =>
  p.load true 4 t1 H fun t8 =>
  p.store 4 t2 t8 H fun H =>
  p.load true 4 t2 H fun r0 =>
  k r0 H
theorem f84_body (p : Pr β) (n : Nat) (a0 : AV) (H : Heap) (k : AV → Heap → Option β) : evalBody ti0 p n ⟨c84, 9, Go.Proofs.Tryd.f84.results.toList, o84⟩ [a0] H k = f84 p n a0 H k := by kernel_rfl

/-! 83 loop.example/g00480/impl.copyMsgs -/
noncomputable def f83_l0 (p : Pr β) (n : Nat)  (k : AV → Heap → Option β) : Nat → AV → AV → AV → AV → Heap → Option β
  | 0, _, _, _, _, _ => none
  | m + 1, t3, t7, t8, t9, H => p.bin .lss t9 t8 fun t10 =>
      p.cond t10
      (p.iadr 4 t7 t9 fun t11 =>
      p.load true 4 t11 H fun t12 =>
      p.new [(.sc (.string ⟨#[]⟩)), .nl, (.sc (.int .i64 0)), (.sc (.bool false))] H fun t5 H =>
      p.store 4 t5 t12 H fun H =>
      p.load true 4 t5 H fun t14 =>
      p.call 27 (.fn 84 [] []) [t14] H fun t15 H =>
      p.fill [(.sc (.string ⟨#[]⟩)), .nl, (.sc (.int .i64 0)), (.sc (.bool false))] [(0, 4, t15)] fun ct16 => p.newSl 1 4 ct16 true H fun t16 H =>
      p.app 4 56 t3 t16 H fun t17 H =>
      p.bin .add t9 (.sc (.int .i64 1)) fun t18 =>
      f83_l0 p n  k m t17 t7 t8 t18 H)
      (k t3 H)
noncomputable def f83 (p : Pr β) (n : Nat) (a0 : AV) (H : Heap) (k : AV → Heap → Option β) : Option β :=
  p.len a0 fun t8 =>
  f83_l0 p n  k n .nl a0 t8 (.sc (.int .i64 0)) H
noncomputable def f83_L0 (p : Pr β) (n : Nat)  (k : AV → Heap → Option β) (m : Nat) (tm : Tm) (H : Heap) : Option β :=
  iterC 20 (fun tm H k => evalCode ti0 p o83 20 n (cd c83 [1, 1, 0, 1, 0, 0]) tm H k) (blkK 0 (seqK (fun tm H => evalCode ti0 p o83 20 n (cd c83 [1, 1, 1]) tm H (endK ti0 p Go.Proofs.Tryd.f83.results.toList k)) (endK ti0 p Go.Proofs.Tryd.f83.results.toList k))) m tm H
theorem f83_L0_step (p : Pr β) (n : Nat)  (k : AV → Heap → Option β) (m0 : Nat) (t0 t1 t2 t3 t4 t5 t6 t7 t8 t9 t10 t11 t12 t13 t14 t15 t16 t17 t18 t19 : AV) (H : Heap) : f83_L0 p n  k (m0 + 1) [(0, t0), (1, t1), (2, t2), (3, t3), (4, t4), (5, t5), (6, t6), (7, t7), (8, t8), (9, t9), (10, t10), (11, t11), (12, t12), (13, t13), (14, t14), (15, t15), (16, t16), (17, t17), (18, t18), (19, t19)] H =
  p.bin .lss t9 t8 fun t10 =>
  p.cond t10
  (p.iadr 4 t7 t9 fun t11 =>
  p.load true 4 t11 H fun t12 =>
  p.new [(.sc (.string ⟨#[]⟩)), .nl, (.sc (.int .i64 0)), (.sc (.bool false))] H fun t5 H =>
  p.store 4 t5 t12 H fun H =>
  p.load true 4 t5 H fun t14 =>
  p.call 27 (.fn 84 [] []) [t14] H fun t15 H =>
  p.fill [(.sc (.string ⟨#[]⟩)), .nl, (.sc (.int .i64 0)), (.sc (.bool false))] [(0, 4, t15)] fun ct16 => p.newSl 1 4 ct16 true H fun t16 H =>
  p.app 4 56 t3 t16 H fun t17 H =>
  p.bin .add t9 (.sc (.int .i64 1)) fun t18 =>
  f83_L0 p n  k m0 [(0, t0), (1, t1), (2, t2), (3, t17), (4, t4), (5, t5), (6, t6), (7, t7), (8, t8), (9, t18), (10, t10), (11, t11), (12, t12), (13, t3), (14, t14), (15, t15), (16, t16), (17, t17), (18, t18), (19, t19)] H)
  (k t3 H) := by kernel_rfl
theorem f83_l0_eq (p : Pr β) (n : Nat)  (k : AV → Heap → Option β)   (m0 : Nat) : ∀ (t0 t1 t2 t3 t4 t5 t6 t7 t8 t9 t10 t11 t12 t13 t14 t15 t16 t17 t18 t19 : AV) (H : Heap), f83_L0 p n  k m0 [(0, t0), (1, t1), (2, t2), (3, t3), (4, t4), (5, t5), (6, t6), (7, t7), (8, t8), (9, t9), (10, t10), (11, t11), (12, t12), (13, t13), (14, t14), (15, t15), (16, t16), (17, t17), (18, t18), (19, t19)] H = f83_l0 p n  k m0 t3 t7 t8 t9 H := by
  induction m0 with
  | zero => intros; rfl
  | succ m0 ih =>
    intro t0 t1 t2 t3 t4 t5 t6 t7 t8 t9 t10 t11 t12 t13 t14 t15 t16 t17 t18 t19 H
    rw [f83_L0_step]
    simp only [ih]
    rfl
theorem f83_raw (p : Pr β) (n : Nat) (a0 : AV) (H : Heap) (k : AV → Heap → Option β) : evalBody ti0 p n ⟨c83, 20, Go.Proofs.Tryd.f83.results.toList, o83⟩ [a0] H k =
  p.len a0 fun t8 =>
  f83_L0 p n  k n [(0, a0), (1, (.sc undef)), (2, .nl), (3, .nl), (4, (.sc undef)), (5, (.sc undef)), (6, .nl), (7, a0), (8, t8), (9, (.sc (.int .i64 0))), (10, (.sc undef)), (11, (.sc undef)), (12, (.sc undef)), (13, (.sc undef)), (14, (.sc undef)), (15, (.sc undef)), (16, (.sc undef)), (17, (.sc undef)), (18, (.sc undef)), (19, (.sc undef))] H := by kernel_rfl
theorem f83_body (p : Pr β) (n : Nat) (a0 : AV) (H : Heap) (k : AV → Heap → Option β) : evalBody ti0 p n ⟨c83, 20, Go.Proofs.Tryd.f83.results.toList, o83⟩ [a0] H k = f83 p n a0 H k := by
  rw [f83_raw]
  simp only [f83_l0_eq]
  rfl

/-! 98 loop.example/g00480/impl.Levels -/
noncomputable def f98 (p : Pr β) (n : Nat) (a0 : AV) (H : Heap) (k : AV → Heap → Option β) : Option β :=
  p.call 109 (.fn 108 [] []) [a0, (.sc (.string ⟨#[47]⟩))] H fun t4 H =>
  k t4 H
theorem f98_body (p : Pr β) (n : Nat) (a0 : AV) (H : Heap) (k : AV → Heap → Option β) : evalBody ti0 p n ⟨c98, 5, Go.Proofs.Tryd.f98.results.toList, o98⟩ [a0] H k = f98 p n a0 H k := by kernel_rfl

/-! 56 loop.example/g00480/impl.TopicOk -/
noncomputable def f56 (p : Pr β) (n : Nat) (a0 : AV) (H : Heap) (k : AV → Heap → Option β) : Option β :=
  p.call 4 (.fn 96 [] []) [a0] H fun t4 H =>
  p.guard t4 true H (fun k' => k' a0 H) fun t6 H =>
  p.guard t4 true H (fun k' => p.bin .neq t6 (.sc (.string ⟨#[]⟩)) fun t' => k' t' H) fun t7 H =>
  p.pick t4 t7 (.sc (.bool false)) fun t8 =>
  p.guard t8 true H (fun k' => k' a0 H) fun t10 H =>
  p.guard t8 true H (fun k' => p.call 4 (.fn 97 [] []) [t10, (.sc (.string ⟨#[43, 35]⟩))] H fun t' H => k' t' H) fun t11 H =>
  p.guard t8 true H (fun k' => p.un .not t11 fun t' => k' t' H) fun t12 H =>
  p.pick t8 t12 (.sc (.bool false)) fun t13 =>
  p.guard t13 true H (fun k' => k' a0 H) fun t15 H =>
  p.guard t13 true H (fun k' => p.call 109 (.fn 98 [] []) [t15] H fun t' H => k' t' H) fun t16 H =>
  p.guard t13 true H (fun k' => p.len t16 fun t' => k' t' H) fun t17 H =>
  p.guard t13 true H (fun k' => p.bin .leq t17 (.sc (.int .i64 6)) fun t' => k' t' H) fun t18 H =>
  p.pick t13 t18 (.sc (.bool false)) fun t19 =>
  k t19 H
theorem f56_body (p : Pr β) (n : Nat) (a0 : AV) (H : Heap) (k : AV → Heap → Option β) : evalBody ti0 p n ⟨c56, 20, Go.Proofs.Tryd.f56.results.toList, o56⟩ [a0] H k = f56 p n a0 H k := by kernel_rfl

/-! 65 loop.example/g00480/impl.within -/
noncomputable def f65 (p : Pr β) (n : Nat) (a0 a1 a2 : AV) (H : Heap) (k : AV → Heap → Option β) : Option β :=
  p.bin .geq a0 a1 fun t9 =>
  p.guard t9 true H (fun k' => k' a0 H) fun t11 H =>
  p.guard t9 true H (fun k' => k' a2 H) fun t12 H =>
  p.guard t9 true H (fun k' => p.bin .leq t11 t12 fun t' => k' t' H) fun t13 H =>
  p.pick t9 t13 (.sc (.bool false)) fun t14 =>
  k t14 H
theorem f65_body (p : Pr β) (n : Nat) (a0 a1 a2 : AV) (H : Heap) (k : AV → Heap → Option β) : evalBody ti0 p n ⟨c65, 15, Go.Proofs.Tryd.f65.results.toList, o65⟩ [a0, a1, a2] H k = f65 p n a0 a1 a2 H k := by kernel_rfl

/-! 57 loop.example/g00480/impl.isQos -/
noncomputable def f57 (p : Pr β) (n : Nat) (a0 : AV) (H : Heap) (k : AV → Heap → Option β) : Option β :=
  p.call 4 (.fn 65 [] []) [a0, (.sc (.int .i64 0)), (.sc (.int .i64 2))] H fun t4 H =>
  k t4 H
theorem f57_body (p : Pr β) (n : Nat) (a0 : AV) (H : Heap) (k : AV → Heap → Option β) : evalBody ti0 p n ⟨c57, 5, Go.Proofs.Tryd.f57.results.toList, o57⟩ [a0] H k = f57 p n a0 H k := by kernel_rfl

/-! 15 loop.example/g00480/impl.MsgOk -/
noncomputable def f15 (p : Pr β) (n : Nat) (a0 : AV) (H : Heap) (k : AV → Heap → Option β) : Option β :=
  p.box a0 H fun t1 H =>
  p.fadr 0 t1 fun t3 =>
  p.load false 1 t3 H fun t4 =>
  p.call 4 (.fn 56 [] []) [t4] H fun t5 H =>
  p.guard t5 true H (fun k' => p.fadr 1 t1 fun t' => k' t' H) fun t7 H =>
  p.guard t5 true H (fun k' => p.load false 1 t7 H fun t' => k' t' H) fun t8 H =>
  p.guard t5 true H (fun k' => p.len t8 fun t' => k' t' H) fun t9 H =>
  p.guard t5 true H (fun k' => p.bin .leq t9 (.sc (.int .i64 40)) fun t' => k' t' H) fun t10 H =>
  p.pick t5 t10 (.sc (.bool false)) fun t11 =>
  p.guard t11 true H (fun k' => p.fadr 2 t1 fun t' => k' t' H) fun t13 H =>
  p.guard t11 true H (fun k' => p.load false 1 t13 H fun t' => k' t' H) fun t14 H =>
  p.guard t11 true H (fun k' => p.call 4 (.fn 57 [] []) [t14] H fun t' H => k' t' H) fun t15 H =>
  p.pick t11 t15 (.sc (.bool false)) fun t16 =>
  k t16 H
theorem f15_body (p : Pr β) (n : Nat) (a0 : AV) (H : Heap) (k : AV → Heap → Option β) : evalBody ti0 p n ⟨c15, 17, Go.Proofs.Tryd.f15.results.toList, o15⟩ [a0] H k = f15 p n a0 H k := by kernel_rfl

/-! 59 loop.example/g00480/impl.msgsOk -/
noncomputable def f59_l0 (p : Pr β) (n : Nat)  (k : AV → Heap → Option β) : Nat → AV → AV → AV → Heap → Option β
  | 0, _, _, _, _ => none
  | m + 1, t5, t6, t7, H => p.bin .lss t7 t6 fun t8 =>
      p.cond t8
      (p.iadr 4 t5 t7 fun t9 =>
      p.load true 4 t9 H fun t10 =>
      p.new [(.sc (.string ⟨#[]⟩)), .nl, (.sc (.int .i64 0)), (.sc (.bool false))] H fun t4 H =>
      p.store 4 t4 t10 H fun H =>
      p.load true 4 t4 H fun t11 =>
      p.call 4 (.fn 15 [] []) [t11] H fun t12 H =>
      p.un .not t12 fun t13 =>
      p.cond t13
      (k (.sc (.bool false)) H)
      (p.bin .add t7 (.sc (.int .i64 1)) fun t14 =>
      f59_l0 p n  k m t5 t6 t14 H))
      (k (.sc (.bool true)) H)
noncomputable def f59 (p : Pr β) (n : Nat) (a0 : AV) (H : Heap) (k : AV → Heap → Option β) : Option β :=
  p.len a0 fun t6 =>
  f59_l0 p n  k n a0 t6 (.sc (.int .i64 0)) H
noncomputable def f59_L0 (p : Pr β) (n : Nat)  (k : AV → Heap → Option β) (m : Nat) (tm : Tm) (H : Heap) : Option β :=
  iterC 15 (fun tm H k => evalCode ti0 p o59 15 n (cd c59 [1, 0, 1, 0, 0]) tm H k) (blkK 0 (seqK (fun tm H => evalCode ti0 p o59 15 n (cd c59 [1, 1]) tm H (endK ti0 p Go.Proofs.Tryd.f59.results.toList k)) (endK ti0 p Go.Proofs.Tryd.f59.results.toList k))) m tm H
theorem f59_L0_step (p : Pr β) (n : Nat)  (k : AV → Heap → Option β) (m0 : Nat) (t0 t1 t2 t3 t4 t5 t6 t7 t8 t9 t10 t11 t12 t13 t14 : AV) (H : Heap) : f59_L0 p n  k (m0 + 1) [(0, t0), (1, t1), (2, t2), (3, t3), (4, t4), (5, t5), (6, t6), (7, t7), (8, t8), (9, t9), (10, t10), (11, t11), (12, t12), (13, t13), (14, t14)] H =
  p.bin .lss t7 t6 fun t8 =>
  p.cond t8
  (p.iadr 4 t5 t7 fun t9 =>
  p.load true 4 t9 H fun t10 =>
  p.new [(.sc (.string ⟨#[]⟩)), .nl, (.sc (.int .i64 0)), (.sc (.bool false))] H fun t4 H =>
  p.store 4 t4 t10 H fun H =>
  p.load true 4 t4 H fun t11 =>
  p.call 4 (.fn 15 [] []) [t11] H fun t12 H =>
  p.un .not t12 fun t13 =>
  p.cond t13
  (k (.sc (.bool false)) H)
  (p.bin .add t7 (.sc (.int .i64 1)) fun t14 =>
  f59_L0 p n  k m0 [(0, t0), (1, t1), (2, t2), (3, t3), (4, t4), (5, t5), (6, t6), (7, t14), (8, t8), (9, t9), (10, t10), (11, t11), (12, t12), (13, t13), (14, t14)] H))
  (k (.sc (.bool true)) H) := by kernel_rfl
theorem f59_l0_eq (p : Pr β) (n : Nat)  (k : AV → Heap → Option β)   (m0 : Nat) : ∀ (t0 t1 t2 t3 t4 t5 t6 t7 t8 t9 t10 t11 t12 t13 t14 : AV) (H : Heap), f59_L0 p n  k m0 [(0, t0), (1, t1), (2, t2), (3, t3), (4, t4), (5, t5), (6, t6), (7, t7), (8, t8), (9, t9), (10, t10), (11, t11), (12, t12), (13, t13), (14, t14)] H = f59_l0 p n  k m0 t5 t6 t7 H := by
  induction m0 with
  | zero => intros; rfl
  | succ m0 ih =>
    intro t0 t1 t2 t3 t4 t5 t6 t7 t8 t9 t10 t11 t12 t13 t14 H
    rw [f59_L0_step]
    simp only [ih]
    rfl
theorem f59_raw (p : Pr β) (n : Nat) (a0 : AV) (H : Heap) (k : AV → Heap → Option β) : evalBody ti0 p n ⟨c59, 15, Go.Proofs.Tryd.f59.results.toList, o59⟩ [a0] H k =
  p.len a0 fun t6 =>
  f59_L0 p n  k n [(0, a0), (1, (.sc undef)), (2, (.sc (.bool false))), (3, (.sc undef)), (4, (.sc undef)), (5, a0), (6, t6), (7, (.sc (.int .i64 0))), (8, (.sc undef)), (9, (.sc undef)), (10, (.sc undef)), (11, (.sc undef)), (12, (.sc undef)), (13, (.sc undef)), (14, (.sc undef))] H := by kernel_rfl
theorem f59_body (p : Pr β) (n : Nat) (a0 : AV) (H : Heap) (k : AV → Heap → Option β) : evalBody ti0 p n ⟨c59, 15, Go.Proofs.Tryd.f59.results.toList, o59⟩ [a0] H k = f59 p n a0 H k := by
  rw [f59_raw]
  simp only [f59_l0_eq]
  rfl

/-! 20 loop.example/g00480/impl.QueueOk -/
noncomputable def f20 (p : Pr β) (n : Nat) (a0 : AV) (H : Heap) (k : AV → Heap → Option β) : Option β :=
  p.len a0 fun t4 =>
  p.bin .leq t4 (.sc (.int .i64 6)) fun t5 =>
  p.guard t5 true H (fun k' => k' a0 H) fun t7 H =>
  p.guard t5 true H (fun k' => p.call 4 (.fn 59 [] []) [t7] H fun t' H => k' t' H) fun t8 H =>
  p.pick t5 t8 (.sc (.bool false)) fun t9 =>
  k t9 H
theorem f20_body (p : Pr β) (n : Nat) (a0 : AV) (H : Heap) (k : AV → Heap → Option β) : evalBody ti0 p n ⟨c20, 10, Go.Proofs.Tryd.f20.results.toList, o20⟩ [a0] H k = f20 p n a0 H k := by kernel_rfl

/-! 40 loop.example/g00480/impl.Push -/
noncomputable def f40 (p : Pr β) (n : Nat) (a0 a1 : AV) (H : Heap) (k : AV → Heap → Option β) : Option β :=
  p.box a1 H fun t3 H =>
  p.call 34 (.fn 83 [] []) [a0] H fun t8 H =>
  p.call 4 (.fn 20 [] []) [a0] H fun t11 H =>
  p.un .not t11 fun t12 =>
  p.guard t12 false H (fun k' => p.load true 4 t3 H fun t' => k' t' H) fun t14 H =>
  p.guard t12 false H (fun k' => p.call 4 (.fn 15 [] []) [t14] H fun t' H => k' t' H) fun t15 H =>
  p.guard t12 false H (fun k' => p.un .not t15 fun t' => k' t' H) fun t16 H =>
  p.pick t12 (.sc (.bool true)) t16 fun t17 =>
  p.cond t17
  (k (packA [t8, (.sc (.int .i64 2))]) H)
  (p.len a0 fun t21 =>
  p.bin .lss t21 (.sc (.int .i64 6)) fun t22 =>
  p.cond t22
  (p.load true 4 t3 H fun t24 =>
  p.call 27 (.fn 84 [] []) [t24] H fun t25 H =>
  p.fill [(.sc (.string ⟨#[]⟩)), .nl, (.sc (.int .i64 0)), (.sc (.bool false))] [(0, 4, t25)] fun ct26 => p.newSl 1 4 ct26 true H fun t26 H =>
  p.app 4 56 t8 t26 H fun t27 H =>
  k (packA [t27, (.sc (.int .i64 0))]) H)
  (p.fadr 2 t3 fun t29 =>
  p.load false 1 t29 H fun t30 =>
  p.bin .eql t30 (.sc (.int .i64 0)) fun t31 =>
  p.cond t31
  (k (packA [t8, (.sc (.int .i64 1))]) H)
  (k (packA [t8, (.sc (.int .i64 2))]) H)))
theorem f40_body (p : Pr β) (n : Nat) (a0 a1 : AV) (H : Heap) (k : AV → Heap → Option β) : evalBody ti0 p n ⟨c40, 34, Go.Proofs.Tryd.f40.results.toList, o40⟩ [a0, a1] H k = f40 p n a0 a1 H k := by kernel_rfl

/-! 58 loop.example/g00480/laws.eqByteS -/
noncomputable def f58_l0 (p : Pr β) (n : Nat)  (k : AV → Heap → Option β) : Nat → AV → AV → AV → Heap → Option β
  | 0, _, _, _, _ => none
  | m + 1, t0, t1, t5, H => p.len t0 fun t13 =>
      p.bin .lss t5 t13 fun t14 =>
      p.cond t14
      (p.iadr 1 t0 t5 fun t19 =>
      p.load false 1 t19 H fun t20 =>
      p.iadr 1 t1 t5 fun t23 =>
      p.load false 1 t23 H fun t24 =>
      p.bin .neq t20 t24 fun t25 =>
      p.cond t25
      (k (.sc (.bool false)) H)
      (p.bin .add t5 (.sc (.int .i64 1)) fun t16 =>
      f58_l0 p n  k m t0 t1 t16 H))
      (k (.sc (.bool true)) H)
noncomputable def f58 (p : Pr β) (n : Nat) (a0 a1 : AV) (H : Heap) (k : AV → Heap → Option β) : Option β :=
  p.len a0 fun t7 =>
  p.len a1 fun t9 =>
  p.bin .neq t7 t9 fun t10 =>
  p.cond t10
  (k (.sc (.bool false)) H)
  (f58_l0 p n  k n a0 a1 (.sc (.int .i64 0)) H)
noncomputable def f58_L0 (p : Pr β) (n : Nat)  (k : AV → Heap → Option β) (m : Nat) (tm : Tm) (H : Heap) : Option β :=
  iterC 26 (fun tm H k => evalCode ti0 p o58 26 n (cd c58 [1, 1, 0, 1, 0, 0]) tm H k) (blkK 0 (seqK (fun tm H => evalCode ti0 p o58 26 n (cd c58 [1, 1, 1]) tm H (endK ti0 p Go.Proofs.Tryd.f58.results.toList k)) (endK ti0 p Go.Proofs.Tryd.f58.results.toList k))) m tm H
theorem f58_L0_step (p : Pr β) (n : Nat)  (k : AV → Heap → Option β) (m0 : Nat) (t0 t1 t2 t3 t4 t5 t6 t7 t8 t9 t10 t11 t12 t13 t14 t15 t16 t17 t18 t19 t20 t21 t22 t23 t24 t25 : AV) (H : Heap) : f58_L0 p n  k (m0 + 1) [(0, t0), (1, t1), (2, t2), (3, t3), (4, t4), (5, t5), (6, t6), (7, t7), (8, t8), (9, t9), (10, t10), (11, t11), (12, t12), (13, t13), (14, t14), (15, t15), (16, t16), (17, t17), (18, t18), (19, t19), (20, t20), (21, t21), (22, t22), (23, t23), (24, t24), (25, t25)] H =
  p.len t0 fun t13 =>
  p.bin .lss t5 t13 fun t14 =>
  p.cond t14
  (p.iadr 1 t0 t5 fun t19 =>
  p.load false 1 t19 H fun t20 =>
  p.iadr 1 t1 t5 fun t23 =>
  p.load false 1 t23 H fun t24 =>
  p.bin .neq t20 t24 fun t25 =>
  p.cond t25
  (k (.sc (.bool false)) H)
  (p.bin .add t5 (.sc (.int .i64 1)) fun t16 =>
  f58_L0 p n  k m0 [(0, t0), (1, t1), (2, t2), (3, t3), (4, t4), (5, t16), (6, t6), (7, t7), (8, t8), (9, t9), (10, t10), (11, t5), (12, t0), (13, t13), (14, t14), (15, t5), (16, t16), (17, t0), (18, t5), (19, t19), (20, t20), (21, t1), (22, t5), (23, t23), (24, t24), (25, t25)] H))
  (k (.sc (.bool true)) H) := by kernel_rfl
theorem f58_l0_eq (p : Pr β) (n : Nat)  (k : AV → Heap → Option β)   (m0 : Nat) : ∀ (t0 t1 t2 t3 t4 t5 t6 t7 t8 t9 t10 t11 t12 t13 t14 t15 t16 t17 t18 t19 t20 t21 t22 t23 t24 t25 : AV) (H : Heap), f58_L0 p n  k m0 [(0, t0), (1, t1), (2, t2), (3, t3), (4, t4), (5, t5), (6, t6), (7, t7), (8, t8), (9, t9), (10, t10), (11, t11), (12, t12), (13, t13), (14, t14), (15, t15), (16, t16), (17, t17), (18, t18), (19, t19), (20, t20), (21, t21), (22, t22), (23, t23), (24, t24), (25, t25)] H = f58_l0 p n  k m0 t0 t1 t5 H := by
  induction m0 with
  | zero => intros; rfl
  | succ m0 ih =>
    intro t0 t1 t2 t3 t4 t5 t6 t7 t8 t9 t10 t11 t12 t13 t14 t15 t16 t17 t18 t19 t20 t21 t22 t23 t24 t25 H
    rw [f58_L0_step]
    simp only [ih]
    rfl
theorem f58_raw (p : Pr β) (n : Nat) (a0 a1 : AV) (H : Heap) (k : AV → Heap → Option β) : evalBody ti0 p n ⟨c58, 26, Go.Proofs.Tryd.f58.results.toList, o58⟩ [a0, a1] H k =
  p.len a0 fun t7 =>
  p.len a1 fun t9 =>
  p.bin .neq t7 t9 fun t10 =>
  p.cond t10
  (k (.sc (.bool false)) H)
  (f58_L0 p n  k n [(0, a0), (1, a1), (2, (.sc undef)), (3, (.sc undef)), (4, (.sc (.bool false))), (5, (.sc (.int .i64 0))), (6, a0), (7, t7), (8, a1), (9, t9), (10, t10), (11, (.sc undef)), (12, (.sc undef)), (13, (.sc undef)), (14, (.sc undef)), (15, (.sc undef)), (16, (.sc undef)), (17, (.sc undef)), (18, (.sc undef)), (19, (.sc undef)), (20, (.sc undef)), (21, (.sc undef)), (22, (.sc undef)), (23, (.sc undef)), (24, (.sc undef)), (25, (.sc undef))] H) := by kernel_rfl
theorem f58_body (p : Pr β) (n : Nat) (a0 a1 : AV) (H : Heap) (k : AV → Heap → Option β) : evalBody ti0 p n ⟨c58, 26, Go.Proofs.Tryd.f58.results.toList, o58⟩ [a0, a1] H k = f58 p n a0 a1 H k := by
  rw [f58_raw]
  simp only [f58_l0_eq]
  rfl

/-! 16 loop.example/g00480/laws.eqMsg -/
noncomputable def f16 (p : Pr β) (n : Nat) (a0 a1 : AV) (H : Heap) (k : AV → Heap → Option β) : Option β :=
  p.box a0 H fun t2 H =>
  p.box a1 H fun t3 H =>
  p.fadr 0 t2 fun t5 =>
  p.load false 1 t5 H fun t6 =>
  p.fadr 0 t3 fun t7 =>
  p.load false 1 t7 H fun t8 =>
  p.bin .neq t6 t8 fun t9 =>
  p.cond t9
  (k (.sc (.bool false)) H)
  (p.fadr 1 t2 fun t10 =>
  p.load false 1 t10 H fun t11 =>
  p.fadr 1 t3 fun t12 =>
  p.load false 1 t12 H fun t13 =>
  p.call 4 (.fn 58 [] []) [t11, t13] H fun t14 H =>
  p.un .not t14 fun t15 =>
  p.cond t15
  (k (.sc (.bool false)) H)
  (p.fadr 2 t2 fun t16 =>
  p.load false 1 t16 H fun t17 =>
  p.fadr 2 t3 fun t18 =>
  p.load false 1 t18 H fun t19 =>
  p.bin .neq t17 t19 fun t20 =>
  p.cond t20
  (k (.sc (.bool false)) H)
  (p.fadr 3 t2 fun t21 =>
  p.load false 1 t21 H fun t22 =>
  p.fadr 3 t3 fun t23 =>
  p.load false 1 t23 H fun t24 =>
  p.binB .neq t22 t24 fun t25 =>
  p.cond t25
  (k (.sc (.bool false)) H)
  (k (.sc (.bool true)) H))))
theorem f16_body (p : Pr β) (n : Nat) (a0 a1 : AV) (H : Heap) (k : AV → Heap → Option β) : evalBody ti0 p n ⟨c16, 26, Go.Proofs.Tryd.f16.results.toList, o16⟩ [a0, a1] H k = f16 p n a0 a1 H k := by kernel_rfl

/-! 21 loop.example/g00480/laws.eqMsgS -/
noncomputable def f21_l0 (p : Pr β) (n : Nat)  (k : AV → Heap → Option β) : Nat → AV → AV → AV → Heap → Option β
  | 0, _, _, _, _ => none
  | m + 1, t0, t1, t5, H => p.len t0 fun t13 =>
      p.bin .lss t5 t13 fun t14 =>
      p.cond t14
      (p.iadr 4 t0 t5 fun t19 =>
      p.load true 4 t19 H fun t20 =>
      p.iadr 4 t1 t5 fun t23 =>
      p.load true 4 t23 H fun t24 =>
      p.call 4 (.fn 16 [] []) [t20, t24] H fun t25 H =>
      p.un .not t25 fun t26 =>
      p.cond t26
      (k (.sc (.bool false)) H)
      (p.bin .add t5 (.sc (.int .i64 1)) fun t16 =>
      f21_l0 p n  k m t0 t1 t16 H))
      (k (.sc (.bool true)) H)
noncomputable def f21 (p : Pr β) (n : Nat) (a0 a1 : AV) (H : Heap) (k : AV → Heap → Option β) : Option β :=
  p.len a0 fun t7 =>
  p.len a1 fun t9 =>
  p.bin .neq t7 t9 fun t10 =>
  p.cond t10
  (k (.sc (.bool false)) H)
  (f21_l0 p n  k n a0 a1 (.sc (.int .i64 0)) H)
noncomputable def f21_L0 (p : Pr β) (n : Nat)  (k : AV → Heap → Option β) (m : Nat) (tm : Tm) (H : Heap) : Option β :=
  iterC 27 (fun tm H k => evalCode ti0 p o21 27 n (cd c21 [1, 1, 0, 1, 0, 0]) tm H k) (blkK 0 (seqK (fun tm H => evalCode ti0 p o21 27 n (cd c21 [1, 1, 1]) tm H (endK ti0 p Go.Proofs.Tryd.f21.results.toList k)) (endK ti0 p Go.Proofs.Tryd.f21.results.toList k))) m tm H
theorem f21_L0_step (p : Pr β) (n : Nat)  (k : AV → Heap → Option β) (m0 : Nat) (t0 t1 t2 t3 t4 t5 t6 t7 t8 t9 t10 t11 t12 t13 t14 t15 t16 t17 t18 t19 t20 t21 t22 t23 t24 t25 t26 : AV) (H : Heap) : f21_L0 p n  k (m0 + 1) [(0, t0), (1, t1), (2, t2), (3, t3), (4, t4), (5, t5), (6, t6), (7, t7), (8, t8), (9, t9), (10, t10), (11, t11), (12, t12), (13, t13), (14, t14), (15, t15), (16, t16), (17, t17), (18, t18), (19, t19), (20, t20), (21, t21), (22, t22), (23, t23), (24, t24), (25, t25), (26, t26)] H =
  p.len t0 fun t13 =>
  p.bin .lss t5 t13 fun t14 =>
  p.cond t14
  (p.iadr 4 t0 t5 fun t19 =>
  p.load true 4 t19 H fun t20 =>
  p.iadr 4 t1 t5 fun t23 =>
  p.load true 4 t23 H fun t24 =>
  p.call 4 (.fn 16 [] []) [t20, t24] H fun t25 H =>
  p.un .not t25 fun t26 =>
  p.cond t26
  (k (.sc (.bool false)) H)
  (p.bin .add t5 (.sc (.int .i64 1)) fun t16 =>
  f21_L0 p n  k m0 [(0, t0), (1, t1), (2, t2), (3, t3), (4, t4), (5, t16), (6, t6), (7, t7), (8, t8), (9, t9), (10, t10), (11, t5), (12, t0), (13, t13), (14, t14), (15, t5), (16, t16), (17, t0), (18, t5), (19, t19), (20, t20), (21, t1), (22, t5), (23, t23), (24, t24), (25, t25), (26, t26)] H))
  (k (.sc (.bool true)) H) := by kernel_rfl
theorem f21_l0_eq (p : Pr β) (n : Nat)  (k : AV → Heap → Option β)   (m0 : Nat) : ∀ (t0 t1 t2 t3 t4 t5 t6 t7 t8 t9 t10 t11 t12 t13 t14 t15 t16 t17 t18 t19 t20 t21 t22 t23 t24 t25 t26 : AV) (H : Heap), f21_L0 p n  k m0 [(0, t0), (1, t1), (2, t2), (3, t3), (4, t4), (5, t5), (6, t6), (7, t7), (8, t8), (9, t9), (10, t10), (11, t11), (12, t12), (13, t13), (14, t14), (15, t15), (16, t16), (17, t17), (18, t18), (19, t19), (20, t20), (21, t21), (22, t22), (23, t23), (24, t24), (25, t25), (26, t26)] H = f21_l0 p n  k m0 t0 t1 t5 H := by
  induction m0 with
  | zero => intros; rfl
  | succ m0 ih =>
    intro t0 t1 t2 t3 t4 t5 t6 t7 t8 t9 t10 t11 t12 t13 t14 t15 t16 t17 t18 t19 t20 t21 t22 t23 t24 t25 t26 H
    rw [f21_L0_step]
    simp only [ih]
    rfl
theorem f21_raw (p : Pr β) (n : Nat) (a0 a1 : AV) (H : Heap) (k : AV → Heap → Option β) : evalBody ti0 p n ⟨c21, 27, Go.Proofs.Tryd.f21.results.toList, o21⟩ [a0, a1] H k =
  p.len a0 fun t7 =>
  p.len a1 fun t9 =>
  p.bin .neq t7 t9 fun t10 =>
  p.cond t10
  (k (.sc (.bool false)) H)
  (f21_L0 p n  k n [(0, a0), (1, a1), (2, (.sc undef)), (3, (.sc undef)), (4, (.sc (.bool false))), (5, (.sc (.int .i64 0))), (6, a0), (7, t7), (8, a1), (9, t9), (10, t10), (11, (.sc undef)), (12, (.sc undef)), (13, (.sc undef)), (14, (.sc undef)), (15, (.sc undef)), (16, (.sc undef)), (17, (.sc undef)), (18, (.sc undef)), (19, (.sc undef)), (20, (.sc undef)), (21, (.sc undef)), (22, (.sc undef)), (23, (.sc undef)), (24, (.sc undef)), (25, (.sc undef)), (26, (.sc undef))] H) := by kernel_rfl
theorem f21_body (p : Pr β) (n : Nat) (a0 a1 : AV) (H : Heap) (k : AV → Heap → Option β) : evalBody ti0 p n ⟨c21, 27, Go.Proofs.Tryd.f21.results.toList, o21⟩ [a0, a1] H k = f21 p n a0 a1 H k := by
  rw [f21_raw]
  simp only [f21_l0_eq]
  rfl

/-! 85 loop.example/g00480/laws.markText -/
noncomputable def f85_l0 (p : Pr β) (n : Nat)  (k : AV → Heap → Option β) : Nat → AV → AV → Heap → Option β
  | 0, _, _, _ => none
  | m + 1, t0, t3, H => p.bin .gtr t0 (.sc (.int .i64 0)) fun t7 =>
      p.cond t7
      (p.bin .rem t0 (.sc (.int .i64 10)) fun t9 =>
      p.bin .add (.sc (.int .i64 48)) t9 fun t10 =>
      p.cvI .u8 t10 fun t11 =>
      p.fill [(.sc (.int .u8 0))] [(0, 1, t11)] fun ct12 => p.newSl 1 1 ct12 true H fun t12 H =>
      p.cvBS t12 H fun t13 =>
      p.bin .add t13 t3 fun t15 =>
      p.bin .quo t0 (.sc (.int .i64 10)) fun t17 =>
      f85_l0 p n  k m t17 t15 H)
      (p.bin .add (.sc (.string ⟨#[109]⟩)) t3 fun t19 =>
      k t19 H)
noncomputable def f85 (p : Pr β) (n : Nat) (a0 : AV) (H : Heap) (k : AV → Heap → Option β) : Option β :=
  p.bin .leq a0 (.sc (.int .i64 0)) fun t5 =>
  p.cond t5
  (k (.sc (.string ⟨#[109, 48]⟩)) H)
  (f85_l0 p n  k n a0 (.sc (.string ⟨#[]⟩)) H)
noncomputable def f85_L0 (p : Pr β) (n : Nat)  (k : AV → Heap → Option β) (m : Nat) (tm : Tm) (H : Heap) : Option β :=
  iterC 20 (fun tm H k => evalCode ti0 p o85 20 n (cd c85 [1, 1, 1, 0, 0, 0]) tm H k) (blkK 0 (seqK (fun tm H => evalCode ti0 p o85 20 n (cd c85 [1, 1, 1, 1]) tm H (endK ti0 p Go.Proofs.Tryd.f85.results.toList k)) (endK ti0 p Go.Proofs.Tryd.f85.results.toList k))) m tm H
theorem f85_L0_step (p : Pr β) (n : Nat)  (k : AV → Heap → Option β) (m0 : Nat) (t0 t1 t2 t3 t4 t5 t6 t7 t8 t9 t10 t11 t12 t13 t14 t15 t16 t17 t18 t19 : AV) (H : Heap) : f85_L0 p n  k (m0 + 1) [(0, t0), (1, t1), (2, t2), (3, t3), (4, t4), (5, t5), (6, t6), (7, t7), (8, t8), (9, t9), (10, t10), (11, t11), (12, t12), (13, t13), (14, t14), (15, t15), (16, t16), (17, t17), (18, t18), (19, t19)] H =
  p.bin .gtr t0 (.sc (.int .i64 0)) fun t7 =>
  p.cond t7
  (p.bin .rem t0 (.sc (.int .i64 10)) fun t9 =>
  p.bin .add (.sc (.int .i64 48)) t9 fun t10 =>
  p.cvI .u8 t10 fun t11 =>
  p.fill [(.sc (.int .u8 0))] [(0, 1, t11)] fun ct12 => p.newSl 1 1 ct12 true H fun t12 H =>
  p.cvBS t12 H fun t13 =>
  p.bin .add t13 t3 fun t15 =>
  p.bin .quo t0 (.sc (.int .i64 10)) fun t17 =>
  f85_L0 p n  k m0 [(0, t17), (1, t1), (2, t2), (3, t15), (4, t4), (5, t5), (6, t0), (7, t7), (8, t0), (9, t9), (10, t10), (11, t11), (12, t12), (13, t13), (14, t3), (15, t15), (16, t0), (17, t17), (18, t18), (19, t19)] H)
  (p.bin .add (.sc (.string ⟨#[109]⟩)) t3 fun t19 =>
  k t19 H) := by kernel_rfl
theorem f85_l0_eq (p : Pr β) (n : Nat)  (k : AV → Heap → Option β)   (m0 : Nat) : ∀ (t0 t1 t2 t3 t4 t5 t6 t7 t8 t9 t10 t11 t12 t13 t14 t15 t16 t17 t18 t19 : AV) (H : Heap), f85_L0 p n  k m0 [(0, t0), (1, t1), (2, t2), (3, t3), (4, t4), (5, t5), (6, t6), (7, t7), (8, t8), (9, t9), (10, t10), (11, t11), (12, t12), (13, t13), (14, t14), (15, t15), (16, t16), (17, t17), (18, t18), (19, t19)] H = f85_l0 p n  k m0 t0 t3 H := by
  induction m0 with
  | zero => intros; rfl
  | succ m0 ih =>
    intro t0 t1 t2 t3 t4 t5 t6 t7 t8 t9 t10 t11 t12 t13 t14 t15 t16 t17 t18 t19 H
    rw [f85_L0_step]
    simp only [ih]
    rfl
theorem f85_raw (p : Pr β) (n : Nat) (a0 : AV) (H : Heap) (k : AV → Heap → Option β) : evalBody ti0 p n ⟨c85, 20, Go.Proofs.Tryd.f85.results.toList, o85⟩ [a0] H k =
  p.bin .leq a0 (.sc (.int .i64 0)) fun t5 =>
  p.cond t5
  (k (.sc (.string ⟨#[109, 48]⟩)) H)
  (f85_L0 p n  k n [(0, a0), (1, (.sc undef)), (2, (.sc (.string ⟨#[]⟩))), (3, (.sc (.string ⟨#[]⟩))), (4, a0), (5, t5), (6, (.sc undef)), (7, (.sc undef)), (8, (.sc undef)), (9, (.sc undef)), (10, (.sc undef)), (11, (.sc undef)), (12, (.sc undef)), (13, (.sc undef)), (14, (.sc undef)), (15, (.sc undef)), (16, (.sc undef)), (17, (.sc undef)), (18, (.sc undef)), (19, (.sc undef))] H) := by kernel_rfl
theorem f85_body (p : Pr β) (n : Nat) (a0 : AV) (H : Heap) (k : AV → Heap → Option β) : evalBody ti0 p n ⟨c85, 20, Go.Proofs.Tryd.f85.results.toList, o85⟩ [a0] H k = f85 p n a0 H k := by
  rw [f85_raw]
  simp only [f85_l0_eq]
  rfl

/-! 86 loop.example/g00480/laws.markByteS -/
noncomputable def f86_l0 (p : Pr β) (n : Nat)  (k : AV → Heap → Option β) : Nat → AV → AV → AV → Heap → Option β
  | 0, _, _, _, _ => none
  | m + 1, t0, t1, t5, H => p.len t0 fun t8 =>
      p.bin .lss t5 t8 fun t9 =>
      p.cond t9
      (p.cvI .u8 t1 fun t15 =>
      p.iadr 1 t0 t5 fun t16 =>
      p.store 1 t16 t15 H fun H =>
      p.bin .add t1 (.sc (.int .i64 1)) fun t18 =>
      p.bin .add t5 (.sc (.int .i64 1)) fun t11 =>
      f86_l0 p n  k m t0 t18 t11 H)
      (k t1 H)
noncomputable def f86 (p : Pr β) (n : Nat) (a0 a1 : AV) (H : Heap) (k : AV → Heap → Option β) : Option β :=
  f86_l0 p n  k n a0 a1 (.sc (.int .i64 0)) H
noncomputable def f86_L0 (p : Pr β) (n : Nat)  (k : AV → Heap → Option β) (m : Nat) (tm : Tm) (H : Heap) : Option β :=
  iterC 20 (fun tm H k => evalCode ti0 p o86 20 n (cd c86 [1, 0, 1, 0, 0]) tm H k) (blkK 0 (seqK (fun tm H => evalCode ti0 p o86 20 n (cd c86 [1, 1]) tm H (endK ti0 p Go.Proofs.Tryd.f86.results.toList k)) (endK ti0 p Go.Proofs.Tryd.f86.results.toList k))) m tm H
theorem f86_L0_step (p : Pr β) (n : Nat)  (k : AV → Heap → Option β) (m0 : Nat) (t0 t1 t2 t3 t4 t5 t6 t7 t8 t9 t10 t11 t12 t13 t14 t15 t16 t17 t18 t19 : AV) (H : Heap) : f86_L0 p n  k (m0 + 1) [(0, t0), (1, t1), (2, t2), (3, t3), (4, t4), (5, t5), (6, t6), (7, t7), (8, t8), (9, t9), (10, t10), (11, t11), (12, t12), (13, t13), (14, t14), (15, t15), (16, t16), (17, t17), (18, t18), (19, t19)] H =
  p.len t0 fun t8 =>
  p.bin .lss t5 t8 fun t9 =>
  p.cond t9
  (p.cvI .u8 t1 fun t15 =>
  p.iadr 1 t0 t5 fun t16 =>
  p.store 1 t16 t15 H fun H =>
  p.bin .add t1 (.sc (.int .i64 1)) fun t18 =>
  p.bin .add t5 (.sc (.int .i64 1)) fun t11 =>
  f86_L0 p n  k m0 [(0, t0), (1, t18), (2, t2), (3, t3), (4, t4), (5, t11), (6, t5), (7, t0), (8, t8), (9, t9), (10, t5), (11, t11), (12, t0), (13, t5), (14, t1), (15, t15), (16, t16), (17, t1), (18, t18), (19, t19)] H)
  (k t1 H) := by kernel_rfl
theorem f86_l0_eq (p : Pr β) (n : Nat)  (k : AV → Heap → Option β)   (m0 : Nat) : ∀ (t0 t1 t2 t3 t4 t5 t6 t7 t8 t9 t10 t11 t12 t13 t14 t15 t16 t17 t18 t19 : AV) (H : Heap), f86_L0 p n  k m0 [(0, t0), (1, t1), (2, t2), (3, t3), (4, t4), (5, t5), (6, t6), (7, t7), (8, t8), (9, t9), (10, t10), (11, t11), (12, t12), (13, t13), (14, t14), (15, t15), (16, t16), (17, t17), (18, t18), (19, t19)] H = f86_l0 p n  k m0 t0 t1 t5 H := by
  induction m0 with
  | zero => intros; rfl
  | succ m0 ih =>
    intro t0 t1 t2 t3 t4 t5 t6 t7 t8 t9 t10 t11 t12 t13 t14 t15 t16 t17 t18 t19 H
    rw [f86_L0_step]
    simp only [ih]
    rfl
theorem f86_raw (p : Pr β) (n : Nat) (a0 a1 : AV) (H : Heap) (k : AV → Heap → Option β) : evalBody ti0 p n ⟨c86, 20, Go.Proofs.Tryd.f86.results.toList, o86⟩ [a0, a1] H k =
  f86_L0 p n  k n [(0, a0), (1, a1), (2, (.sc undef)), (3, (.sc undef)), (4, (.sc (.int .i64 0))), (5, (.sc (.int .i64 0))), (6, (.sc undef)), (7, (.sc undef)), (8, (.sc undef)), (9, (.sc undef)), (10, (.sc undef)), (11, (.sc undef)), (12, (.sc undef)), (13, (.sc undef)), (14, (.sc undef)), (15, (.sc undef)), (16, (.sc undef)), (17, (.sc undef)), (18, (.sc undef)), (19, (.sc undef))] H := by kernel_rfl
theorem f86_body (p : Pr β) (n : Nat) (a0 a1 : AV) (H : Heap) (k : AV → Heap → Option β) : evalBody ti0 p n ⟨c86, 20, Go.Proofs.Tryd.f86.results.toList, o86⟩ [a0, a1] H k = f86 p n a0 a1 H k := by
  rw [f86_raw]
  simp only [f86_l0_eq]
  rfl

/-! 41 loop.example/g00480/laws.markMsgS -/
noncomputable def f41_l0 (p : Pr β) (n : Nat)  (k : AV → Heap → Option β) : Nat → AV → AV → AV → Heap → Option β
  | 0, _, _, _, _ => none
  | m + 1, t0, t1, t5, H => p.len t0 fun t8 =>
      p.bin .lss t5 t8 fun t9 =>
      p.cond t9
      (p.call 9 (.fn 85 [] []) [t1] H fun t15 H =>
      p.iadr 4 t0 t5 fun t16 =>
      p.fadr 0 t16 fun t17 =>
      p.store 1 t17 t15 H fun H =>
      p.bin .add t1 (.sc (.int .i64 1)) fun t19 =>
      p.iadr 4 t0 t5 fun t22 =>
      p.fadr 1 t22 fun t23 =>
      p.load false 1 t23 H fun t24 =>
      p.call 3 (.fn 86 [] []) [t24, t19] H fun t26 H =>
      p.iadr 4 t0 t5 fun t30 =>
      p.fadr 2 t30 fun t31 =>
      p.store 1 t31 t26 H fun H =>
      p.bin .add t26 (.sc (.int .i64 1)) fun t33 =>
      p.bin .rem t33 (.sc (.int .i64 3)) fun t37 =>
      p.bin .eql t37 (.sc (.int .i64 0)) fun t38 =>
      p.iadr 4 t0 t5 fun t39 =>
      p.fadr 3 t39 fun t40 =>
      p.store 1 t40 t38 H fun H =>
      p.bin .add t33 (.sc (.int .i64 1)) fun t42 =>
      p.bin .add t5 (.sc (.int .i64 1)) fun t11 =>
      f41_l0 p n  k m t0 t42 t11 H)
      (k t1 H)
noncomputable def f41 (p : Pr β) (n : Nat) (a0 a1 : AV) (H : Heap) (k : AV → Heap → Option β) : Option β :=
  f41_l0 p n  k n a0 a1 (.sc (.int .i64 0)) H
noncomputable def f41_L0 (p : Pr β) (n : Nat)  (k : AV → Heap → Option β) (m : Nat) (tm : Tm) (H : Heap) : Option β :=
  iterC 44 (fun tm H k => evalCode ti0 p o41 44 n (cd c41 [1, 0, 1, 0, 0]) tm H k) (blkK 0 (seqK (fun tm H => evalCode ti0 p o41 44 n (cd c41 [1, 1]) tm H (endK ti0 p Go.Proofs.Tryd.f41.results.toList k)) (endK ti0 p Go.Proofs.Tryd.f41.results.toList k))) m tm H
theorem f41_L0_step (p : Pr β) (n : Nat)  (k : AV → Heap → Option β) (m0 : Nat) (t0 t1 t2 t3 t4 t5 t6 t7 t8 t9 t10 t11 t12 t13 t14 t15 t16 t17 t18 t19 t20 t21 t22 t23 t24 t25 t26 t27 t28 t29 t30 t31 t32 t33 t34 t35 t36 t37 t38 t39 t40 t41 t42 t43 : AV) (H : Heap) : f41_L0 p n  k (m0 + 1) [(0, t0), (1, t1), (2, t2), (3, t3), (4, t4), (5, t5), (6, t6), (7, t7), (8, t8), (9, t9), (10, t10), (11, t11), (12, t12), (13, t13), (14, t14), (15, t15), (16, t16), (17, t17), (18, t18), (19, t19), (20, t20), (21, t21), (22, t22), (23, t23), (24, t24), (25, t25), (26, t26), (27, t27), (28, t28), (29, t29), (30, t30), (31, t31), (32, t32), (33, t33), (34, t34), (35, t35), (36, t36), (37, t37), (38, t38), (39, t39), (40, t40), (41, t41), (42, t42), (43, t43)] H =
  p.len t0 fun t8 =>
  p.bin .lss t5 t8 fun t9 =>
  p.cond t9
  (p.call 9 (.fn 85 [] []) [t1] H fun t15 H =>
  p.iadr 4 t0 t5 fun t16 =>
  p.fadr 0 t16 fun t17 =>
  p.store 1 t17 t15 H fun H =>
  p.bin .add t1 (.sc (.int .i64 1)) fun t19 =>
  p.iadr 4 t0 t5 fun t22 =>
  p.fadr 1 t22 fun t23 =>
  p.load false 1 t23 H fun t24 =>
  p.call 3 (.fn 86 [] []) [t24, t19] H fun t26 H =>
  p.iadr 4 t0 t5 fun t30 =>
  p.fadr 2 t30 fun t31 =>
  p.store 1 t31 t26 H fun H =>
  p.bin .add t26 (.sc (.int .i64 1)) fun t33 =>
  p.bin .rem t33 (.sc (.int .i64 3)) fun t37 =>
  p.bin .eql t37 (.sc (.int .i64 0)) fun t38 =>
  p.iadr 4 t0 t5 fun t39 =>
  p.fadr 3 t39 fun t40 =>
  p.store 1 t40 t38 H fun H =>
  p.bin .add t33 (.sc (.int .i64 1)) fun t42 =>
  p.bin .add t5 (.sc (.int .i64 1)) fun t11 =>
  f41_L0 p n  k m0 [(0, t0), (1, t42), (2, t2), (3, t3), (4, t4), (5, t11), (6, t5), (7, t0), (8, t8), (9, t9), (10, t5), (11, t11), (12, t0), (13, t5), (14, t1), (15, t15), (16, t16), (17, t17), (18, t1), (19, t19), (20, t0), (21, t5), (22, t22), (23, t23), (24, t24), (25, t19), (26, t26), (27, t0), (28, t5), (29, t26), (30, t30), (31, t31), (32, t26), (33, t33), (34, t0), (35, t5), (36, t33), (37, t37), (38, t38), (39, t39), (40, t40), (41, t33), (42, t42), (43, t43)] H)
  (k t1 H) := by kernel_rfl
theorem f41_l0_eq (p : Pr β) (n : Nat)  (k : AV → Heap → Option β)   (m0 : Nat) : ∀ (t0 t1 t2 t3 t4 t5 t6 t7 t8 t9 t10 t11 t12 t13 t14 t15 t16 t17 t18 t19 t20 t21 t22 t23 t24 t25 t26 t27 t28 t29 t30 t31 t32 t33 t34 t35 t36 t37 t38 t39 t40 t41 t42 t43 : AV) (H : Heap), f41_L0 p n  k m0 [(0, t0), (1, t1), (2, t2), (3, t3), (4, t4), (5, t5), (6, t6), (7, t7), (8, t8), (9, t9), (10, t10), (11, t11), (12, t12), (13, t13), (14, t14), (15, t15), (16, t16), (17, t17), (18, t18), (19, t19), (20, t20), (21, t21), (22, t22), (23, t23), (24, t24), (25, t25), (26, t26), (27, t27), (28, t28), (29, t29), (30, t30), (31, t31), (32, t32), (33, t33), (34, t34), (35, t35), (36, t36), (37, t37), (38, t38), (39, t39), (40, t40), (41, t41), (42, t42), (43, t43)] H = f41_l0 p n  k m0 t0 t1 t5 H := by
  induction m0 with
  | zero => intros; rfl
  | succ m0 ih =>
    intro t0 t1 t2 t3 t4 t5 t6 t7 t8 t9 t10 t11 t12 t13 t14 t15 t16 t17 t18 t19 t20 t21 t22 t23 t24 t25 t26 t27 t28 t29 t30 t31 t32 t33 t34 t35 t36 t37 t38 t39 t40 t41 t42 t43 H
    rw [f41_L0_step]
    simp only [ih]
    rfl
theorem f41_raw (p : Pr β) (n : Nat) (a0 a1 : AV) (H : Heap) (k : AV → Heap → Option β) : evalBody ti0 p n ⟨c41, 44, Go.Proofs.Tryd.f41.results.toList, o41⟩ [a0, a1] H k =
  f41_L0 p n  k n [(0, a0), (1, a1), (2, (.sc undef)), (3, (.sc undef)), (4, (.sc (.int .i64 0))), (5, (.sc (.int .i64 0))), (6, (.sc undef)), (7, (.sc undef)), (8, (.sc undef)), (9, (.sc undef)), (10, (.sc undef)), (11, (.sc undef)), (12, (.sc undef)), (13, (.sc undef)), (14, (.sc undef)), (15, (.sc undef)), (16, (.sc undef)), (17, (.sc undef)), (18, (.sc undef)), (19, (.sc undef)), (20, (.sc undef)), (21, (.sc undef)), (22, (.sc undef)), (23, (.sc undef)), (24, (.sc undef)), (25, (.sc undef)), (26, (.sc undef)), (27, (.sc undef)), (28, (.sc undef)), (29, (.sc undef)), (30, (.sc undef)), (31, (.sc undef)), (32, (.sc undef)), (33, (.sc undef)), (34, (.sc undef)), (35, (.sc undef)), (36, (.sc undef)), (37, (.sc undef)), (38, (.sc undef)), (39, (.sc undef)), (40, (.sc undef)), (41, (.sc undef)), (42, (.sc undef)), (43, (.sc undef))] H := by kernel_rfl
theorem f41_body (p : Pr β) (n : Nat) (a0 a1 : AV) (H : Heap) (k : AV → Heap → Option β) : evalBody ti0 p n ⟨c41, 44, Go.Proofs.Tryd.f41.results.toList, o41⟩ [a0, a1] H k = f41 p n a0 a1 H k := by
  rw [f41_raw]
  simp only [f41_l0_eq]
  rfl

/-! 42 loop.example/g00480/laws.markMsg -/
noncomputable def f42 (p : Pr β) (n : Nat) (a0 a1 : AV) (H : Heap) (k : AV → Heap → Option β) : Option β :=
  p.box a0 H fun t2 H =>
  p.fadr 1 t2 fun t5 =>
  p.load false 1 t5 H fun t6 =>
  p.call 3 (.fn 86 [] []) [t6, a1] H fun t8 H =>
  k t8 H
theorem f42_body (p : Pr β) (n : Nat) (a0 a1 : AV) (H : Heap) (k : AV → Heap → Option β) : evalBody ti0 p n ⟨c42, 10, Go.Proofs.Tryd.f42.results.toList, o42⟩ [a0, a1] H k = f42 p n a0 a1 H k := by kernel_rfl

/-! 87 loop.example/g00480/laws.heldByteS -/
noncomputable def f87_l0 (p : Pr β) (n : Nat)  (k : AV → Heap → Option β) : Nat → AV → AV → AV → Heap → Option β
  | 0, _, _, _, _ => none
  | m + 1, t0, t1, t5, H => p.len t0 fun t8 =>
      p.bin .lss t5 t8 fun t9 =>
      p.cond t9
      (p.iadr 1 t0 t5 fun t14 =>
      p.load false 1 t14 H fun t15 =>
      p.cvI .u8 t1 fun t17 =>
      p.bin .neq t15 t17 fun t18 =>
      p.cond t18
      (k (.sc (.int .i64 (-1))) H)
      (p.bin .add t1 (.sc (.int .i64 1)) fun t20 =>
      p.bin .add t5 (.sc (.int .i64 1)) fun t11 =>
      f87_l0 p n  k m t0 t20 t11 H))
      (k t1 H)
noncomputable def f87 (p : Pr β) (n : Nat) (a0 a1 : AV) (H : Heap) (k : AV → Heap → Option β) : Option β :=
  f87_l0 p n  k n a0 a1 (.sc (.int .i64 0)) H
noncomputable def f87_L0 (p : Pr β) (n : Nat)  (k : AV → Heap → Option β) (m : Nat) (tm : Tm) (H : Heap) : Option β :=
  iterC 22 (fun tm H k => evalCode ti0 p o87 22 n (cd c87 [1, 0, 1, 0, 0]) tm H k) (blkK 0 (seqK (fun tm H => evalCode ti0 p o87 22 n (cd c87 [1, 1]) tm H (endK ti0 p Go.Proofs.Tryd.f87.results.toList k)) (endK ti0 p Go.Proofs.Tryd.f87.results.toList k))) m tm H
theorem f87_L0_step (p : Pr β) (n : Nat)  (k : AV → Heap → Option β) (m0 : Nat) (t0 t1 t2 t3 t4 t5 t6 t7 t8 t9 t10 t11 t12 t13 t14 t15 t16 t17 t18 t19 t20 t21 : AV) (H : Heap) : f87_L0 p n  k (m0 + 1) [(0, t0), (1, t1), (2, t2), (3, t3), (4, t4), (5, t5), (6, t6), (7, t7), (8, t8), (9, t9), (10, t10), (11, t11), (12, t12), (13, t13), (14, t14), (15, t15), (16, t16), (17, t17), (18, t18), (19, t19), (20, t20), (21, t21)] H =
  p.len t0 fun t8 =>
  p.bin .lss t5 t8 fun t9 =>
  p.cond t9
  (p.iadr 1 t0 t5 fun t14 =>
  p.load false 1 t14 H fun t15 =>
  p.cvI .u8 t1 fun t17 =>
  p.bin .neq t15 t17 fun t18 =>
  p.cond t18
  (k (.sc (.int .i64 (-1))) H)
  (p.bin .add t1 (.sc (.int .i64 1)) fun t20 =>
  p.bin .add t5 (.sc (.int .i64 1)) fun t11 =>
  f87_L0 p n  k m0 [(0, t0), (1, t20), (2, t2), (3, t3), (4, t4), (5, t11), (6, t5), (7, t0), (8, t8), (9, t9), (10, t5), (11, t11), (12, t0), (13, t5), (14, t14), (15, t15), (16, t1), (17, t17), (18, t18), (19, t1), (20, t20), (21, t21)] H))
  (k t1 H) := by kernel_rfl
theorem f87_l0_eq (p : Pr β) (n : Nat)  (k : AV → Heap → Option β)   (m0 : Nat) : ∀ (t0 t1 t2 t3 t4 t5 t6 t7 t8 t9 t10 t11 t12 t13 t14 t15 t16 t17 t18 t19 t20 t21 : AV) (H : Heap), f87_L0 p n  k m0 [(0, t0), (1, t1), (2, t2), (3, t3), (4, t4), (5, t5), (6, t6), (7, t7), (8, t8), (9, t9), (10, t10), (11, t11), (12, t12), (13, t13), (14, t14), (15, t15), (16, t16), (17, t17), (18, t18), (19, t19), (20, t20), (21, t21)] H = f87_l0 p n  k m0 t0 t1 t5 H := by
  induction m0 with
  | zero => intros; rfl
  | succ m0 ih =>
    intro t0 t1 t2 t3 t4 t5 t6 t7 t8 t9 t10 t11 t12 t13 t14 t15 t16 t17 t18 t19 t20 t21 H
    rw [f87_L0_step]
    simp only [ih]
    rfl
theorem f87_raw (p : Pr β) (n : Nat) (a0 a1 : AV) (H : Heap) (k : AV → Heap → Option β) : evalBody ti0 p n ⟨c87, 22, Go.Proofs.Tryd.f87.results.toList, o87⟩ [a0, a1] H k =
  f87_L0 p n  k n [(0, a0), (1, a1), (2, (.sc undef)), (3, (.sc undef)), (4, (.sc (.int .i64 0))), (5, (.sc (.int .i64 0))), (6, (.sc undef)), (7, (.sc undef)), (8, (.sc undef)), (9, (.sc undef)), (10, (.sc undef)), (11, (.sc undef)), (12, (.sc undef)), (13, (.sc undef)), (14, (.sc undef)), (15, (.sc undef)), (16, (.sc undef)), (17, (.sc undef)), (18, (.sc undef)), (19, (.sc undef)), (20, (.sc undef)), (21, (.sc undef))] H := by kernel_rfl
theorem f87_body (p : Pr β) (n : Nat) (a0 a1 : AV) (H : Heap) (k : AV → Heap → Option β) : evalBody ti0 p n ⟨c87, 22, Go.Proofs.Tryd.f87.results.toList, o87⟩ [a0, a1] H k = f87 p n a0 a1 H k := by
  rw [f87_raw]
  simp only [f87_l0_eq]
  rfl

/-! 43 loop.example/g00480/laws.heldMsgS -/
noncomputable def f43_l0 (p : Pr β) (n : Nat)  (k : AV → Heap → Option β) : Nat → AV → AV → AV → Heap → Option β
  | 0, _, _, _, _ => none
  | m + 1, t0, t1, t5, H => p.len t0 fun t8 =>
      p.bin .lss t5 t8 fun t9 =>
      p.cond t9
      (p.iadr 4 t0 t5 fun t14 =>
      p.fadr 0 t14 fun t15 =>
      p.load false 1 t15 H fun t16 =>
      p.call 9 (.fn 85 [] []) [t1] H fun t18 H =>
      p.bin .neq t16 t18 fun t19 =>
      p.cond t19
      (k (.sc (.int .i64 (-1))) H)
      (p.bin .add t1 (.sc (.int .i64 1)) fun t21 =>
      p.iadr 4 t0 t5 fun t24 =>
      p.fadr 1 t24 fun t25 =>
      p.load false 1 t25 H fun t26 =>
      p.call 3 (.fn 87 [] []) [t26, t21] H fun t28 H =>
      p.bin .lss t28 (.sc (.int .i64 0)) fun t30 =>
      p.cond t30
      (k (.sc (.int .i64 (-1))) H)
      (p.iadr 4 t0 t5 fun t33 =>
      p.fadr 2 t33 fun t34 =>
      p.load false 1 t34 H fun t35 =>
      p.bin .neq t35 t28 fun t37 =>
      p.cond t37
      (k (.sc (.int .i64 (-1))) H)
      (p.bin .add t28 (.sc (.int .i64 1)) fun t39 =>
      p.iadr 4 t0 t5 fun t42 =>
      p.fadr 3 t42 fun t43 =>
      p.load false 1 t43 H fun t44 =>
      p.bin .rem t39 (.sc (.int .i64 3)) fun t46 =>
      p.bin .eql t46 (.sc (.int .i64 0)) fun t47 =>
      p.binB .neq t44 t47 fun t48 =>
      p.cond t48
      (k (.sc (.int .i64 (-1))) H)
      (p.bin .add t39 (.sc (.int .i64 1)) fun t50 =>
      p.bin .add t5 (.sc (.int .i64 1)) fun t11 =>
      f43_l0 p n  k m t0 t50 t11 H)))))
      (k t1 H)
noncomputable def f43 (p : Pr β) (n : Nat) (a0 a1 : AV) (H : Heap) (k : AV → Heap → Option β) : Option β :=
  f43_l0 p n  k n a0 a1 (.sc (.int .i64 0)) H
noncomputable def f43_L0 (p : Pr β) (n : Nat)  (k : AV → Heap → Option β) (m : Nat) (tm : Tm) (H : Heap) : Option β :=
  iterC 52 (fun tm H k => evalCode ti0 p o43 52 n (cd c43 [1, 0, 1, 0, 0]) tm H k) (blkK 0 (seqK (fun tm H => evalCode ti0 p o43 52 n (cd c43 [1, 1]) tm H (endK ti0 p Go.Proofs.Tryd.f43.results.toList k)) (endK ti0 p Go.Proofs.Tryd.f43.results.toList k))) m tm H
theorem f43_L0_step (p : Pr β) (n : Nat)  (k : AV → Heap → Option β) (m0 : Nat) (t0 t1 t2 t3 t4 t5 t6 t7 t8 t9 t10 t11 t12 t13 t14 t15 t16 t17 t18 t19 t20 t21 t22 t23 t24 t25 t26 t27 t28 t29 t30 t31 t32 t33 t34 t35 t36 t37 t38 t39 t40 t41 t42 t43 t44 t45 t46 t47 t48 t49 t50 t51 : AV) (H : Heap) : f43_L0 p n  k (m0 + 1) [(0, t0), (1, t1), (2, t2), (3, t3), (4, t4), (5, t5), (6, t6), (7, t7), (8, t8), (9, t9), (10, t10), (11, t11), (12, t12), (13, t13), (14, t14), (15, t15), (16, t16), (17, t17), (18, t18), (19, t19), (20, t20), (21, t21), (22, t22), (23, t23), (24, t24), (25, t25), (26, t26), (27, t27), (28, t28), (29, t29), (30, t30), (31, t31), (32, t32), (33, t33), (34, t34), (35, t35), (36, t36), (37, t37), (38, t38), (39, t39), (40, t40), (41, t41), (42, t42), (43, t43), (44, t44), (45, t45), (46, t46), (47, t47), (48, t48), (49, t49), (50, t50), (51, t51)] H =
  p.len t0 fun t8 =>
  p.bin .lss t5 t8 fun t9 =>
  p.cond t9
  (p.iadr 4 t0 t5 fun t14 =>
  p.fadr 0 t14 fun t15 =>
  p.load false 1 t15 H fun t16 =>
  p.call 9 (.fn 85 [] []) [t1] H fun t18 H =>
  p.bin .neq t16 t18 fun t19 =>
  p.cond t19
  (k (.sc (.int .i64 (-1))) H)
  (p.bin .add t1 (.sc (.int .i64 1)) fun t21 =>
  p.iadr 4 t0 t5 fun t24 =>
  p.fadr 1 t24 fun t25 =>
  p.load false 1 t25 H fun t26 =>
  p.call 3 (.fn 87 [] []) [t26, t21] H fun t28 H =>
  p.bin .lss t28 (.sc (.int .i64 0)) fun t30 =>
  p.cond t30
  (k (.sc (.int .i64 (-1))) H)
  (p.iadr 4 t0 t5 fun t33 =>
  p.fadr 2 t33 fun t34 =>
  p.load false 1 t34 H fun t35 =>
  p.bin .neq t35 t28 fun t37 =>
  p.cond t37
  (k (.sc (.int .i64 (-1))) H)
  (p.bin .add t28 (.sc (.int .i64 1)) fun t39 =>
  p.iadr 4 t0 t5 fun t42 =>
  p.fadr 3 t42 fun t43 =>
  p.load false 1 t43 H fun t44 =>
  p.bin .rem t39 (.sc (.int .i64 3)) fun t46 =>
  p.bin .eql t46 (.sc (.int .i64 0)) fun t47 =>
  p.binB .neq t44 t47 fun t48 =>
  p.cond t48
  (k (.sc (.int .i64 (-1))) H)
  (p.bin .add t39 (.sc (.int .i64 1)) fun t50 =>
  p.bin .add t5 (.sc (.int .i64 1)) fun t11 =>
  f43_L0 p n  k m0 [(0, t0), (1, t50), (2, t2), (3, t3), (4, t4), (5, t11), (6, t5), (7, t0), (8, t8), (9, t9), (10, t5), (11, t11), (12, t0), (13, t5), (14, t14), (15, t15), (16, t16), (17, t1), (18, t18), (19, t19), (20, t1), (21, t21), (22, t0), (23, t5), (24, t24), (25, t25), (26, t26), (27, t21), (28, t28), (29, t28), (30, t30), (31, t0), (32, t5), (33, t33), (34, t34), (35, t35), (36, t28), (37, t37), (38, t28), (39, t39), (40, t0), (41, t5), (42, t42), (43, t43), (44, t44), (45, t39), (46, t46), (47, t47), (48, t48), (49, t39), (50, t50), (51, t51)] H)))))
  (k t1 H) := by kernel_rfl
theorem f43_l0_eq (p : Pr β) (n : Nat)  (k : AV → Heap → Option β)   (m0 : Nat) : ∀ (t0 t1 t2 t3 t4 t5 t6 t7 t8 t9 t10 t11 t12 t13 t14 t15 t16 t17 t18 t19 t20 t21 t22 t23 t24 t25 t26 t27 t28 t29 t30 t31 t32 t33 t34 t35 t36 t37 t38 t39 t40 t41 t42 t43 t44 t45 t46 t47 t48 t49 t50 t51 : AV) (H : Heap), f43_L0 p n  k m0 [(0, t0), (1, t1), (2, t2), (3, t3), (4, t4), (5, t5), (6, t6), (7, t7), (8, t8), (9, t9), (10, t10), (11, t11), (12, t12), (13, t13), (14, t14), (15, t15), (16, t16), (17, t17), (18, t18), (19, t19), (20, t20), (21, t21), (22, t22), (23, t23), (24, t24), (25, t25), (26, t26), (27, t27), (28, t28), (29, t29), (30, t30), (31, t31), (32, t32), (33, t33), (34, t34), (35, t35), (36, t36), (37, t37), (38, t38), (39, t39), (40, t40), (41, t41), (42, t42), (43, t43), (44, t44), (45, t45), (46, t46), (47, t47), (48, t48), (49, t49), (50, t50), (51, t51)] H = f43_l0 p n  k m0 t0 t1 t5 H := by
  induction m0 with
  | zero => intros; rfl
  | succ m0 ih =>
    intro t0 t1 t2 t3 t4 t5 t6 t7 t8 t9 t10 t11 t12 t13 t14 t15 t16 t17 t18 t19 t20 t21 t22 t23 t24 t25 t26 t27 t28 t29 t30 t31 t32 t33 t34 t35 t36 t37 t38 t39 t40 t41 t42 t43 t44 t45 t46 t47 t48 t49 t50 t51 H
    rw [f43_L0_step]
    simp only [ih]
    rfl
theorem f43_raw (p : Pr β) (n : Nat) (a0 a1 : AV) (H : Heap) (k : AV → Heap → Option β) : evalBody ti0 p n ⟨c43, 52, Go.Proofs.Tryd.f43.results.toList, o43⟩ [a0, a1] H k =
  f43_L0 p n  k n [(0, a0), (1, a1), (2, (.sc undef)), (3, (.sc undef)), (4, (.sc (.int .i64 0))), (5, (.sc (.int .i64 0))), (6, (.sc undef)), (7, (.sc undef)), (8, (.sc undef)), (9, (.sc undef)), (10, (.sc undef)), (11, (.sc undef)), (12, (.sc undef)), (13, (.sc undef)), (14, (.sc undef)), (15, (.sc undef)), (16, (.sc undef)), (17, (.sc undef)), (18, (.sc undef)), (19, (.sc undef)), (20, (.sc undef)), (21, (.sc undef)), (22, (.sc undef)), (23, (.sc undef)), (24, (.sc undef)), (25, (.sc undef)), (26, (.sc undef)), (27, (.sc undef)), (28, (.sc undef)), (29, (.sc undef)), (30, (.sc undef)), (31, (.sc undef)), (32, (.sc undef)), (33, (.sc undef)), (34, (.sc undef)), (35, (.sc undef)), (36, (.sc undef)), (37, (.sc undef)), (38, (.sc undef)), (39, (.sc undef)), (40, (.sc undef)), (41, (.sc undef)), (42, (.sc undef)), (43, (.sc undef)), (44, (.sc undef)), (45, (.sc undef)), (46, (.sc undef)), (47, (.sc undef)), (48, (.sc undef)), (49, (.sc undef)), (50, (.sc undef)), (51, (.sc undef))] H := by kernel_rfl
theorem f43_body (p : Pr β) (n : Nat) (a0 a1 : AV) (H : Heap) (k : AV → Heap → Option β) : evalBody ti0 p n ⟨c43, 52, Go.Proofs.Tryd.f43.results.toList, o43⟩ [a0, a1] H k = f43 p n a0 a1 H k := by
  rw [f43_raw]
  simp only [f43_l0_eq]
  rfl

/-! 9 loop.example/g00480/laws.FnExactPush -/
noncomputable def f9 (p : Pr β) (n : Nat) (a0 a1 : AV) (H : Heap) (k : AV → Heap → Option β) : Option β :=
  p.box a1 H fun t3 H =>
  p.call 3 (.fn 17 [] []) [a0, (.sc (.int .i64 1048576))] H fun t19 H =>
  p.bin .lss t19 (.sc (.int .i64 0)) fun t21 =>
  p.cond t21
  (k (.sc (.bool true)) H)
  (p.load true 4 t3 H fun t22 =>
  p.call 3 (.fn 12 [] []) [t22, t19] H fun t24 H =>
  p.bin .lss t24 (.sc (.int .i64 0)) fun t26 =>
  p.cond t26
  (k (.sc (.bool true)) H)
  (p.load true 4 t3 H fun t30 =>
  p.call 34 (.fn 19 [] []) [a0] H fun t29 H =>
  p.call 27 (.fn 14 [] []) [t30] H fun t31 H =>
  p.call 70 (.fn 39 [] []) [t29, t31] H fun t32 H =>
  p.extr t32 0 fun t33 =>
  p.extr t32 1 fun t34 =>
  p.call 34 (.fn 19 [] []) [a0] H fun t36 H =>
  p.load true 4 t3 H fun t37 =>
  p.call 27 (.fn 14 [] []) [t37] H fun t38 H =>
  p.new [(.sc (.string ⟨#[]⟩)), .nl, (.sc (.int .i64 0)), (.sc (.bool false))] H fun t9 H =>
  p.store 4 t9 t38 H fun H =>
  p.load true 4 t9 H fun t41 =>
  p.call 70 (.fn 40 [] []) [t36, t41] H fun t42 H =>
  p.extr t42 0 fun t43 =>
  p.extr t42 1 fun t44 =>
  p.call 4 (.fn 21 [] []) [t43, t33] H fun t47 H =>
  p.un .not t47 fun t48 =>
  p.guard t48 false H (fun k' => k' t44 H) fun t50 H =>
  p.guard t48 false H (fun k' => k' t34 H) fun t51 H =>
  p.guard t48 false H (fun k' => p.bin .neq t50 t51 fun t' => k' t' H) fun t52 H =>
  p.pick t48 (.sc (.bool true)) t52 fun t53 =>
  p.cond t53
  (k (.sc (.bool false)) H)
  (p.call 34 (.fn 19 [] []) [a0] H fun t56 H =>
  p.call 4 (.fn 21 [] []) [t36, t56] H fun t57 H =>
  p.un .not t57 fun t58 =>
  p.cond t58
  (k (.sc (.bool false)) H)
  (p.load true 4 t9 H fun t59 =>
  p.load true 4 t3 H fun t60 =>
  p.call 27 (.fn 14 [] []) [t60] H fun t61 H =>
  p.call 4 (.fn 16 [] []) [t59, t61] H fun t62 H =>
  p.un .not t62 fun t63 =>
  p.cond t63
  (k (.sc (.bool false)) H)
  (p.call 3 (.fn 41 [] []) [t36, (.sc (.int .i64 1))] H fun t66 H =>
  p.load true 4 t9 H fun t67 =>
  p.call 3 (.fn 42 [] []) [t67, t66] H fun t69 H =>
  p.bin .lss t69 (.sc (.int .i64 0)) fun t71 =>
  p.guard t71 false H (fun k' => k' t43 H) fun t73 H =>
  p.guard t71 false H (fun k' => k' t33 H) fun t74 H =>
  p.guard t71 false H (fun k' => p.call 4 (.fn 21 [] []) [t73, t74] H fun t' H => k' t' H) fun t75 H =>
  p.guard t71 false H (fun k' => p.un .not t75 fun t' => k' t' H) fun t76 H =>
  p.pick t71 (.sc (.bool true)) t76 fun t77 =>
  p.guard t77 false H (fun k' => k' t44 H) fun t79 H =>
  p.guard t77 false H (fun k' => k' t34 H) fun t80 H =>
  p.guard t77 false H (fun k' => p.bin .neq t79 t80 fun t' => k' t' H) fun t81 H =>
  p.pick t77 (.sc (.bool true)) t81 fun t82 =>
  p.cond t82
  (k (.sc (.bool false)) H)
  (p.call 3 (.fn 41 [] []) [t43, (.sc (.int .i64 1))] H fun t85 H =>
  p.call 3 (.fn 43 [] []) [t43, (.sc (.int .i64 1))] H fun t88 H =>
  p.bin .lss t88 (.sc (.int .i64 0)) fun t90 =>
  p.cond t90
  (k (.sc (.bool false)) H)
  (p.bin .neq t88 t85 fun t93 =>
  p.cond t93
  (k (.sc (.bool false)) H)
  (p.load true 4 t3 H fun t97 =>
  p.call 34 (.fn 19 [] []) [a0] H fun t96 H =>
  p.call 27 (.fn 14 [] []) [t97] H fun t98 H =>
  p.call 70 (.fn 40 [] []) [t96, t98] H fun t99 H =>
  p.extr t99 0 fun t100 =>
  p.extr t99 1 fun t101 =>
  p.call 4 (.fn 21 [] []) [t100, t33] H fun t104 H =>
  p.un .not t104 fun t105 =>
  p.guard t105 false H (fun k' => k' t101 H) fun t107 H =>
  p.guard t105 false H (fun k' => k' t34 H) fun t108 H =>
  p.guard t105 false H (fun k' => p.bin .neq t107 t108 fun t' => k' t' H) fun t109 H =>
  p.pick t105 (.sc (.bool true)) t109 fun t110 =>
  p.cond t110
  (k (.sc (.bool false)) H)
  (p.call 3 (.fn 43 [] []) [t43, (.sc (.int .i64 1))] H fun t113 H =>
  p.bin .lss t113 (.sc (.int .i64 0)) fun t115 =>
  p.cond t115
  (k (.sc (.bool false)) H)
  (p.bin .neq t113 t85 fun t118 =>
  p.cond t118
  (k (.sc (.bool false)) H)
  (k (.sc (.bool true)) H)))))))))))
theorem f9_body (p : Pr β) (n : Nat) (a0 a1 : AV) (H : Heap) (k : AV → Heap → Option β) : evalBody ti0 p n ⟨c9, 119, Go.Proofs.Tryd.f9.results.toList, o9⟩ [a0, a1] H k = f9 p n a0 a1 H k := by kernel_rfl

/-! 99 loop.example/g00480/laws.szFlight -/
noncomputable def f99 (p : Pr β) (n : Nat) (a0 a1 : AV) (H : Heap) (k : AV → Heap → Option β) : Option β :=
  p.box a0 H fun t2 H =>
  p.fadr 1 t2 fun t5 =>
  p.load true 4 t5 H fun t6 =>
  p.call 3 (.fn 12 [] []) [t6, a1] H fun t8 H =>
  p.bin .lss t8 (.sc (.int .i64 0)) fun t10 =>
  p.cond t10
  (k (.sc (.int .i64 (-1))) H)
  (k t8 H)
theorem f99_body (p : Pr β) (n : Nat) (a0 a1 : AV) (H : Heap) (k : AV → Heap → Option β) : evalBody ti0 p n ⟨c99, 12, Go.Proofs.Tryd.f99.results.toList, o99⟩ [a0, a1] H k = f99 p n a0 a1 H k := by kernel_rfl

/-! 60 loop.example/g00480/laws.szFlightS -/
noncomputable def f60_l0 (p : Pr β) (n : Nat)  (k : AV → Heap → Option β) : Nat → AV → AV → AV → Heap → Option β
  | 0, _, _, _, _ => none
  | m + 1, t0, t1, t5, H => p.len t0 fun t14 =>
      p.bin .lss t5 t14 fun t15 =>
      p.cond t15
      (p.iadr 6 t0 t5 fun t20 =>
      p.load true 6 t20 H fun t21 =>
      p.call 3 (.fn 99 [] []) [t21, t1] H fun t23 H =>
      p.bin .lss t23 (.sc (.int .i64 0)) fun t25 =>
      p.cond t25
      (k (.sc (.int .i64 (-1))) H)
      (p.bin .add t5 (.sc (.int .i64 1)) fun t17 =>
      f60_l0 p n  k m t0 t23 t17 H))
      (k t1 H)
noncomputable def f60 (p : Pr β) (n : Nat) (a0 a1 : AV) (H : Heap) (k : AV → Heap → Option β) : Option β :=
  p.len a0 fun t8 =>
  p.bin .sub a1 t8 fun t9 =>
  p.bin .lss t9 (.sc (.int .i64 0)) fun t11 =>
  p.cond t11
  (k (.sc (.int .i64 (-1))) H)
  (f60_l0 p n  k n a0 t9 (.sc (.int .i64 0)) H)
noncomputable def f60_L0 (p : Pr β) (n : Nat)  (k : AV → Heap → Option β) (m : Nat) (tm : Tm) (H : Heap) : Option β :=
  iterC 27 (fun tm H k => evalCode ti0 p o60 27 n (cd c60 [1, 1, 1, 0, 1, 0, 0]) tm H k) (blkK 0 (seqK (fun tm H => evalCode ti0 p o60 27 n (cd c60 [1, 1, 1, 1]) tm H (endK ti0 p Go.Proofs.Tryd.f60.results.toList k)) (endK ti0 p Go.Proofs.Tryd.f60.results.toList k))) m tm H
theorem f60_L0_step (p : Pr β) (n : Nat)  (k : AV → Heap → Option β) (m0 : Nat) (t0 t1 t2 t3 t4 t5 t6 t7 t8 t9 t10 t11 t12 t13 t14 t15 t16 t17 t18 t19 t20 t21 t22 t23 t24 t25 t26 : AV) (H : Heap) : f60_L0 p n  k (m0 + 1) [(0, t0), (1, t1), (2, t2), (3, t3), (4, t4), (5, t5), (6, t6), (7, t7), (8, t8), (9, t9), (10, t10), (11, t11), (12, t12), (13, t13), (14, t14), (15, t15), (16, t16), (17, t17), (18, t18), (19, t19), (20, t20), (21, t21), (22, t22), (23, t23), (24, t24), (25, t25), (26, t26)] H =
  p.len t0 fun t14 =>
  p.bin .lss t5 t14 fun t15 =>
  p.cond t15
  (p.iadr 6 t0 t5 fun t20 =>
  p.load true 6 t20 H fun t21 =>
  p.call 3 (.fn 99 [] []) [t21, t1] H fun t23 H =>
  p.bin .lss t23 (.sc (.int .i64 0)) fun t25 =>
  p.cond t25
  (k (.sc (.int .i64 (-1))) H)
  (p.bin .add t5 (.sc (.int .i64 1)) fun t17 =>
  f60_L0 p n  k m0 [(0, t0), (1, t23), (2, t2), (3, t3), (4, t4), (5, t17), (6, t6), (7, t7), (8, t8), (9, t9), (10, t10), (11, t11), (12, t5), (13, t0), (14, t14), (15, t15), (16, t5), (17, t17), (18, t0), (19, t5), (20, t20), (21, t21), (22, t1), (23, t23), (24, t23), (25, t25), (26, t26)] H))
  (k t1 H) := by kernel_rfl
theorem f60_l0_eq (p : Pr β) (n : Nat)  (k : AV → Heap → Option β)   (m0 : Nat) : ∀ (t0 t1 t2 t3 t4 t5 t6 t7 t8 t9 t10 t11 t12 t13 t14 t15 t16 t17 t18 t19 t20 t21 t22 t23 t24 t25 t26 : AV) (H : Heap), f60_L0 p n  k m0 [(0, t0), (1, t1), (2, t2), (3, t3), (4, t4), (5, t5), (6, t6), (7, t7), (8, t8), (9, t9), (10, t10), (11, t11), (12, t12), (13, t13), (14, t14), (15, t15), (16, t16), (17, t17), (18, t18), (19, t19), (20, t20), (21, t21), (22, t22), (23, t23), (24, t24), (25, t25), (26, t26)] H = f60_l0 p n  k m0 t0 t1 t5 H := by
  induction m0 with
  | zero => intros; rfl
  | succ m0 ih =>
    intro t0 t1 t2 t3 t4 t5 t6 t7 t8 t9 t10 t11 t12 t13 t14 t15 t16 t17 t18 t19 t20 t21 t22 t23 t24 t25 t26 H
    rw [f60_L0_step]
    simp only [ih]
    rfl
theorem f60_raw (p : Pr β) (n : Nat) (a0 a1 : AV) (H : Heap) (k : AV → Heap → Option β) : evalBody ti0 p n ⟨c60, 27, Go.Proofs.Tryd.f60.results.toList, o60⟩ [a0, a1] H k =
  p.len a0 fun t8 =>
  p.bin .sub a1 t8 fun t9 =>
  p.bin .lss t9 (.sc (.int .i64 0)) fun t11 =>
  p.cond t11
  (k (.sc (.int .i64 (-1))) H)
  (f60_L0 p n  k n [(0, a0), (1, t9), (2, (.sc undef)), (3, (.sc undef)), (4, (.sc (.int .i64 0))), (5, (.sc (.int .i64 0))), (6, a1), (7, a0), (8, t8), (9, t9), (10, t9), (11, t11), (12, (.sc undef)), (13, (.sc undef)), (14, (.sc undef)), (15, (.sc undef)), (16, (.sc undef)), (17, (.sc undef)), (18, (.sc undef)), (19, (.sc undef)), (20, (.sc undef)), (21, (.sc undef)), (22, (.sc undef)), (23, (.sc undef)), (24, (.sc undef)), (25, (.sc undef)), (26, (.sc undef))] H) := by kernel_rfl
theorem f60_body (p : Pr β) (n : Nat) (a0 a1 : AV) (H : Heap) (k : AV → Heap → Option β) : evalBody ti0 p n ⟨c60, 27, Go.Proofs.Tryd.f60.results.toList, o60⟩ [a0, a1] H k = f60 p n a0 a1 H k := by
  rw [f60_raw]
  simp only [f60_l0_eq]
  rfl

/-! 22 loop.example/g00480/laws.szOut -/
noncomputable def f22 (p : Pr β) (n : Nat) (a0 a1 : AV) (H : Heap) (k : AV → Heap → Option β) : Option β :=
  p.box a0 H fun t2 H =>
  p.fadr 1 t2 fun t5 =>
  p.load false 1 t5 H fun t6 =>
  p.call 3 (.fn 60 [] []) [t6, a1] H fun t8 H =>
  p.bin .lss t8 (.sc (.int .i64 0)) fun t10 =>
  p.cond t10
  (k (.sc (.int .i64 (-1))) H)
  (p.fadr 2 t2 fun t11 =>
  p.load false 1 t11 H fun t12 =>
  p.call 3 (.fn 17 [] []) [t12, t8] H fun t14 H =>
  p.bin .lss t14 (.sc (.int .i64 0)) fun t16 =>
  p.cond t16
  (k (.sc (.int .i64 (-1))) H)
  (k t14 H))
theorem f22_body (p : Pr β) (n : Nat) (a0 a1 : AV) (H : Heap) (k : AV → Heap → Option β) : evalBody ti0 p n ⟨c22, 18, Go.Proofs.Tryd.f22.results.toList, o22⟩ [a0, a1] H k = f22 p n a0 a1 H k := by kernel_rfl

/-! 100 loop.example/g00480/laws.toFlight -/
noncomputable def f100 (p : Pr β) (n : Nat) (a0 : AV) (H : Heap) (k : AV → Heap → Option β) : Option β :=
  p.box a0 H fun t1 H =>
  p.new [(.sc (.int .i64 0)), (.sc (.string ⟨#[]⟩)), .nl, (.sc (.int .i64 0)), (.sc (.bool false)), (.sc (.int .i64 0))] H fun t2 H =>
  p.new [(.sc (.int .i64 0)), (.sc (.string ⟨#[]⟩)), .nl, (.sc (.int .i64 0)), (.sc (.bool false)), (.sc (.int .i64 0))] H fun t3 H =>
  p.fadr 0 t1 fun t4 =>
  p.load false 1 t4 H fun t5 =>
  p.fadr 0 t3 fun t6 =>
  p.store 1 t6 t5 H fun H =>
  p.fadr 1 t1 fun t7 =>
  p.load true 4 t7 H fun t8 =>
  p.call 27 (.fn 14 [] []) [t8] H fun t9 H =>
  p.fadr 1 t3 fun t10 =>
  p.store 4 t10 t9 H fun H =>
  p.fadr 5 t1 fun t11 =>
  p.load false 1 t11 H fun t12 =>
  p.fadr 5 t3 fun t13 =>
  p.store 1 t13 t12 H fun H =>
  p.load true 6 t3 H fun t14 =>
  p.store 6 t2 t14 H fun H =>
  p.load true 6 t2 H fun r0 =>
  k r0 H
theorem f100_body (p : Pr β) (n : Nat) (a0 : AV) (H : Heap) (k : AV → Heap → Option β) : evalBody ti0 p n ⟨c100, 15, Go.Proofs.Tryd.f100.results.toList, o100⟩ [a0] H k = f100 p n a0 H k := by kernel_rfl

/-! 62 loop.example/g00480/laws.toFlightS -/
noncomputable def f62_l0 (p : Pr β) (n : Nat)  (k : AV → Heap → Option β) : Nat → AV → AV → AV → Heap → Option β
  | 0, _, _, _, _ => none
  | m + 1, t0, t3, t4, H => p.len t0 fun t10 =>
      p.bin .lss t4 t10 fun t11 =>
      p.cond t11
      (p.iadr 6 t0 t4 fun t18 =>
      p.load true 6 t18 H fun t19 =>
      p.call 90 (.fn 100 [] []) [t19] H fun t20 H =>
      p.iadr 6 t3 t4 fun t21 =>
      p.store 6 t21 t20 H fun H =>
      p.bin .add t4 (.sc (.int .i64 1)) fun t13 =>
      f62_l0 p n  k m t0 t3 t13 H)
      (k t3 H)
noncomputable def f62 (p : Pr β) (n : Nat) (a0 : AV) (H : Heap) (k : AV → Heap → Option β) : Option β :=
  p.len a0 fun t6 =>
  p.make 6 72 [(.sc (.int .i64 0)), (.sc (.string ⟨#[]⟩)), .nl, (.sc (.int .i64 0)), (.sc (.bool false)), (.sc (.int .i64 0))] t6 t6 H fun t7 H =>
  f62_l0 p n  k n a0 t7 (.sc (.int .i64 0)) H
noncomputable def f62_L0 (p : Pr β) (n : Nat)  (k : AV → Heap → Option β) (m : Nat) (tm : Tm) (H : Heap) : Option β :=
  iterC 23 (fun tm H k => evalCode ti0 p o62 23 n (cd c62 [1, 1, 0, 1, 0, 0]) tm H k) (blkK 0 (seqK (fun tm H => evalCode ti0 p o62 23 n (cd c62 [1, 1, 1]) tm H (endK ti0 p Go.Proofs.Tryd.f62.results.toList k)) (endK ti0 p Go.Proofs.Tryd.f62.results.toList k))) m tm H
theorem f62_L0_step (p : Pr β) (n : Nat)  (k : AV → Heap → Option β) (m0 : Nat) (t0 t1 t2 t3 t4 t5 t6 t7 t8 t9 t10 t11 t12 t13 t14 t15 t16 t17 t18 t19 t20 t21 t22 : AV) (H : Heap) : f62_L0 p n  k (m0 + 1) [(0, t0), (1, t1), (2, t2), (3, t3), (4, t4), (5, t5), (6, t6), (7, t7), (8, t8), (9, t9), (10, t10), (11, t11), (12, t12), (13, t13), (14, t14), (15, t15), (16, t16), (17, t17), (18, t18), (19, t19), (20, t20), (21, t21), (22, t22)] H =
  p.len t0 fun t10 =>
  p.bin .lss t4 t10 fun t11 =>
  p.cond t11
  (p.iadr 6 t0 t4 fun t18 =>
  p.load true 6 t18 H fun t19 =>
  p.call 90 (.fn 100 [] []) [t19] H fun t20 H =>
  p.iadr 6 t3 t4 fun t21 =>
  p.store 6 t21 t20 H fun H =>
  p.bin .add t4 (.sc (.int .i64 1)) fun t13 =>
  f62_L0 p n  k m0 [(0, t0), (1, t1), (2, t2), (3, t3), (4, t13), (5, t5), (6, t6), (7, t7), (8, t4), (9, t0), (10, t10), (11, t11), (12, t4), (13, t13), (14, t3), (15, t4), (16, t0), (17, t4), (18, t18), (19, t19), (20, t20), (21, t21), (22, t22)] H)
  (k t3 H) := by kernel_rfl
theorem f62_l0_eq (p : Pr β) (n : Nat)  (k : AV → Heap → Option β)   (m0 : Nat) : ∀ (t0 t1 t2 t3 t4 t5 t6 t7 t8 t9 t10 t11 t12 t13 t14 t15 t16 t17 t18 t19 t20 t21 t22 : AV) (H : Heap), f62_L0 p n  k m0 [(0, t0), (1, t1), (2, t2), (3, t3), (4, t4), (5, t5), (6, t6), (7, t7), (8, t8), (9, t9), (10, t10), (11, t11), (12, t12), (13, t13), (14, t14), (15, t15), (16, t16), (17, t17), (18, t18), (19, t19), (20, t20), (21, t21), (22, t22)] H = f62_l0 p n  k m0 t0 t3 t4 H := by
  induction m0 with
  | zero => intros; rfl
  | succ m0 ih =>
    intro t0 t1 t2 t3 t4 t5 t6 t7 t8 t9 t10 t11 t12 t13 t14 t15 t16 t17 t18 t19 t20 t21 t22 H
    rw [f62_L0_step]
    simp only [ih]
    rfl
theorem f62_raw (p : Pr β) (n : Nat) (a0 : AV) (H : Heap) (k : AV → Heap → Option β) : evalBody ti0 p n ⟨c62, 23, Go.Proofs.Tryd.f62.results.toList, o62⟩ [a0] H k =
  p.len a0 fun t6 =>
  p.make 6 72 [(.sc (.int .i64 0)), (.sc (.string ⟨#[]⟩)), .nl, (.sc (.int .i64 0)), (.sc (.bool false)), (.sc (.int .i64 0))] t6 t6 H fun t7 H =>
  f62_L0 p n  k n [(0, a0), (1, (.sc undef)), (2, .nl), (3, t7), (4, (.sc (.int .i64 0))), (5, a0), (6, t6), (7, t7), (8, (.sc undef)), (9, (.sc undef)), (10, (.sc undef)), (11, (.sc undef)), (12, (.sc undef)), (13, (.sc undef)), (14, (.sc undef)), (15, (.sc undef)), (16, (.sc undef)), (17, (.sc undef)), (18, (.sc undef)), (19, (.sc undef)), (20, (.sc undef)), (21, (.sc undef)), (22, (.sc undef))] H := by kernel_rfl
theorem f62_body (p : Pr β) (n : Nat) (a0 : AV) (H : Heap) (k : AV → Heap → Option β) : evalBody ti0 p n ⟨c62, 23, Go.Proofs.Tryd.f62.results.toList, o62⟩ [a0] H k = f62 p n a0 H k := by
  rw [f62_raw]
  simp only [f62_l0_eq]
  rfl

/-! 24 loop.example/g00480/laws.toOut -/
noncomputable def f24 (p : Pr β) (n : Nat) (a0 : AV) (H : Heap) (k : AV → Heap → Option β) : Option β :=
  p.box a0 H fun t1 H =>
  p.new [(.sc (.int .i64 0)), .nl, .nl] H fun t2 H =>
  p.new [(.sc (.int .i64 0)), .nl, .nl] H fun t3 H =>
  p.fadr 0 t1 fun t4 =>
  p.load false 1 t4 H fun t5 =>
  p.fadr 0 t3 fun t6 =>
  p.store 1 t6 t5 H fun H =>
  p.fadr 1 t1 fun t7 =>
  p.load false 1 t7 H fun t8 =>
  p.call 43 (.fn 62 [] []) [t8] H fun t9 H =>
  p.fadr 1 t3 fun t10 =>
  p.store 1 t10 t9 H fun H =>
  p.fadr 2 t1 fun t11 =>
  p.load false 1 t11 H fun t12 =>
  p.call 34 (.fn 19 [] []) [t12] H fun t13 H =>
  p.fadr 2 t3 fun t14 =>
  p.store 1 t14 t13 H fun H =>
  p.load true 3 t3 H fun t15 =>
  p.store 3 t2 t15 H fun H =>
  p.load true 3 t2 H fun r0 =>
  k r0 H
theorem f24_body (p : Pr β) (n : Nat) (a0 : AV) (H : Heap) (k : AV → Heap → Option β) : evalBody ti0 p n ⟨c24, 16, Go.Proofs.Tryd.f24.results.toList, o24⟩ [a0] H k = f24 p n a0 H k := by kernel_rfl

/-! 88 loop.example/g00480/spec.l13Copy -/
noncomputable def f88_l0 (p : Pr β) (n : Nat)  (k : AV → Heap → Option β) : Nat → AV → AV → AV → AV → Heap → Option β
  | 0, _, _, _, _, _ => none
  | m + 1, t1, t2, t3, t4, H => p.fadr 1 t1 fun t12 =>
      p.load false 1 t12 H fun t13 =>
      p.len t13 fun t14 =>
      p.bin .lss t4 t14 fun t15 =>
      p.cond t15
      (p.fadr 1 t3 fun t18 =>
      p.load false 1 t18 H fun t19 =>
      p.fadr 1 t1 fun t20 =>
      p.load false 1 t20 H fun t21 =>
      p.iadr 6 t21 t4 fun t23 =>
      p.fadr 0 t23 fun t24 =>
      p.load false 1 t24 H fun t25 =>
      p.fadr 1 t1 fun t26 =>
      p.load false 1 t26 H fun t27 =>
      p.iadr 6 t27 t4 fun t29 =>
      p.fadr 1 t29 fun t30 =>
      p.load true 4 t30 H fun t31 =>
      p.fadr 1 t1 fun t33 =>
      p.load false 1 t33 H fun t34 =>
      p.iadr 6 t34 t4 fun t36 =>
      p.fadr 5 t36 fun t37 =>
      p.load false 1 t37 H fun t38 =>
      p.call 27 (.fn 82 [] []) [t31] H fun t32 H =>
      p.fill [(.sc (.int .i64 0)), (.sc (.string ⟨#[]⟩)), .nl, (.sc (.int .i64 0)), (.sc (.bool false)), (.sc (.int .i64 0))] [(0, 1, t25), (1, 4, t32), (5, 1, t38)] fun ct39 =>
      p.fill [(.sc (.int .i64 0)), (.sc (.string ⟨#[]⟩)), .nl, (.sc (.int .i64 0)), (.sc (.bool false)), (.sc (.int .i64 0))] [(0, 6, (.agg ct39))] fun ct40 => p.newSl 1 6 ct40 true H fun t40 H =>
      p.app 6 72 t19 t40 H fun t41 H =>
      p.fadr 1 t3 fun t42 =>
      p.store 1 t42 t41 H fun H =>
      p.bin .add t4 (.sc (.int .i64 1)) fun t17 =>
      f88_l0 p n  k m t1 t2 t3 t17 H)
      (p.load true 3 t3 H fun t43 =>
      p.store 3 t2 t43 H fun H =>
      p.load true 3 t2 H fun r0 =>
      k r0 H)
noncomputable def f88 (p : Pr β) (n : Nat) (a0 : AV) (H : Heap) (k : AV → Heap → Option β) : Option β :=
  p.box a0 H fun t1 H =>
  p.new [(.sc (.int .i64 0)), .nl, .nl] H fun t2 H =>
  p.fadr 0 t1 fun t5 =>
  p.load false 1 t5 H fun t6 =>
  p.fadr 2 t1 fun t7 =>
  p.load false 1 t7 H fun t8 =>
  p.both
  (p.call 34 (.fn 81 [] []) [t8] H fun t9 H =>
  p.fill [(.sc (.int .i64 0)), .nl, .nl] [(0, 1, t6), (2, 1, t9)] fun ct10 =>
  p.new [(.sc (.int .i64 0)), .nl, .nl] H fun t3 H =>
  p.store 3 t3 (.agg ct10) H fun H =>
  f88_l0 p n  k n t1 t2 t3 (.sc (.int .i64 0)) H)
  (p.new [(.sc (.int .i64 0)), .nl, .nl] H fun t3 H =>
  p.call 34 (.fn 81 [] []) [t8] H fun t9 H =>
  p.fill [(.sc (.int .i64 0)), .nl, .nl] [(0, 1, t6), (2, 1, t9)] fun ct10 =>
  p.store 3 t3 (.agg ct10) H fun H =>
  f88_l0 p n  k n t1 t2 t3 (.sc (.int .i64 0)) H)
noncomputable def f88_L0 (p : Pr β) (n : Nat)  (k : AV → Heap → Option β) (m : Nat) (tm : Tm) (H : Heap) : Option β :=
  iterC 44 (fun tm H k => evalCode ti0 p o88 44 n (cd c88 [1, 1, 0, 1, 0, 0]) tm H k) (blkK 0 (seqK (fun tm H => evalCode ti0 p o88 44 n (cd c88 [1, 1, 1]) tm H (endK ti0 p Go.Proofs.Tryd.f88.results.toList k)) (endK ti0 p Go.Proofs.Tryd.f88.results.toList k))) m tm H
theorem f88_L0_step (p : Pr β) (n : Nat)  (k : AV → Heap → Option β) (m0 : Nat) (t0 t1 t2 t3 t4 t5 t6 t7 t8 t9 t10 t11 t12 t13 t14 t15 t16 t17 t18 t19 t20 t21 t22 t23 t24 t25 t26 t27 t28 t29 t30 t31 t32 t33 t34 t35 t36 t37 t38 t39 t40 t41 t42 t43 : AV) (H : Heap) : f88_L0 p n  k (m0 + 1) [(0, t0), (1, t1), (2, t2), (3, t3), (4, t4), (5, t5), (6, t6), (7, t7), (8, t8), (9, t9), (10, t10), (11, t11), (12, t12), (13, t13), (14, t14), (15, t15), (16, t16), (17, t17), (18, t18), (19, t19), (20, t20), (21, t21), (22, t22), (23, t23), (24, t24), (25, t25), (26, t26), (27, t27), (28, t28), (29, t29), (30, t30), (31, t31), (32, t32), (33, t33), (34, t34), (35, t35), (36, t36), (37, t37), (38, t38), (39, t39), (40, t40), (41, t41), (42, t42), (43, t43)] H =
  p.fadr 1 t1 fun t12 =>
  p.load false 1 t12 H fun t13 =>
  p.len t13 fun t14 =>
  p.bin .lss t4 t14 fun t15 =>
  p.cond t15
  (p.fadr 1 t3 fun t18 =>
  p.load false 1 t18 H fun t19 =>
  p.fadr 1 t1 fun t20 =>
  p.load false 1 t20 H fun t21 =>
  p.iadr 6 t21 t4 fun t23 =>
  p.fadr 0 t23 fun t24 =>
  p.load false 1 t24 H fun t25 =>
  p.fadr 1 t1 fun t26 =>
  p.load false 1 t26 H fun t27 =>
  p.iadr 6 t27 t4 fun t29 =>
  p.fadr 1 t29 fun t30 =>
  p.load true 4 t30 H fun t31 =>
  p.fadr 1 t1 fun t33 =>
  p.load false 1 t33 H fun t34 =>
  p.iadr 6 t34 t4 fun t36 =>
  p.fadr 5 t36 fun t37 =>
  p.load false 1 t37 H fun t38 =>
  p.call 27 (.fn 82 [] []) [t31] H fun t32 H =>
  p.fill [(.sc (.int .i64 0)), (.sc (.string ⟨#[]⟩)), .nl, (.sc (.int .i64 0)), (.sc (.bool false)), (.sc (.int .i64 0))] [(0, 1, t25), (1, 4, t32), (5, 1, t38)] fun ct39 =>
  p.fill [(.sc (.int .i64 0)), (.sc (.string ⟨#[]⟩)), .nl, (.sc (.int .i64 0)), (.sc (.bool false)), (.sc (.int .i64 0))] [(0, 6, (.agg ct39))] fun ct40 => p.newSl 1 6 ct40 true H fun t40 H =>
  p.app 6 72 t19 t40 H fun t41 H =>
  p.fadr 1 t3 fun t42 =>
  p.store 1 t42 t41 H fun H =>
  p.bin .add t4 (.sc (.int .i64 1)) fun t17 =>
  f88_L0 p n  k m0 [(0, t0), (1, t1), (2, t2), (3, t3), (4, t17), (5, t5), (6, t6), (7, t7), (8, t8), (9, t9), (10, t10), (11, t4), (12, t12), (13, t13), (14, t14), (15, t15), (16, t4), (17, t17), (18, t18), (19, t19), (20, t20), (21, t21), (22, t4), (23, t23), (24, t24), (25, t25), (26, t26), (27, t27), (28, t4), (29, t29), (30, t30), (31, t31), (32, t32), (33, t33), (34, t34), (35, t4), (36, t36), (37, t37), (38, t38), (39, (.agg ct39)), (40, t40), (41, t41), (42, t42), (43, t43)] H)
  (p.load true 3 t3 H fun t43 =>
  p.store 3 t2 t43 H fun H =>
  p.load true 3 t2 H fun r0 =>
  k r0 H) := by kernel_rfl
theorem f88_l0_eq (p : Pr β) (n : Nat)  (k : AV → Heap → Option β)   (m0 : Nat) : ∀ (t0 t1 t2 t3 t4 t5 t6 t7 t8 t9 t10 t11 t12 t13 t14 t15 t16 t17 t18 t19 t20 t21 t22 t23 t24 t25 t26 t27 t28 t29 t30 t31 t32 t33 t34 t35 t36 t37 t38 t39 t40 t41 t42 t43 : AV) (H : Heap), f88_L0 p n  k m0 [(0, t0), (1, t1), (2, t2), (3, t3), (4, t4), (5, t5), (6, t6), (7, t7), (8, t8), (9, t9), (10, t10), (11, t11), (12, t12), (13, t13), (14, t14), (15, t15), (16, t16), (17, t17), (18, t18), (19, t19), (20, t20), (21, t21), (22, t22), (23, t23), (24, t24), (25, t25), (26, t26), (27, t27), (28, t28), (29, t29), (30, t30), (31, t31), (32, t32), (33, t33), (34, t34), (35, t35), (36, t36), (37, t37), (38, t38), (39, t39), (40, t40), (41, t41), (42, t42), (43, t43)] H = f88_l0 p n  k m0 t1 t2 t3 t4 H := by
  induction m0 with
  | zero => intros; rfl
  | succ m0 ih =>
    intro t0 t1 t2 t3 t4 t5 t6 t7 t8 t9 t10 t11 t12 t13 t14 t15 t16 t17 t18 t19 t20 t21 t22 t23 t24 t25 t26 t27 t28 t29 t30 t31 t32 t33 t34 t35 t36 t37 t38 t39 t40 t41 t42 t43 H
    rw [f88_L0_step]
    simp only [ih]
    rfl
theorem f88_raw (p : Pr β) (n : Nat) (a0 : AV) (H : Heap) (k : AV → Heap → Option β) : evalBody ti0 p n ⟨c88, 44, Go.Proofs.Tryd.f88.results.toList, o88⟩ [a0] H k =
  p.box a0 H fun t1 H =>
  p.new [(.sc (.int .i64 0)), .nl, .nl] H fun t2 H =>
  p.fadr 0 t1 fun t5 =>
  p.load false 1 t5 H fun t6 =>
  p.fadr 2 t1 fun t7 =>
  p.load false 1 t7 H fun t8 =>
  p.both
  (p.call 34 (.fn 81 [] []) [t8] H fun t9 H =>
  p.fill [(.sc (.int .i64 0)), .nl, .nl] [(0, 1, t6), (2, 1, t9)] fun ct10 =>
  p.new [(.sc (.int .i64 0)), .nl, .nl] H fun t3 H =>
  p.store 3 t3 (.agg ct10) H fun H =>
  f88_L0 p n  k n [(0, a0), (1, t1), (2, t2), (3, t3), (4, (.sc (.int .i64 0))), (5, t5), (6, t6), (7, t7), (8, t8), (9, t9), (10, (.agg ct10)), (11, (.sc undef)), (12, (.sc undef)), (13, (.sc undef)), (14, (.sc undef)), (15, (.sc undef)), (16, (.sc undef)), (17, (.sc undef)), (18, (.sc undef)), (19, (.sc undef)), (20, (.sc undef)), (21, (.sc undef)), (22, (.sc undef)), (23, (.sc undef)), (24, (.sc undef)), (25, (.sc undef)), (26, (.sc undef)), (27, (.sc undef)), (28, (.sc undef)), (29, (.sc undef)), (30, (.sc undef)), (31, (.sc undef)), (32, (.sc undef)), (33, (.sc undef)), (34, (.sc undef)), (35, (.sc undef)), (36, (.sc undef)), (37, (.sc undef)), (38, (.sc undef)), (39, (.sc undef)), (40, (.sc undef)), (41, (.sc undef)), (42, (.sc undef)), (43, (.sc undef))] H)
  (p.new [(.sc (.int .i64 0)), .nl, .nl] H fun t3 H =>
  p.call 34 (.fn 81 [] []) [t8] H fun t9 H =>
  p.fill [(.sc (.int .i64 0)), .nl, .nl] [(0, 1, t6), (2, 1, t9)] fun ct10 =>
  p.store 3 t3 (.agg ct10) H fun H =>
  f88_L0 p n  k n [(0, a0), (1, t1), (2, t2), (3, t3), (4, (.sc (.int .i64 0))), (5, t5), (6, t6), (7, t7), (8, t8), (9, t9), (10, (.agg ct10)), (11, (.sc undef)), (12, (.sc undef)), (13, (.sc undef)), (14, (.sc undef)), (15, (.sc undef)), (16, (.sc undef)), (17, (.sc undef)), (18, (.sc undef)), (19, (.sc undef)), (20, (.sc undef)), (21, (.sc undef)), (22, (.sc undef)), (23, (.sc undef)), (24, (.sc undef)), (25, (.sc undef)), (26, (.sc undef)), (27, (.sc undef)), (28, (.sc undef)), (29, (.sc undef)), (30, (.sc undef)), (31, (.sc undef)), (32, (.sc undef)), (33, (.sc undef)), (34, (.sc undef)), (35, (.sc undef)), (36, (.sc undef)), (37, (.sc undef)), (38, (.sc undef)), (39, (.sc undef)), (40, (.sc undef)), (41, (.sc undef)), (42, (.sc undef)), (43, (.sc undef))] H) := by kernel_rfl
theorem f88_body (p : Pr β) (n : Nat) (a0 : AV) (H : Heap) (k : AV → Heap → Option β) : evalBody ti0 p n ⟨c88, 44, Go.Proofs.Tryd.f88.results.toList, o88⟩ [a0] H k = f88 p n a0 H k := by
  rw [f88_raw]
  simp only [f88_l0_eq]
  rfl

/-! 61 loop.example/g00480/spec.l13St -/
noncomputable def f61 (p : Pr β) (n : Nat) (a0 : AV) (H : Heap) (k : AV → Heap → Option β) : Option β :=
  p.box a0 H fun t1 H =>
  p.fadr 1 t1 fun t3 =>
  p.fadr 2 t3 fun t4 =>
  p.load false 1 t4 H fun t5 =>
  p.bin .eql t5 (.sc (.int .i64 1)) fun t6 =>
  p.cond t6
  (p.fadr 5 t1 fun t7 =>
  p.load false 1 t7 H fun t8 =>
  p.bin .eql t8 (.sc (.int .i64 1)) fun t9 =>
  k t9 H)
  (p.fadr 1 t1 fun t10 =>
  p.fadr 2 t10 fun t11 =>
  p.load false 1 t11 H fun t12 =>
  p.bin .eql t12 (.sc (.int .i64 2)) fun t13 =>
  p.guard t13 true H (fun k' => p.fadr 5 t1 fun t' => k' t' H) fun t15 H =>
  p.guard t13 true H (fun k' => p.load false 1 t15 H fun t' => k' t' H) fun t16 H =>
  p.guard t13 true H (fun k' => p.bin .eql t16 (.sc (.int .i64 2)) fun t' => k' t' H) fun t17 H =>
  p.guard t13 true H (fun k' => k' t17 H) fun t18 H =>
  p.guard t18 false H (fun k' => p.fadr 5 t1 fun t' => k' t' H) fun t19 H =>
  p.guard t18 false H (fun k' => p.load false 1 t19 H fun t' => k' t' H) fun t20 H =>
  p.guard t18 false H (fun k' => p.bin .eql t20 (.sc (.int .i64 3)) fun t' => k' t' H) fun t21 H =>
  p.guard t13 true H (fun k' => p.pick t18 (.sc (.bool true)) t21 fun t' => k' t' H) fun t22 H =>
  p.pick t13 t22 (.sc (.bool false)) fun t23 =>
  k t23 H)
theorem f61_body (p : Pr β) (n : Nat) (a0 : AV) (H : Heap) (k : AV → Heap → Option β) : evalBody ti0 p n ⟨c61, 24, Go.Proofs.Tryd.f61.results.toList, o61⟩ [a0] H k = f61 p n a0 H k := by kernel_rfl

/-! 23 loop.example/g00480/spec.OutOk -/
noncomputable def f23_l1 (p : Pr β) (n : Nat) (g0 : AV → AV → Heap → Option β) (k : AV → Heap → Option β) : Nat → AV → AV → AV → Heap → Option β
  | 0, _, _, _, _ => none
  | m + 1, t1, t3, t4, H => p.bin .lss t4 t3 fun t41 =>
      p.cond t41
      (p.fadr 1 t1 fun t44 =>
      p.load false 1 t44 H fun t45 =>
      p.iadr 6 t45 t4 fun t47 =>
      p.fadr 0 t47 fun t48 =>
      p.load false 1 t48 H fun t49 =>
      p.fadr 1 t1 fun t50 =>
      p.load false 1 t50 H fun t51 =>
      p.iadr 6 t51 t3 fun t53 =>
      p.fadr 0 t53 fun t54 =>
      p.load false 1 t54 H fun t55 =>
      p.bin .eql t49 t55 fun t56 =>
      p.cond t56
      (k (.sc (.bool false)) H)
      (p.bin .add t4 (.sc (.int .i64 1)) fun t43 =>
      f23_l1 p n g0 k m t1 t3 t43 H))
      (p.bin .add t3 (.sc (.int .i64 1)) fun t11 =>
      g0 t1 t11 H)
noncomputable def f23_l0 (p : Pr β) (n : Nat)  (k : AV → Heap → Option β) : Nat → AV → AV → Heap → Option β
  | 0, _, _, _ => none
  | m + 1, t1, t3, H => p.fadr 1 t1 fun t6 =>
      p.load false 1 t6 H fun t7 =>
      p.len t7 fun t8 =>
      p.bin .lss t3 t8 fun t9 =>
      p.cond t9
      (p.fadr 1 t1 fun t12 =>
      p.load false 1 t12 H fun t13 =>
      p.iadr 6 t13 t3 fun t15 =>
      p.fadr 0 t15 fun t16 =>
      p.load false 1 t16 H fun t17 =>
      p.call 4 (.fn 54 [] []) [t17, (.sc (.int .i64 1)), (.sc (.int .i64 65535))] H fun t18 H =>
      p.un .not t18 fun t19 =>
      p.guard t19 false H (fun k' => p.fadr 1 t1 fun t' => k' t' H) fun t21 H =>
      p.guard t19 false H (fun k' => p.load false 1 t21 H fun t' => k' t' H) fun t22 H =>
      p.guard t19 false H (fun k' => k' t3 H) fun t23 H =>
      p.guard t19 false H (fun k' => p.iadr 6 t22 t23 fun t' => k' t' H) fun t24 H =>
      p.guard t19 false H (fun k' => p.fadr 1 t24 fun t' => k' t' H) fun t25 H =>
      p.guard t19 false H (fun k' => p.load true 4 t25 H fun t' => k' t' H) fun t26 H =>
      p.guard t19 false H (fun k' => p.call 4 (.fn 13 [] []) [t26] H fun t' H => k' t' H) fun t27 H =>
      p.guard t19 false H (fun k' => p.un .not t27 fun t' => k' t' H) fun t28 H =>
      p.pick t19 (.sc (.bool true)) t28 fun t29 =>
      p.guard t29 false H (fun k' => p.fadr 1 t1 fun t' => k' t' H) fun t31 H =>
      p.guard t29 false H (fun k' => p.load false 1 t31 H fun t' => k' t' H) fun t32 H =>
      p.guard t29 false H (fun k' => k' t3 H) fun t33 H =>
      p.guard t29 false H (fun k' => p.iadr 6 t32 t33 fun t' => k' t' H) fun t34 H =>
      p.guard t29 false H (fun k' => p.load true 6 t34 H fun t' => k' t' H) fun t35 H =>
      p.guard t29 false H (fun k' => p.call 4 (.fn 61 [] []) [t35] H fun t' H => k' t' H) fun t36 H =>
      p.guard t29 false H (fun k' => p.un .not t36 fun t' => k' t' H) fun t37 H =>
      p.pick t29 (.sc (.bool true)) t37 fun t38 =>
      p.cond t38
      (k (.sc (.bool false)) H)
      (f23_l1 p n (f23_l0 p n  k m) k n t1 t3 (.sc (.int .i64 0)) H))
      (p.fadr 0 t1 fun t57 =>
      p.load false 1 t57 H fun t58 =>
      p.call 4 (.fn 54 [] []) [t58, (.sc (.int .i64 0)), (.sc (.int .i64 65535))] H fun t59 H =>
      p.guard t59 true H (fun k' => p.fadr 1 t1 fun t' => k' t' H) fun t61 H =>
      p.guard t59 true H (fun k' => p.load false 1 t61 H fun t' => k' t' H) fun t62 H =>
      p.guard t59 true H (fun k' => p.len t62 fun t' => k' t' H) fun t63 H =>
      p.guard t59 true H (fun k' => p.bin .leq t63 (.sc (.int .i64 3)) fun t' => k' t' H) fun t64 H =>
      p.pick t59 t64 (.sc (.bool false)) fun t65 =>
      p.guard t65 true H (fun k' => p.fadr 2 t1 fun t' => k' t' H) fun t67 H =>
      p.guard t65 true H (fun k' => p.load false 1 t67 H fun t' => k' t' H) fun t68 H =>
      p.guard t65 true H (fun k' => p.call 4 (.fn 18 [] []) [t68] H fun t' H => k' t' H) fun t69 H =>
      p.pick t65 t69 (.sc (.bool false)) fun t70 =>
      k t70 H)
noncomputable def f23 (p : Pr β) (n : Nat) (a0 : AV) (H : Heap) (k : AV → Heap → Option β) : Option β :=
  p.box a0 H fun t1 H =>
  f23_l0 p n  k n t1 (.sc (.int .i64 0)) H
noncomputable def f23_L1 (p : Pr β) (n : Nat) (m0 : Nat) (k : AV → Heap → Option β) (m : Nat) (tm : Tm) (H : Heap) : Option β :=
  iterC 71 (fun tm H k => evalCode ti0 p o23 71 n (cd c23 [1, 0, 1, 0, 0, 1, 0, 0, 1, 1, 0, 0]) tm H k) (blkK 2 (blkK 1 (seqK (fun tm H => evalCode ti0 p o23 71 n (cd c23 [1, 0, 1, 0, 0, 1, 1]) tm H (seqK (fun tm H => iterC 71 (fun tm H k => evalCode ti0 p o23 71 n (cd c23 [1, 0, 1, 0, 0]) tm H k) (blkK 0 (seqK (fun tm H => evalCode ti0 p o23 71 n (cd c23 [1, 1]) tm H (endK ti0 p Go.Proofs.Tryd.f23.results.toList k)) (endK ti0 p Go.Proofs.Tryd.f23.results.toList k))) m0 (nrm 71 tm) H) (blkK 0 (seqK (fun tm H => evalCode ti0 p o23 71 n (cd c23 [1, 1]) tm H (endK ti0 p Go.Proofs.Tryd.f23.results.toList k)) (endK ti0 p Go.Proofs.Tryd.f23.results.toList k))))) (seqK (fun tm H => iterC 71 (fun tm H k => evalCode ti0 p o23 71 n (cd c23 [1, 0, 1, 0, 0]) tm H k) (blkK 0 (seqK (fun tm H => evalCode ti0 p o23 71 n (cd c23 [1, 1]) tm H (endK ti0 p Go.Proofs.Tryd.f23.results.toList k)) (endK ti0 p Go.Proofs.Tryd.f23.results.toList k))) m0 (nrm 71 tm) H) (blkK 0 (seqK (fun tm H => evalCode ti0 p o23 71 n (cd c23 [1, 1]) tm H (endK ti0 p Go.Proofs.Tryd.f23.results.toList k)) (endK ti0 p Go.Proofs.Tryd.f23.results.toList k))))))) m tm H
noncomputable def f23_L0 (p : Pr β) (n : Nat)  (k : AV → Heap → Option β) (m : Nat) (tm : Tm) (H : Heap) : Option β :=
  iterC 71 (fun tm H k => evalCode ti0 p o23 71 n (cd c23 [1, 0, 1, 0, 0]) tm H k) (blkK 0 (seqK (fun tm H => evalCode ti0 p o23 71 n (cd c23 [1, 1]) tm H (endK ti0 p Go.Proofs.Tryd.f23.results.toList k)) (endK ti0 p Go.Proofs.Tryd.f23.results.toList k))) m tm H
theorem f23_L1_step (p : Pr β) (n : Nat) (m0 : Nat) (k : AV → Heap → Option β) (m1 : Nat) (t0 t1 t2 t3 t4 t5 t6 t7 t8 t9 t10 t11 t12 t13 t14 t15 t16 t17 t18 t19 t20 t21 t22 t23 t24 t25 t26 t27 t28 t29 t30 t31 t32 t33 t34 t35 t36 t37 t38 t39 t40 t41 t42 t43 t44 t45 t46 t47 t48 t49 t50 t51 t52 t53 t54 t55 t56 t57 t58 t59 t60 t61 t62 t63 t64 t65 t66 t67 t68 t69 t70 : AV) (H : Heap) : f23_L1 p n m0 k (m1 + 1) [(0, t0), (1, t1), (2, t2), (3, t3), (4, t4), (5, t5), (6, t6), (7, t7), (8, t8), (9, t9), (10, t10), (11, t11), (12, t12), (13, t13), (14, t14), (15, t15), (16, t16), (17, t17), (18, t18), (19, t19), (20, t20), (21, t21), (22, t22), (23, t23), (24, t24), (25, t25), (26, t26), (27, t27), (28, t28), (29, t29), (30, t30), (31, t31), (32, t32), (33, t33), (34, t34), (35, t35), (36, t36), (37, t37), (38, t38), (39, t39), (40, t40), (41, t41), (42, t42), (43, t43), (44, t44), (45, t45), (46, t46), (47, t47), (48, t48), (49, t49), (50, t50), (51, t51), (52, t52), (53, t53), (54, t54), (55, t55), (56, t56), (57, t57), (58, t58), (59, t59), (60, t60), (61, t61), (62, t62), (63, t63), (64, t64), (65, t65), (66, t66), (67, t67), (68, t68), (69, t69), (70, t70)] H =
  p.bin .lss t4 t3 fun t41 =>
  p.cond t41
  (p.fadr 1 t1 fun t44 =>
  p.load false 1 t44 H fun t45 =>
  p.iadr 6 t45 t4 fun t47 =>
  p.fadr 0 t47 fun t48 =>
  p.load false 1 t48 H fun t49 =>
  p.fadr 1 t1 fun t50 =>
  p.load false 1 t50 H fun t51 =>
  p.iadr 6 t51 t3 fun t53 =>
  p.fadr 0 t53 fun t54 =>
  p.load false 1 t54 H fun t55 =>
  p.bin .eql t49 t55 fun t56 =>
  p.cond t56
  (k (.sc (.bool false)) H)
  (p.bin .add t4 (.sc (.int .i64 1)) fun t43 =>
  f23_L1 p n m0 k m1 [(0, t0), (1, t1), (2, t2), (3, t3), (4, t43), (5, t5), (6, t6), (7, t7), (8, t8), (9, t9), (10, t10), (11, t11), (12, t12), (13, t13), (14, t14), (15, t15), (16, t16), (17, t17), (18, t18), (19, t19), (20, t20), (21, t21), (22, t22), (23, t23), (24, t24), (25, t25), (26, t26), (27, t27), (28, t28), (29, t29), (30, t30), (31, t31), (32, t32), (33, t33), (34, t34), (35, t35), (36, t36), (37, t37), (38, t38), (39, t4), (40, t3), (41, t41), (42, t4), (43, t43), (44, t44), (45, t45), (46, t4), (47, t47), (48, t48), (49, t49), (50, t50), (51, t51), (52, t3), (53, t53), (54, t54), (55, t55), (56, t56), (57, t57), (58, t58), (59, t59), (60, t60), (61, t61), (62, t62), (63, t63), (64, t64), (65, t65), (66, t66), (67, t67), (68, t68), (69, t69), (70, t70)] H))
  (p.bin .add t3 (.sc (.int .i64 1)) fun t11 =>
  f23_L0 p n  k m0 [(0, t0), (1, t1), (2, t2), (3, t11), (4, t4), (5, t5), (6, t6), (7, t7), (8, t8), (9, t9), (10, t3), (11, t11), (12, t12), (13, t13), (14, t14), (15, t15), (16, t16), (17, t17), (18, t18), (19, t19), (20, t20), (21, t21), (22, t22), (23, t23), (24, t24), (25, t25), (26, t26), (27, t27), (28, t28), (29, t29), (30, t30), (31, t31), (32, t32), (33, t33), (34, t34), (35, t35), (36, t36), (37, t37), (38, t38), (39, t4), (40, t3), (41, t41), (42, t42), (43, t43), (44, t44), (45, t45), (46, t46), (47, t47), (48, t48), (49, t49), (50, t50), (51, t51), (52, t52), (53, t53), (54, t54), (55, t55), (56, t56), (57, t57), (58, t58), (59, t59), (60, t60), (61, t61), (62, t62), (63, t63), (64, t64), (65, t65), (66, t66), (67, t67), (68, t68), (69, t69), (70, t70)] H) := by kernel_rfl
theorem f23_l1_eq (p : Pr β) (n : Nat) (m0 : Nat) (k : AV → Heap → Option β) (g0 : AV → AV → Heap → Option β) (h0 : ∀ t0 t1 t2 t3 t4 t5 t6 t7 t8 t9 t10 t11 t12 t13 t14 t15 t16 t17 t18 t19 t20 t21 t22 t23 t24 t25 t26 t27 t28 t29 t30 t31 t32 t33 t34 t35 t36 t37 t38 t39 t40 t41 t42 t43 t44 t45 t46 t47 t48 t49 t50 t51 t52 t53 t54 t55 t56 t57 t58 t59 t60 t61 t62 t63 t64 t65 t66 t67 t68 t69 t70 H, f23_L0 p n  k m0 [(0, t0), (1, t1), (2, t2), (3, t3), (4, t4), (5, t5), (6, t6), (7, t7), (8, t8), (9, t9), (10, t10), (11, t11), (12, t12), (13, t13), (14, t14), (15, t15), (16, t16), (17, t17), (18, t18), (19, t19), (20, t20), (21, t21), (22, t22), (23, t23), (24, t24), (25, t25), (26, t26), (27, t27), (28, t28), (29, t29), (30, t30), (31, t31), (32, t32), (33, t33), (34, t34), (35, t35), (36, t36), (37, t37), (38, t38), (39, t39), (40, t40), (41, t41), (42, t42), (43, t43), (44, t44), (45, t45), (46, t46), (47, t47), (48, t48), (49, t49), (50, t50), (51, t51), (52, t52), (53, t53), (54, t54), (55, t55), (56, t56), (57, t57), (58, t58), (59, t59), (60, t60), (61, t61), (62, t62), (63, t63), (64, t64), (65, t65), (66, t66), (67, t67), (68, t68), (69, t69), (70, t70)] H = g0 t1 t3 H) (m1 : Nat) : ∀ (t0 t1 t2 t3 t4 t5 t6 t7 t8 t9 t10 t11 t12 t13 t14 t15 t16 t17 t18 t19 t20 t21 t22 t23 t24 t25 t26 t27 t28 t29 t30 t31 t32 t33 t34 t35 t36 t37 t38 t39 t40 t41 t42 t43 t44 t45 t46 t47 t48 t49 t50 t51 t52 t53 t54 t55 t56 t57 t58 t59 t60 t61 t62 t63 t64 t65 t66 t67 t68 t69 t70 : AV) (H : Heap), f23_L1 p n m0 k m1 [(0, t0), (1, t1), (2, t2), (3, t3), (4, t4), (5, t5), (6, t6), (7, t7), (8, t8), (9, t9), (10, t10), (11, t11), (12, t12), (13, t13), (14, t14), (15, t15), (16, t16), (17, t17), (18, t18), (19, t19), (20, t20), (21, t21), (22, t22), (23, t23), (24, t24), (25, t25), (26, t26), (27, t27), (28, t28), (29, t29), (30, t30), (31, t31), (32, t32), (33, t33), (34, t34), (35, t35), (36, t36), (37, t37), (38, t38), (39, t39), (40, t40), (41, t41), (42, t42), (43, t43), (44, t44), (45, t45), (46, t46), (47, t47), (48, t48), (49, t49), (50, t50), (51, t51), (52, t52), (53, t53), (54, t54), (55, t55), (56, t56), (57, t57), (58, t58), (59, t59), (60, t60), (61, t61), (62, t62), (63, t63), (64, t64), (65, t65), (66, t66), (67, t67), (68, t68), (69, t69), (70, t70)] H = f23_l1 p n g0 k m1 t1 t3 t4 H := by
  induction m1 with
  | zero => intros; rfl
  | succ m1 ih =>
    intro t0 t1 t2 t3 t4 t5 t6 t7 t8 t9 t10 t11 t12 t13 t14 t15 t16 t17 t18 t19 t20 t21 t22 t23 t24 t25 t26 t27 t28 t29 t30 t31 t32 t33 t34 t35 t36 t37 t38 t39 t40 t41 t42 t43 t44 t45 t46 t47 t48 t49 t50 t51 t52 t53 t54 t55 t56 t57 t58 t59 t60 t61 t62 t63 t64 t65 t66 t67 t68 t69 t70 H
    rw [f23_L1_step]
    simp only [ih, h0]
    rfl
theorem f23_L0_step (p : Pr β) (n : Nat)  (k : AV → Heap → Option β) (m0 : Nat) (t0 t1 t2 t3 t4 t5 t6 t7 t8 t9 t10 t11 t12 t13 t14 t15 t16 t17 t18 t19 t20 t21 t22 t23 t24 t25 t26 t27 t28 t29 t30 t31 t32 t33 t34 t35 t36 t37 t38 t39 t40 t41 t42 t43 t44 t45 t46 t47 t48 t49 t50 t51 t52 t53 t54 t55 t56 t57 t58 t59 t60 t61 t62 t63 t64 t65 t66 t67 t68 t69 t70 : AV) (H : Heap) : f23_L0 p n  k (m0 + 1) [(0, t0), (1, t1), (2, t2), (3, t3), (4, t4), (5, t5), (6, t6), (7, t7), (8, t8), (9, t9), (10, t10), (11, t11), (12, t12), (13, t13), (14, t14), (15, t15), (16, t16), (17, t17), (18, t18), (19, t19), (20, t20), (21, t21), (22, t22), (23, t23), (24, t24), (25, t25), (26, t26), (27, t27), (28, t28), (29, t29), (30, t30), (31, t31), (32, t32), (33, t33), (34, t34), (35, t35), (36, t36), (37, t37), (38, t38), (39, t39), (40, t40), (41, t41), (42, t42), (43, t43), (44, t44), (45, t45), (46, t46), (47, t47), (48, t48), (49, t49), (50, t50), (51, t51), (52, t52), (53, t53), (54, t54), (55, t55), (56, t56), (57, t57), (58, t58), (59, t59), (60, t60), (61, t61), (62, t62), (63, t63), (64, t64), (65, t65), (66, t66), (67, t67), (68, t68), (69, t69), (70, t70)] H =
  p.fadr 1 t1 fun t6 =>
  p.load false 1 t6 H fun t7 =>
  p.len t7 fun t8 =>
  p.bin .lss t3 t8 fun t9 =>
  p.cond t9
  (p.fadr 1 t1 fun t12 =>
  p.load false 1 t12 H fun t13 =>
  p.iadr 6 t13 t3 fun t15 =>
  p.fadr 0 t15 fun t16 =>
  p.load false 1 t16 H fun t17 =>
  p.call 4 (.fn 54 [] []) [t17, (.sc (.int .i64 1)), (.sc (.int .i64 65535))] H fun t18 H =>
  p.un .not t18 fun t19 =>
  p.guard t19 false H (fun k' => p.fadr 1 t1 fun t' => k' t' H) fun t21 H =>
  p.guard t19 false H (fun k' => p.load false 1 t21 H fun t' => k' t' H) fun t22 H =>
  p.guard t19 false H (fun k' => k' t3 H) fun t23 H =>
  p.guard t19 false H (fun k' => p.iadr 6 t22 t23 fun t' => k' t' H) fun t24 H =>
  p.guard t19 false H (fun k' => p.fadr 1 t24 fun t' => k' t' H) fun t25 H =>
  p.guard t19 false H (fun k' => p.load true 4 t25 H fun t' => k' t' H) fun t26 H =>
  p.guard t19 false H (fun k' => p.call 4 (.fn 13 [] []) [t26] H fun t' H => k' t' H) fun t27 H =>
  p.guard t19 false H (fun k' => p.un .not t27 fun t' => k' t' H) fun t28 H =>
  p.pick t19 (.sc (.bool true)) t28 fun t29 =>
  p.guard t29 false H (fun k' => p.fadr 1 t1 fun t' => k' t' H) fun t31 H =>
  p.guard t29 false H (fun k' => p.load false 1 t31 H fun t' => k' t' H) fun t32 H =>
  p.guard t29 false H (fun k' => k' t3 H) fun t33 H =>
  p.guard t29 false H (fun k' => p.iadr 6 t32 t33 fun t' => k' t' H) fun t34 H =>
  p.guard t29 false H (fun k' => p.load true 6 t34 H fun t' => k' t' H) fun t35 H =>
  p.guard t29 false H (fun k' => p.call 4 (.fn 61 [] []) [t35] H fun t' H => k' t' H) fun t36 H =>
  p.guard t29 false H (fun k' => p.un .not t36 fun t' => k' t' H) fun t37 H =>
  p.pick t29 (.sc (.bool true)) t37 fun t38 =>
  p.cond t38
  (k (.sc (.bool false)) H)
  (f23_L1 p n m0 k n [(0, t0), (1, t1), (2, t2), (3, t3), (4, (.sc (.int .i64 0))), (5, t3), (6, t6), (7, t7), (8, t8), (9, t9), (10, t10), (11, t11), (12, t12), (13, t13), (14, t3), (15, t15), (16, t16), (17, t17), (18, t18), (19, t19), (20, t19), (21, t21), (22, t22), (23, t23), (24, t24), (25, t25), (26, t26), (27, t27), (28, t28), (29, t29), (30, t29), (31, t31), (32, t32), (33, t33), (34, t34), (35, t35), (36, t36), (37, t37), (38, t38), (39, t39), (40, t40), (41, t41), (42, t42), (43, t43), (44, t44), (45, t45), (46, t46), (47, t47), (48, t48), (49, t49), (50, t50), (51, t51), (52, t52), (53, t53), (54, t54), (55, t55), (56, t56), (57, t57), (58, t58), (59, t59), (60, t60), (61, t61), (62, t62), (63, t63), (64, t64), (65, t65), (66, t66), (67, t67), (68, t68), (69, t69), (70, t70)] H))
  (p.fadr 0 t1 fun t57 =>
  p.load false 1 t57 H fun t58 =>
  p.call 4 (.fn 54 [] []) [t58, (.sc (.int .i64 0)), (.sc (.int .i64 65535))] H fun t59 H =>
  p.guard t59 true H (fun k' => p.fadr 1 t1 fun t' => k' t' H) fun t61 H =>
  p.guard t59 true H (fun k' => p.load false 1 t61 H fun t' => k' t' H) fun t62 H =>
  p.guard t59 true H (fun k' => p.len t62 fun t' => k' t' H) fun t63 H =>
  p.guard t59 true H (fun k' => p.bin .leq t63 (.sc (.int .i64 3)) fun t' => k' t' H) fun t64 H =>
  p.pick t59 t64 (.sc (.bool false)) fun t65 =>
  p.guard t65 true H (fun k' => p.fadr 2 t1 fun t' => k' t' H) fun t67 H =>
  p.guard t65 true H (fun k' => p.load false 1 t67 H fun t' => k' t' H) fun t68 H =>
  p.guard t65 true H (fun k' => p.call 4 (.fn 18 [] []) [t68] H fun t' H => k' t' H) fun t69 H =>
  p.pick t65 t69 (.sc (.bool false)) fun t70 =>
  k t70 H) := by kernel_rfl
theorem f23_l0_eq (p : Pr β) (n : Nat)  (k : AV → Heap → Option β)   (m0 : Nat) : ∀ (t0 t1 t2 t3 t4 t5 t6 t7 t8 t9 t10 t11 t12 t13 t14 t15 t16 t17 t18 t19 t20 t21 t22 t23 t24 t25 t26 t27 t28 t29 t30 t31 t32 t33 t34 t35 t36 t37 t38 t39 t40 t41 t42 t43 t44 t45 t46 t47 t48 t49 t50 t51 t52 t53 t54 t55 t56 t57 t58 t59 t60 t61 t62 t63 t64 t65 t66 t67 t68 t69 t70 : AV) (H : Heap), f23_L0 p n  k m0 [(0, t0), (1, t1), (2, t2), (3, t3), (4, t4), (5, t5), (6, t6), (7, t7), (8, t8), (9, t9), (10, t10), (11, t11), (12, t12), (13, t13), (14, t14), (15, t15), (16, t16), (17, t17), (18, t18), (19, t19), (20, t20), (21, t21), (22, t22), (23, t23), (24, t24), (25, t25), (26, t26), (27, t27), (28, t28), (29, t29), (30, t30), (31, t31), (32, t32), (33, t33), (34, t34), (35, t35), (36, t36), (37, t37), (38, t38), (39, t39), (40, t40), (41, t41), (42, t42), (43, t43), (44, t44), (45, t45), (46, t46), (47, t47), (48, t48), (49, t49), (50, t50), (51, t51), (52, t52), (53, t53), (54, t54), (55, t55), (56, t56), (57, t57), (58, t58), (59, t59), (60, t60), (61, t61), (62, t62), (63, t63), (64, t64), (65, t65), (66, t66), (67, t67), (68, t68), (69, t69), (70, t70)] H = f23_l0 p n  k m0 t1 t3 H := by
  induction m0 with
  | zero => intros; rfl
  | succ m0 ih =>
    intro t0 t1 t2 t3 t4 t5 t6 t7 t8 t9 t10 t11 t12 t13 t14 t15 t16 t17 t18 t19 t20 t21 t22 t23 t24 t25 t26 t27 t28 t29 t30 t31 t32 t33 t34 t35 t36 t37 t38 t39 t40 t41 t42 t43 t44 t45 t46 t47 t48 t49 t50 t51 t52 t53 t54 t55 t56 t57 t58 t59 t60 t61 t62 t63 t64 t65 t66 t67 t68 t69 t70 H
    rw [f23_L0_step]
    simp only [ih, f23_l1_eq p n m0 k (f23_l0 p n  k m0) ih]
    rfl
theorem f23_raw (p : Pr β) (n : Nat) (a0 : AV) (H : Heap) (k : AV → Heap → Option β) : evalBody ti0 p n ⟨c23, 71, Go.Proofs.Tryd.f23.results.toList, o23⟩ [a0] H k =
  p.box a0 H fun t1 H =>
  f23_L0 p n  k n [(0, a0), (1, t1), (2, (.sc (.bool false))), (3, (.sc (.int .i64 0))), (4, (.sc undef)), (5, (.sc undef)), (6, (.sc undef)), (7, (.sc undef)), (8, (.sc undef)), (9, (.sc undef)), (10, (.sc undef)), (11, (.sc undef)), (12, (.sc undef)), (13, (.sc undef)), (14, (.sc undef)), (15, (.sc undef)), (16, (.sc undef)), (17, (.sc undef)), (18, (.sc undef)), (19, (.sc undef)), (20, (.sc undef)), (21, (.sc undef)), (22, (.sc undef)), (23, (.sc undef)), (24, (.sc undef)), (25, (.sc undef)), (26, (.sc undef)), (27, (.sc undef)), (28, (.sc undef)), (29, (.sc undef)), (30, (.sc undef)), (31, (.sc undef)), (32, (.sc undef)), (33, (.sc undef)), (34, (.sc undef)), (35, (.sc undef)), (36, (.sc undef)), (37, (.sc undef)), (38, (.sc undef)), (39, (.sc undef)), (40, (.sc undef)), (41, (.sc undef)), (42, (.sc undef)), (43, (.sc undef)), (44, (.sc undef)), (45, (.sc undef)), (46, (.sc undef)), (47, (.sc undef)), (48, (.sc undef)), (49, (.sc undef)), (50, (.sc undef)), (51, (.sc undef)), (52, (.sc undef)), (53, (.sc undef)), (54, (.sc undef)), (55, (.sc undef)), (56, (.sc undef)), (57, (.sc undef)), (58, (.sc undef)), (59, (.sc undef)), (60, (.sc undef)), (61, (.sc undef)), (62, (.sc undef)), (63, (.sc undef)), (64, (.sc undef)), (65, (.sc undef)), (66, (.sc undef)), (67, (.sc undef)), (68, (.sc undef)), (69, (.sc undef)), (70, (.sc undef))] H := by kernel_rfl
theorem f23_body (p : Pr β) (n : Nat) (a0 : AV) (H : Heap) (k : AV → Heap → Option β) : evalBody ti0 p n ⟨c23, 71, Go.Proofs.Tryd.f23.results.toList, o23⟩ [a0] H k = f23 p n a0 H k := by
  rw [f23_raw]
  simp only [f23_l0_eq]
  rfl

/-! 44 loop.example/g00480/spec.OutPush -/
noncomputable def f44 (p : Pr β) (n : Nat) (a0 a1 : AV) (H : Heap) (k : AV → Heap → Option β) : Option β :=
  p.box a0 H fun t2 H =>
  p.box a1 H fun t3 H =>
  p.new [(.sc (.int .i64 0)), .nl, .nl] H fun t4 H =>
  p.load true 3 t2 H fun t9 =>
  p.call 45 (.fn 88 [] []) [t9] H fun t10 H =>
  p.new [(.sc (.int .i64 0)), .nl, .nl] H fun t6 H =>
  p.store 3 t6 t10 H fun H =>
  p.load true 3 t2 H fun t11 =>
  p.call 4 (.fn 23 [] []) [t11] H fun t12 H =>
  p.un .not t12 fun t13 =>
  p.cond t13
  (p.load true 3 t6 H fun t14 =>
  p.store 3 t4 t14 H fun H =>
  p.load true 3 t4 H fun r0 =>
  k (packA [r0, (.sc (.int .i64 2))]) H)
  (p.fadr 2 t2 fun t16 =>
  p.load false 1 t16 H fun t17 =>
  p.load true 4 t3 H fun t18 =>
  p.call 70 (.fn 39 [] []) [t17, t18] H fun t19 H =>
  p.extr t19 0 fun t20 =>
  p.extr t19 1 fun t21 =>
  p.fadr 2 t6 fun t23 =>
  p.store 1 t23 t20 H fun H =>
  p.load true 3 t6 H fun t24 =>
  p.store 3 t4 t24 H fun H =>
  p.load true 3 t4 H fun r0 =>
  k (packA [r0, t21]) H)
theorem f44_body (p : Pr β) (n : Nat) (a0 a1 : AV) (H : Heap) (k : AV → Heap → Option β) : evalBody ti0 p n ⟨c44, 26, Go.Proofs.Tryd.f44.results.toList, o44⟩ [a0, a1] H k = f44 p n a0 a1 H k := by kernel_rfl

/-! 89 loop.example/g00480/impl.copyOut -/
noncomputable def f89_l0 (p : Pr β) (n : Nat)  (k : AV → Heap → Option β) : Nat → AV → AV → AV → AV → AV → Heap → Option β
  | 0, _, _, _, _, _, _ => none
  | m + 1, t2, t3, t13, t14, t15, H => p.bin .lss t15 t14 fun t16 =>
      p.cond t16
      (p.iadr 6 t13 t15 fun t17 =>
      p.load true 6 t17 H fun t18 =>
      p.new [(.sc (.int .i64 0)), (.sc (.string ⟨#[]⟩)), .nl, (.sc (.int .i64 0)), (.sc (.bool false)), (.sc (.int .i64 0))] H fun t5 H =>
      p.store 6 t5 t18 H fun H =>
      p.fadr 1 t3 fun t19 =>
      p.load false 1 t19 H fun t20 =>
      p.fadr 0 t5 fun t21 =>
      p.load false 1 t21 H fun t22 =>
      p.fadr 1 t5 fun t23 =>
      p.load true 4 t23 H fun t24 =>
      p.fadr 5 t5 fun t26 =>
      p.load false 1 t26 H fun t27 =>
      p.call 27 (.fn 84 [] []) [t24] H fun t25 H =>
      p.fill [(.sc (.int .i64 0)), (.sc (.string ⟨#[]⟩)), .nl, (.sc (.int .i64 0)), (.sc (.bool false)), (.sc (.int .i64 0))] [(0, 1, t22), (1, 4, t25), (5, 1, t27)] fun ct28 =>
      p.fill [(.sc (.int .i64 0)), (.sc (.string ⟨#[]⟩)), .nl, (.sc (.int .i64 0)), (.sc (.bool false)), (.sc (.int .i64 0))] [(0, 6, (.agg ct28))] fun ct29 => p.newSl 1 6 ct29 true H fun t29 H =>
      p.app 6 72 t20 t29 H fun t30 H =>
      p.fadr 1 t3 fun t31 =>
      p.store 1 t31 t30 H fun H =>
      p.bin .add t15 (.sc (.int .i64 1)) fun t32 =>
      f89_l0 p n  k m t2 t3 t13 t14 t32 H)
      (p.load true 3 t3 H fun t33 =>
      p.store 3 t2 t33 H fun H =>
      p.load true 3 t2 H fun r0 =>
      k r0 H)
noncomputable def f89 (p : Pr β) (n : Nat) (a0 : AV) (H : Heap) (k : AV → Heap → Option β) : Option β :=
  p.box a0 H fun t1 H =>
  p.new [(.sc (.int .i64 0)), .nl, .nl] H fun t2 H =>
  p.fadr 0 t1 fun t6 =>
  p.load false 1 t6 H fun t7 =>
  p.fadr 2 t1 fun t8 =>
  p.load false 1 t8 H fun t9 =>
  p.both
  (p.call 34 (.fn 83 [] []) [t9] H fun t10 H =>
  p.fill [(.sc (.int .i64 0)), .nl, .nl] [(0, 1, t7), (2, 1, t10)] fun ct11 =>
  p.new [(.sc (.int .i64 0)), .nl, .nl] H fun t3 H =>
  p.store 3 t3 (.agg ct11) H fun H =>
  p.fadr 1 t1 fun t12 =>
  p.load false 1 t12 H fun t13 =>
  p.len t13 fun t14 =>
  f89_l0 p n  k n t2 t3 t13 t14 (.sc (.int .i64 0)) H)
  (p.new [(.sc (.int .i64 0)), .nl, .nl] H fun t3 H =>
  p.call 34 (.fn 83 [] []) [t9] H fun t10 H =>
  p.fill [(.sc (.int .i64 0)), .nl, .nl] [(0, 1, t7), (2, 1, t10)] fun ct11 =>
  p.store 3 t3 (.agg ct11) H fun H =>
  p.fadr 1 t1 fun t12 =>
  p.load false 1 t12 H fun t13 =>
  p.len t13 fun t14 =>
  f89_l0 p n  k n t2 t3 t13 t14 (.sc (.int .i64 0)) H)
noncomputable def f89_L0 (p : Pr β) (n : Nat)  (k : AV → Heap → Option β) (m : Nat) (tm : Tm) (H : Heap) : Option β :=
  iterC 34 (fun tm H k => evalCode ti0 p o89 34 n (cd c89 [1, 1, 0, 1, 0, 0]) tm H k) (blkK 0 (seqK (fun tm H => evalCode ti0 p o89 34 n (cd c89 [1, 1, 1]) tm H (endK ti0 p Go.Proofs.Tryd.f89.results.toList k)) (endK ti0 p Go.Proofs.Tryd.f89.results.toList k))) m tm H
theorem f89_L0_step (p : Pr β) (n : Nat)  (k : AV → Heap → Option β) (m0 : Nat) (t0 t1 t2 t3 t4 t5 t6 t7 t8 t9 t10 t11 t12 t13 t14 t15 t16 t17 t18 t19 t20 t21 t22 t23 t24 t25 t26 t27 t28 t29 t30 t31 t32 t33 : AV) (H : Heap) : f89_L0 p n  k (m0 + 1) [(0, t0), (1, t1), (2, t2), (3, t3), (4, t4), (5, t5), (6, t6), (7, t7), (8, t8), (9, t9), (10, t10), (11, t11), (12, t12), (13, t13), (14, t14), (15, t15), (16, t16), (17, t17), (18, t18), (19, t19), (20, t20), (21, t21), (22, t22), (23, t23), (24, t24), (25, t25), (26, t26), (27, t27), (28, t28), (29, t29), (30, t30), (31, t31), (32, t32), (33, t33)] H =
  p.bin .lss t15 t14 fun t16 =>
  p.cond t16
  (p.iadr 6 t13 t15 fun t17 =>
  p.load true 6 t17 H fun t18 =>
  p.new [(.sc (.int .i64 0)), (.sc (.string ⟨#[]⟩)), .nl, (.sc (.int .i64 0)), (.sc (.bool false)), (.sc (.int .i64 0))] H fun t5 H =>
  p.store 6 t5 t18 H fun H =>
  p.fadr 1 t3 fun t19 =>
  p.load false 1 t19 H fun t20 =>
  p.fadr 0 t5 fun t21 =>
  p.load false 1 t21 H fun t22 =>
  p.fadr 1 t5 fun t23 =>
  p.load true 4 t23 H fun t24 =>
  p.fadr 5 t5 fun t26 =>
  p.load false 1 t26 H fun t27 =>
  p.call 27 (.fn 84 [] []) [t24] H fun t25 H =>
  p.fill [(.sc (.int .i64 0)), (.sc (.string ⟨#[]⟩)), .nl, (.sc (.int .i64 0)), (.sc (.bool false)), (.sc (.int .i64 0))] [(0, 1, t22), (1, 4, t25), (5, 1, t27)] fun ct28 =>
  p.fill [(.sc (.int .i64 0)), (.sc (.string ⟨#[]⟩)), .nl, (.sc (.int .i64 0)), (.sc (.bool false)), (.sc (.int .i64 0))] [(0, 6, (.agg ct28))] fun ct29 => p.newSl 1 6 ct29 true H fun t29 H =>
  p.app 6 72 t20 t29 H fun t30 H =>
  p.fadr 1 t3 fun t31 =>
  p.store 1 t31 t30 H fun H =>
  p.bin .add t15 (.sc (.int .i64 1)) fun t32 =>
  f89_L0 p n  k m0 [(0, t0), (1, t1), (2, t2), (3, t3), (4, t4), (5, t5), (6, t6), (7, t7), (8, t8), (9, t9), (10, t10), (11, t11), (12, t12), (13, t13), (14, t14), (15, t32), (16, t16), (17, t17), (18, t18), (19, t19), (20, t20), (21, t21), (22, t22), (23, t23), (24, t24), (25, t25), (26, t26), (27, t27), (28, (.agg ct28)), (29, t29), (30, t30), (31, t31), (32, t32), (33, t33)] H)
  (p.load true 3 t3 H fun t33 =>
  p.store 3 t2 t33 H fun H =>
  p.load true 3 t2 H fun r0 =>
  k r0 H) := by kernel_rfl
theorem f89_l0_eq (p : Pr β) (n : Nat)  (k : AV → Heap → Option β)   (m0 : Nat) : ∀ (t0 t1 t2 t3 t4 t5 t6 t7 t8 t9 t10 t11 t12 t13 t14 t15 t16 t17 t18 t19 t20 t21 t22 t23 t24 t25 t26 t27 t28 t29 t30 t31 t32 t33 : AV) (H : Heap), f89_L0 p n  k m0 [(0, t0), (1, t1), (2, t2), (3, t3), (4, t4), (5, t5), (6, t6), (7, t7), (8, t8), (9, t9), (10, t10), (11, t11), (12, t12), (13, t13), (14, t14), (15, t15), (16, t16), (17, t17), (18, t18), (19, t19), (20, t20), (21, t21), (22, t22), (23, t23), (24, t24), (25, t25), (26, t26), (27, t27), (28, t28), (29, t29), (30, t30), (31, t31), (32, t32), (33, t33)] H = f89_l0 p n  k m0 t2 t3 t13 t14 t15 H := by
  induction m0 with
  | zero => intros; rfl
  | succ m0 ih =>
    intro t0 t1 t2 t3 t4 t5 t6 t7 t8 t9 t10 t11 t12 t13 t14 t15 t16 t17 t18 t19 t20 t21 t22 t23 t24 t25 t26 t27 t28 t29 t30 t31 t32 t33 H
    rw [f89_L0_step]
    simp only [ih]
    rfl
theorem f89_raw (p : Pr β) (n : Nat) (a0 : AV) (H : Heap) (k : AV → Heap → Option β) : evalBody ti0 p n ⟨c89, 34, Go.Proofs.Tryd.f89.results.toList, o89⟩ [a0] H k =
  p.box a0 H fun t1 H =>
  p.new [(.sc (.int .i64 0)), .nl, .nl] H fun t2 H =>
  p.fadr 0 t1 fun t6 =>
  p.load false 1 t6 H fun t7 =>
  p.fadr 2 t1 fun t8 =>
  p.load false 1 t8 H fun t9 =>
  p.both
  (p.call 34 (.fn 83 [] []) [t9] H fun t10 H =>
  p.fill [(.sc (.int .i64 0)), .nl, .nl] [(0, 1, t7), (2, 1, t10)] fun ct11 =>
  p.new [(.sc (.int .i64 0)), .nl, .nl] H fun t3 H =>
  p.store 3 t3 (.agg ct11) H fun H =>
  p.fadr 1 t1 fun t12 =>
  p.load false 1 t12 H fun t13 =>
  p.len t13 fun t14 =>
  f89_L0 p n  k n [(0, a0), (1, t1), (2, t2), (3, t3), (4, (.sc undef)), (5, (.sc undef)), (6, t6), (7, t7), (8, t8), (9, t9), (10, t10), (11, (.agg ct11)), (12, t12), (13, t13), (14, t14), (15, (.sc (.int .i64 0))), (16, (.sc undef)), (17, (.sc undef)), (18, (.sc undef)), (19, (.sc undef)), (20, (.sc undef)), (21, (.sc undef)), (22, (.sc undef)), (23, (.sc undef)), (24, (.sc undef)), (25, (.sc undef)), (26, (.sc undef)), (27, (.sc undef)), (28, (.sc undef)), (29, (.sc undef)), (30, (.sc undef)), (31, (.sc undef)), (32, (.sc undef)), (33, (.sc undef))] H)
  (p.new [(.sc (.int .i64 0)), .nl, .nl] H fun t3 H =>
  p.call 34 (.fn 83 [] []) [t9] H fun t10 H =>
  p.fill [(.sc (.int .i64 0)), .nl, .nl] [(0, 1, t7), (2, 1, t10)] fun ct11 =>
  p.store 3 t3 (.agg ct11) H fun H =>
  p.fadr 1 t1 fun t12 =>
  p.load false 1 t12 H fun t13 =>
  p.len t13 fun t14 =>
  f89_L0 p n  k n [(0, a0), (1, t1), (2, t2), (3, t3), (4, (.sc undef)), (5, (.sc undef)), (6, t6), (7, t7), (8, t8), (9, t9), (10, t10), (11, (.agg ct11)), (12, t12), (13, t13), (14, t14), (15, (.sc (.int .i64 0))), (16, (.sc undef)), (17, (.sc undef)), (18, (.sc undef)), (19, (.sc undef)), (20, (.sc undef)), (21, (.sc undef)), (22, (.sc undef)), (23, (.sc undef)), (24, (.sc undef)), (25, (.sc undef)), (26, (.sc undef)), (27, (.sc undef)), (28, (.sc undef)), (29, (.sc undef)), (30, (.sc undef)), (31, (.sc undef)), (32, (.sc undef)), (33, (.sc undef))] H) := by kernel_rfl
theorem f89_body (p : Pr β) (n : Nat) (a0 : AV) (H : Heap) (k : AV → Heap → Option β) : evalBody ti0 p n ⟨c89, 34, Go.Proofs.Tryd.f89.results.toList, o89⟩ [a0] H k = f89 p n a0 H k := by
  rw [f89_raw]
  simp only [f89_l0_eq]
  rfl

/-! 63 loop.example/g00480/impl.isId -/
noncomputable def f63 (p : Pr β) (n : Nat) (a0 : AV) (H : Heap) (k : AV → Heap → Option β) : Option β :=
  p.call 4 (.fn 65 [] []) [a0, (.sc (.int .i64 1)), (.sc (.int .i64 65535))] H fun t4 H =>
  k t4 H
theorem f63_body (p : Pr β) (n : Nat) (a0 : AV) (H : Heap) (k : AV → Heap → Option β) : evalBody ti0 p n ⟨c63, 5, Go.Proofs.Tryd.f63.results.toList, o63⟩ [a0] H k = f63 p n a0 H k := by kernel_rfl

/-! 102 loop.example/g00480/impl.flightAt$1 -/
noncomputable def f102 (p : Pr β) (n : Nat) (a0 a1 : AV) (H : Heap) (k : AV → Heap → Option β) : Option β :=
  p.box a0 H fun t2 H =>
  p.fadr 0 t2 fun t4 =>
  p.load false 1 t4 H fun t5 =>
  p.load false 1 a1 H fun t6 =>
  p.bin .eql t5 t6 fun t7 =>
  k t7 H
theorem f102_body (p : Pr β) (n : Nat) (a0 a1 : AV) (H : Heap) (k : AV → Heap → Option β) : evalBody ti0 p n ⟨c102, 8, Go.Proofs.Tryd.f102.results.toList, o102⟩ [a0, a1] H k = f102 p n a0 a1 H k := by kernel_rfl

/-! 101 slices.IndexFunc[[]loop.example/g00480/impl.Flight,loop.example/g00480/impl.Flight] -/
noncomputable def f101_l0 (p : Pr β) (n : Nat)  (k : AV → Heap → Option β) : Nat → AV → AV → AV → AV → Heap → Option β
  | 0, _, _, _, _, _ => none
  | m + 1, t0, t1, t7, t8, H => p.bin .lss t8 t7 fun t9 =>
      p.cond t9
      (p.iadr 6 t0 t8 fun t14 =>
      p.load true 6 t14 H fun t15 =>
      p.call 4 t1 [t15] H fun t16 H =>
      p.cond t16
      (k t8 H)
      (p.bin .add t8 (.sc (.int .i64 1)) fun t18 =>
      f101_l0 p n  k m t0 t1 t7 t18 H))
      (k (.sc (.int .i64 (-1))) H)
noncomputable def f101 (p : Pr β) (n : Nat) (a0 a1 : AV) (H : Heap) (k : AV → Heap → Option β) : Option β :=
  p.len a0 fun t7 =>
  f101_l0 p n  k n a0 a1 t7 (.sc (.int .i64 0)) H
noncomputable def f101_L0 (p : Pr β) (n : Nat)  (k : AV → Heap → Option β) (m : Nat) (tm : Tm) (H : Heap) : Option β :=
  iterC 19 (fun tm H k => evalCode ti0 p o101 19 n (cd c101 [1, 0, 1, 0, 0]) tm H k) (blkK 0 (seqK (fun tm H => evalCode ti0 p o101 19 n (cd c101 [1, 1]) tm H (endK ti0 p Go.Proofs.Tryd.f101.results.toList k)) (endK ti0 p Go.Proofs.Tryd.f101.results.toList k))) m tm H
theorem f101_L0_step (p : Pr β) (n : Nat)  (k : AV → Heap → Option β) (m0 : Nat) (t0 t1 t2 t3 t4 t5 t6 t7 t8 t9 t10 t11 t12 t13 t14 t15 t16 t17 t18 : AV) (H : Heap) : f101_L0 p n  k (m0 + 1) [(0, t0), (1, t1), (2, t2), (3, t3), (4, t4), (5, t5), (6, t6), (7, t7), (8, t8), (9, t9), (10, t10), (11, t11), (12, t12), (13, t13), (14, t14), (15, t15), (16, t16), (17, t17), (18, t18)] H =
  p.bin .lss t8 t7 fun t9 =>
  p.cond t9
  (p.iadr 6 t0 t8 fun t14 =>
  p.load true 6 t14 H fun t15 =>
  p.call 4 t1 [t15] H fun t16 H =>
  p.cond t16
  (k t8 H)
  (p.bin .add t8 (.sc (.int .i64 1)) fun t18 =>
  f101_L0 p n  k m0 [(0, t0), (1, t1), (2, t2), (3, t3), (4, t4), (5, t8), (6, t6), (7, t7), (8, t18), (9, t9), (10, t8), (11, t1), (12, t0), (13, t8), (14, t14), (15, t15), (16, t16), (17, t17), (18, t18)] H))
  (k (.sc (.int .i64 (-1))) H) := by kernel_rfl
theorem f101_l0_eq (p : Pr β) (n : Nat)  (k : AV → Heap → Option β)   (m0 : Nat) : ∀ (t0 t1 t2 t3 t4 t5 t6 t7 t8 t9 t10 t11 t12 t13 t14 t15 t16 t17 t18 : AV) (H : Heap), f101_L0 p n  k m0 [(0, t0), (1, t1), (2, t2), (3, t3), (4, t4), (5, t5), (6, t6), (7, t7), (8, t8), (9, t9), (10, t10), (11, t11), (12, t12), (13, t13), (14, t14), (15, t15), (16, t16), (17, t17), (18, t18)] H = f101_l0 p n  k m0 t0 t1 t7 t8 H := by
  induction m0 with
  | zero => intros; rfl
  | succ m0 ih =>
    intro t0 t1 t2 t3 t4 t5 t6 t7 t8 t9 t10 t11 t12 t13 t14 t15 t16 t17 t18 H
    rw [f101_L0_step]
    simp only [ih]
    rfl
theorem f101_raw (p : Pr β) (n : Nat) (a0 a1 : AV) (H : Heap) (k : AV → Heap → Option β) : evalBody ti0 p n ⟨c101, 19, Go.Proofs.Tryd.f101.results.toList, o101⟩ [a0, a1] H k =
  p.len a0 fun t7 =>
  f101_L0 p n  k n [(0, a0), (1, a1), (2, (.sc undef)), (3, (.sc undef)), (4, (.sc (.int .i64 0))), (5, (.sc undef)), (6, a0), (7, t7), (8, (.sc (.int .i64 0))), (9, (.sc undef)), (10, (.sc undef)), (11, (.sc undef)), (12, (.sc undef)), (13, (.sc undef)), (14, (.sc undef)), (15, (.sc undef)), (16, (.sc undef)), (17, (.sc undef)), (18, (.sc undef))] H := by kernel_rfl
theorem f101_body (p : Pr β) (n : Nat) (a0 a1 : AV) (H : Heap) (k : AV → Heap → Option β) : evalBody ti0 p n ⟨c101, 19, Go.Proofs.Tryd.f101.results.toList, o101⟩ [a0, a1] H k = f101 p n a0 a1 H k := by
  rw [f101_raw]
  simp only [f101_l0_eq]
  rfl

/-! 64 loop.example/g00480/impl.flightAt -/
noncomputable def f64 (p : Pr β) (n : Nat) (a0 a1 : AV) (H : Heap) (k : AV → Heap → Option β) : Option β :=
  p.box a1 H fun t3 H =>
  p.call 3 (.fn 101 [] []) [a0, (.fn 102 [] [t3])] H fun t7 H =>
  k t7 H
theorem f64_body (p : Pr β) (n : Nat) (a0 a1 : AV) (H : Heap) (k : AV → Heap → Option β) : evalBody ti0 p n ⟨c64, 8, Go.Proofs.Tryd.f64.results.toList, o64⟩ [a0, a1] H k = f64 p n a0 a1 H k := by kernel_rfl

/-! 66 loop.example/g00480/impl.isWord -/
noncomputable def f66 (p : Pr β) (n : Nat) (a0 : AV) (H : Heap) (k : AV → Heap → Option β) : Option β :=
  p.call 4 (.fn 65 [] []) [a0, (.sc (.int .i64 0)), (.sc (.int .i64 65535))] H fun t4 H =>
  k t4 H
theorem f66_body (p : Pr β) (n : Nat) (a0 : AV) (H : Heap) (k : AV → Heap → Option β) : evalBody ti0 p n ⟨c66, 5, Go.Proofs.Tryd.f66.results.toList, o66⟩ [a0] H k = f66 p n a0 H k := by kernel_rfl

/-! 25 loop.example/g00480/impl.OutOk -/
noncomputable def f25_l0 (p : Pr β) (n : Nat)  (k : AV → Heap → Option β) : Nat → AV → AV → AV → AV → Heap → Option β
  | 0, _, _, _, _, _ => none
  | m + 1, t1, t6, t7, t8, H => p.bin .lss t8 t7 fun t9 =>
      p.cond t9
      (p.iadr 6 t6 t8 fun t11 =>
      p.load true 6 t11 H fun t12 =>
      p.new [(.sc (.int .i64 0)), (.sc (.string ⟨#[]⟩)), .nl, (.sc (.int .i64 0)), (.sc (.bool false)), (.sc (.int .i64 0))] H fun t4 H =>
      p.store 6 t4 t12 H fun H =>
      p.fadr 0 t4 fun t13 =>
      p.load false 1 t13 H fun t14 =>
      p.call 4 (.fn 63 [] []) [t14] H fun t15 H =>
      p.un .not t15 fun t16 =>
      p.guard t16 false H (fun k' => p.fadr 1 t1 fun t' => k' t' H) fun t18 H =>
      p.guard t16 false H (fun k' => p.load false 1 t18 H fun t' => k' t' H) fun t19 H =>
      p.guard t16 false H (fun k' => p.fadr 0 t4 fun t' => k' t' H) fun t20 H =>
      p.guard t16 false H (fun k' => p.load false 1 t20 H fun t' => k' t' H) fun t21 H =>
      p.guard t16 false H (fun k' => p.call 3 (.fn 64 [] []) [t19, t21] H fun t' H => k' t' H) fun t22 H =>
      p.guard t16 false H (fun k' => k' t8 H) fun t23 H =>
      p.guard t16 false H (fun k' => p.bin .neq t22 t23 fun t' => k' t' H) fun t24 H =>
      p.pick t16 (.sc (.bool true)) t24 fun t25 =>
      p.guard t25 false H (fun k' => p.fadr 1 t4 fun t' => k' t' H) fun t27 H =>
      p.guard t25 false H (fun k' => p.load true 4 t27 H fun t' => k' t' H) fun t28 H =>
      p.guard t25 false H (fun k' => p.call 4 (.fn 15 [] []) [t28] H fun t' H => k' t' H) fun t29 H =>
      p.guard t25 false H (fun k' => p.un .not t29 fun t' => k' t' H) fun t30 H =>
      p.pick t25 (.sc (.bool true)) t30 fun t31 =>
      p.cond t31
      (k (.sc (.bool false)) H)
      (p.fadr 1 t4 fun t32 =>
      p.fadr 2 t32 fun t33 =>
      p.load false 1 t33 H fun t34 =>
      p.bin .eql t34 (.sc (.int .i64 0)) fun t35 =>
      p.guard t35 false H (fun k' => p.fadr 1 t4 fun t' => k' t' H) fun t37 H =>
      p.guard t35 false H (fun k' => p.fadr 2 t37 fun t' => k' t' H) fun t38 H =>
      p.guard t35 false H (fun k' => p.load false 1 t38 H fun t' => k' t' H) fun t39 H =>
      p.guard t35 false H (fun k' => p.bin .eql t39 (.sc (.int .i64 1)) fun t' => k' t' H) fun t40 H =>
      p.guard t35 false H (fun k' => p.fadr 5 t4 fun t' => k' t' H) fun t41 H =>
      p.guard t35 false H (fun k' => p.load false 1 t41 H fun t' => k' t' H) fun t42 H =>
      p.guard t35 false H (fun k' => p.bin .eql t42 (.sc (.int .i64 1)) fun t' => k' t' H) fun t43 H =>
      p.guard t35 false H (fun k' => p.binB .neq t40 t43 fun t' => k' t' H) fun t44 H =>
      p.pick t35 (.sc (.bool true)) t44 fun t45 =>
      p.guard t45 false H (fun k' => p.fadr 5 t4 fun t' => k' t' H) fun t47 H =>
      p.guard t45 false H (fun k' => p.load false 1 t47 H fun t' => k' t' H) fun t48 H =>
      p.guard t45 false H (fun k' => p.call 4 (.fn 65 [] []) [t48, (.sc (.int .i64 1)), (.sc (.int .i64 3))] H fun t' H => k' t' H) fun t49 H =>
      p.guard t45 false H (fun k' => p.un .not t49 fun t' => k' t' H) fun t50 H =>
      p.pick t45 (.sc (.bool true)) t50 fun t51 =>
      p.cond t51
      (k (.sc (.bool false)) H)
      (p.bin .add t8 (.sc (.int .i64 1)) fun t52 =>
      f25_l0 p n  k m t1 t6 t7 t52 H)))
      (p.fadr 0 t1 fun t53 =>
      p.load false 1 t53 H fun t54 =>
      p.call 4 (.fn 66 [] []) [t54] H fun t55 H =>
      p.guard t55 true H (fun k' => p.fadr 1 t1 fun t' => k' t' H) fun t57 H =>
      p.guard t55 true H (fun k' => p.load false 1 t57 H fun t' => k' t' H) fun t58 H =>
      p.guard t55 true H (fun k' => p.len t58 fun t' => k' t' H) fun t59 H =>
      p.guard t55 true H (fun k' => p.bin .leq t59 (.sc (.int .i64 3)) fun t' => k' t' H) fun t60 H =>
      p.pick t55 t60 (.sc (.bool false)) fun t61 =>
      p.guard t61 true H (fun k' => p.fadr 2 t1 fun t' => k' t' H) fun t63 H =>
      p.guard t61 true H (fun k' => p.load false 1 t63 H fun t' => k' t' H) fun t64 H =>
      p.guard t61 true H (fun k' => p.call 4 (.fn 20 [] []) [t64] H fun t' H => k' t' H) fun t65 H =>
      p.pick t61 t65 (.sc (.bool false)) fun t66 =>
      k t66 H)
noncomputable def f25 (p : Pr β) (n : Nat) (a0 : AV) (H : Heap) (k : AV → Heap → Option β) : Option β :=
  p.box a0 H fun t1 H =>
  p.fadr 1 t1 fun t5 =>
  p.load false 1 t5 H fun t6 =>
  p.len t6 fun t7 =>
  f25_l0 p n  k n t1 t6 t7 (.sc (.int .i64 0)) H
noncomputable def f25_L0 (p : Pr β) (n : Nat)  (k : AV → Heap → Option β) (m : Nat) (tm : Tm) (H : Heap) : Option β :=
  iterC 67 (fun tm H k => evalCode ti0 p o25 67 n (cd c25 [1, 0, 1, 0, 0]) tm H k) (blkK 0 (seqK (fun tm H => evalCode ti0 p o25 67 n (cd c25 [1, 1]) tm H (endK ti0 p Go.Proofs.Tryd.f25.results.toList k)) (endK ti0 p Go.Proofs.Tryd.f25.results.toList k))) m tm H
theorem f25_L0_step (p : Pr β) (n : Nat)  (k : AV → Heap → Option β) (m0 : Nat) (t0 t1 t2 t3 t4 t5 t6 t7 t8 t9 t10 t11 t12 t13 t14 t15 t16 t17 t18 t19 t20 t21 t22 t23 t24 t25 t26 t27 t28 t29 t30 t31 t32 t33 t34 t35 t36 t37 t38 t39 t40 t41 t42 t43 t44 t45 t46 t47 t48 t49 t50 t51 t52 t53 t54 t55 t56 t57 t58 t59 t60 t61 t62 t63 t64 t65 t66 : AV) (H : Heap) : f25_L0 p n  k (m0 + 1) [(0, t0), (1, t1), (2, t2), (3, t3), (4, t4), (5, t5), (6, t6), (7, t7), (8, t8), (9, t9), (10, t10), (11, t11), (12, t12), (13, t13), (14, t14), (15, t15), (16, t16), (17, t17), (18, t18), (19, t19), (20, t20), (21, t21), (22, t22), (23, t23), (24, t24), (25, t25), (26, t26), (27, t27), (28, t28), (29, t29), (30, t30), (31, t31), (32, t32), (33, t33), (34, t34), (35, t35), (36, t36), (37, t37), (38, t38), (39, t39), (40, t40), (41, t41), (42, t42), (43, t43), (44, t44), (45, t45), (46, t46), (47, t47), (48, t48), (49, t49), (50, t50), (51, t51), (52, t52), (53, t53), (54, t54), (55, t55), (56, t56), (57, t57), (58, t58), (59, t59), (60, t60), (61, t61), (62, t62), (63, t63), (64, t64), (65, t65), (66, t66)] H =
  p.bin .lss t8 t7 fun t9 =>
  p.cond t9
  (p.iadr 6 t6 t8 fun t11 =>
  p.load true 6 t11 H fun t12 =>
  p.new [(.sc (.int .i64 0)), (.sc (.string ⟨#[]⟩)), .nl, (.sc (.int .i64 0)), (.sc (.bool false)), (.sc (.int .i64 0))] H fun t4 H =>
  p.store 6 t4 t12 H fun H =>
  p.fadr 0 t4 fun t13 =>
  p.load false 1 t13 H fun t14 =>
  p.call 4 (.fn 63 [] []) [t14] H fun t15 H =>
  p.un .not t15 fun t16 =>
  p.guard t16 false H (fun k' => p.fadr 1 t1 fun t' => k' t' H) fun t18 H =>
  p.guard t16 false H (fun k' => p.load false 1 t18 H fun t' => k' t' H) fun t19 H =>
  p.guard t16 false H (fun k' => p.fadr 0 t4 fun t' => k' t' H) fun t20 H =>
  p.guard t16 false H (fun k' => p.load false 1 t20 H fun t' => k' t' H) fun t21 H =>
  p.guard t16 false H (fun k' => p.call 3 (.fn 64 [] []) [t19, t21] H fun t' H => k' t' H) fun t22 H =>
  p.guard t16 false H (fun k' => k' t8 H) fun t23 H =>
  p.guard t16 false H (fun k' => p.bin .neq t22 t23 fun t' => k' t' H) fun t24 H =>
  p.pick t16 (.sc (.bool true)) t24 fun t25 =>
  p.guard t25 false H (fun k' => p.fadr 1 t4 fun t' => k' t' H) fun t27 H =>
  p.guard t25 false H (fun k' => p.load true 4 t27 H fun t' => k' t' H) fun t28 H =>
  p.guard t25 false H (fun k' => p.call 4 (.fn 15 [] []) [t28] H fun t' H => k' t' H) fun t29 H =>
  p.guard t25 false H (fun k' => p.un .not t29 fun t' => k' t' H) fun t30 H =>
  p.pick t25 (.sc (.bool true)) t30 fun t31 =>
  p.cond t31
  (k (.sc (.bool false)) H)
  (p.fadr 1 t4 fun t32 =>
  p.fadr 2 t32 fun t33 =>
  p.load false 1 t33 H fun t34 =>
  p.bin .eql t34 (.sc (.int .i64 0)) fun t35 =>
  p.guard t35 false H (fun k' => p.fadr 1 t4 fun t' => k' t' H) fun t37 H =>
  p.guard t35 false H (fun k' => p.fadr 2 t37 fun t' => k' t' H) fun t38 H =>
  p.guard t35 false H (fun k' => p.load false 1 t38 H fun t' => k' t' H) fun t39 H =>
  p.guard t35 false H (fun k' => p.bin .eql t39 (.sc (.int .i64 1)) fun t' => k' t' H) fun t40 H =>
  p.guard t35 false H (fun k' => p.fadr 5 t4 fun t' => k' t' H) fun t41 H =>
  p.guard t35 false H (fun k' => p.load false 1 t41 H fun t' => k' t' H) fun t42 H =>
  p.guard t35 false H (fun k' => p.bin .eql t42 (.sc (.int .i64 1)) fun t' => k' t' H) fun t43 H =>
  p.guard t35 false H (fun k' => p.binB .neq t40 t43 fun t' => k' t' H) fun t44 H =>
  p.pick t35 (.sc (.bool true)) t44 fun t45 =>
  p.guard t45 false H (fun k' => p.fadr 5 t4 fun t' => k' t' H) fun t47 H =>
  p.guard t45 false H (fun k' => p.load false 1 t47 H fun t' => k' t' H) fun t48 H =>
  p.guard t45 false H (fun k' => p.call 4 (.fn 65 [] []) [t48, (.sc (.int .i64 1)), (.sc (.int .i64 3))] H fun t' H => k' t' H) fun t49 H =>
  p.guard t45 false H (fun k' => p.un .not t49 fun t' => k' t' H) fun t50 H =>
  p.pick t45 (.sc (.bool true)) t50 fun t51 =>
  p.cond t51
  (k (.sc (.bool false)) H)
  (p.bin .add t8 (.sc (.int .i64 1)) fun t52 =>
  f25_L0 p n  k m0 [(0, t0), (1, t1), (2, t2), (3, t8), (4, t4), (5, t5), (6, t6), (7, t7), (8, t52), (9, t9), (10, t8), (11, t11), (12, t12), (13, t13), (14, t14), (15, t15), (16, t16), (17, t16), (18, t18), (19, t19), (20, t20), (21, t21), (22, t22), (23, t23), (24, t24), (25, t25), (26, t25), (27, t27), (28, t28), (29, t29), (30, t30), (31, t31), (32, t32), (33, t33), (34, t34), (35, t35), (36, t35), (37, t37), (38, t38), (39, t39), (40, t40), (41, t41), (42, t42), (43, t43), (44, t44), (45, t45), (46, t45), (47, t47), (48, t48), (49, t49), (50, t50), (51, t51), (52, t52), (53, t53), (54, t54), (55, t55), (56, t56), (57, t57), (58, t58), (59, t59), (60, t60), (61, t61), (62, t62), (63, t63), (64, t64), (65, t65), (66, t66)] H)))
  (p.fadr 0 t1 fun t53 =>
  p.load false 1 t53 H fun t54 =>
  p.call 4 (.fn 66 [] []) [t54] H fun t55 H =>
  p.guard t55 true H (fun k' => p.fadr 1 t1 fun t' => k' t' H) fun t57 H =>
  p.guard t55 true H (fun k' => p.load false 1 t57 H fun t' => k' t' H) fun t58 H =>
  p.guard t55 true H (fun k' => p.len t58 fun t' => k' t' H) fun t59 H =>
  p.guard t55 true H (fun k' => p.bin .leq t59 (.sc (.int .i64 3)) fun t' => k' t' H) fun t60 H =>
  p.pick t55 t60 (.sc (.bool false)) fun t61 =>
  p.guard t61 true H (fun k' => p.fadr 2 t1 fun t' => k' t' H) fun t63 H =>
  p.guard t61 true H (fun k' => p.load false 1 t63 H fun t' => k' t' H) fun t64 H =>
  p.guard t61 true H (fun k' => p.call 4 (.fn 20 [] []) [t64] H fun t' H => k' t' H) fun t65 H =>
  p.pick t61 t65 (.sc (.bool false)) fun t66 =>
  k t66 H) := by kernel_rfl
theorem f25_l0_eq (p : Pr β) (n : Nat)  (k : AV → Heap → Option β)   (m0 : Nat) : ∀ (t0 t1 t2 t3 t4 t5 t6 t7 t8 t9 t10 t11 t12 t13 t14 t15 t16 t17 t18 t19 t20 t21 t22 t23 t24 t25 t26 t27 t28 t29 t30 t31 t32 t33 t34 t35 t36 t37 t38 t39 t40 t41 t42 t43 t44 t45 t46 t47 t48 t49 t50 t51 t52 t53 t54 t55 t56 t57 t58 t59 t60 t61 t62 t63 t64 t65 t66 : AV) (H : Heap), f25_L0 p n  k m0 [(0, t0), (1, t1), (2, t2), (3, t3), (4, t4), (5, t5), (6, t6), (7, t7), (8, t8), (9, t9), (10, t10), (11, t11), (12, t12), (13, t13), (14, t14), (15, t15), (16, t16), (17, t17), (18, t18), (19, t19), (20, t20), (21, t21), (22, t22), (23, t23), (24, t24), (25, t25), (26, t26), (27, t27), (28, t28), (29, t29), (30, t30), (31, t31), (32, t32), (33, t33), (34, t34), (35, t35), (36, t36), (37, t37), (38, t38), (39, t39), (40, t40), (41, t41), (42, t42), (43, t43), (44, t44), (45, t45), (46, t46), (47, t47), (48, t48), (49, t49), (50, t50), (51, t51), (52, t52), (53, t53), (54, t54), (55, t55), (56, t56), (57, t57), (58, t58), (59, t59), (60, t60), (61, t61), (62, t62), (63, t63), (64, t64), (65, t65), (66, t66)] H = f25_l0 p n  k m0 t1 t6 t7 t8 H := by
  induction m0 with
  | zero => intros; rfl
  | succ m0 ih =>
    intro t0 t1 t2 t3 t4 t5 t6 t7 t8 t9 t10 t11 t12 t13 t14 t15 t16 t17 t18 t19 t20 t21 t22 t23 t24 t25 t26 t27 t28 t29 t30 t31 t32 t33 t34 t35 t36 t37 t38 t39 t40 t41 t42 t43 t44 t45 t46 t47 t48 t49 t50 t51 t52 t53 t54 t55 t56 t57 t58 t59 t60 t61 t62 t63 t64 t65 t66 H
    rw [f25_L0_step]
    simp only [ih]
    rfl
theorem f25_raw (p : Pr β) (n : Nat) (a0 : AV) (H : Heap) (k : AV → Heap → Option β) : evalBody ti0 p n ⟨c25, 67, Go.Proofs.Tryd.f25.results.toList, o25⟩ [a0] H k =
  p.box a0 H fun t1 H =>
  p.fadr 1 t1 fun t5 =>
  p.load false 1 t5 H fun t6 =>
  p.len t6 fun t7 =>
  f25_L0 p n  k n [(0, a0), (1, t1), (2, (.sc (.bool false))), (3, (.sc undef)), (4, (.sc undef)), (5, t5), (6, t6), (7, t7), (8, (.sc (.int .i64 0))), (9, (.sc undef)), (10, (.sc undef)), (11, (.sc undef)), (12, (.sc undef)), (13, (.sc undef)), (14, (.sc undef)), (15, (.sc undef)), (16, (.sc undef)), (17, (.sc undef)), (18, (.sc undef)), (19, (.sc undef)), (20, (.sc undef)), (21, (.sc undef)), (22, (.sc undef)), (23, (.sc undef)), (24, (.sc undef)), (25, (.sc undef)), (26, (.sc undef)), (27, (.sc undef)), (28, (.sc undef)), (29, (.sc undef)), (30, (.sc undef)), (31, (.sc undef)), (32, (.sc undef)), (33, (.sc undef)), (34, (.sc undef)), (35, (.sc undef)), (36, (.sc undef)), (37, (.sc undef)), (38, (.sc undef)), (39, (.sc undef)), (40, (.sc undef)), (41, (.sc undef)), (42, (.sc undef)), (43, (.sc undef)), (44, (.sc undef)), (45, (.sc undef)), (46, (.sc undef)), (47, (.sc undef)), (48, (.sc undef)), (49, (.sc undef)), (50, (.sc undef)), (51, (.sc undef)), (52, (.sc undef)), (53, (.sc undef)), (54, (.sc undef)), (55, (.sc undef)), (56, (.sc undef)), (57, (.sc undef)), (58, (.sc undef)), (59, (.sc undef)), (60, (.sc undef)), (61, (.sc undef)), (62, (.sc undef)), (63, (.sc undef)), (64, (.sc undef)), (65, (.sc undef)), (66, (.sc undef))] H := by kernel_rfl
theorem f25_body (p : Pr β) (n : Nat) (a0 : AV) (H : Heap) (k : AV → Heap → Option β) : evalBody ti0 p n ⟨c25, 67, Go.Proofs.Tryd.f25.results.toList, o25⟩ [a0] H k = f25 p n a0 H k := by
  rw [f25_raw]
  simp only [f25_l0_eq]
  rfl

/-! 45 loop.example/g00480/impl.OutPush -/
noncomputable def f45 (p : Pr β) (n : Nat) (a0 a1 : AV) (H : Heap) (k : AV → Heap → Option β) : Option β :=
  p.box a0 H fun t2 H =>
  p.box a1 H fun t3 H =>
  p.new [(.sc (.int .i64 0)), .nl, .nl] H fun t4 H =>
  p.load true 3 t2 H fun t9 =>
  p.call 45 (.fn 89 [] []) [t9] H fun t10 H =>
  p.new [(.sc (.int .i64 0)), .nl, .nl] H fun t6 H =>
  p.store 3 t6 t10 H fun H =>
  p.load true 3 t2 H fun t11 =>
  p.call 4 (.fn 25 [] []) [t11] H fun t12 H =>
  p.un .not t12 fun t13 =>
  p.cond t13
  (p.load true 3 t6 H fun t14 =>
  p.store 3 t4 t14 H fun H =>
  p.load true 3 t4 H fun r0 =>
  k (packA [r0, (.sc (.int .i64 2))]) H)
  (p.fadr 2 t2 fun t16 =>
  p.load false 1 t16 H fun t17 =>
  p.load true 4 t3 H fun t18 =>
  p.call 70 (.fn 40 [] []) [t17, t18] H fun t19 H =>
  p.extr t19 0 fun t20 =>
  p.extr t19 1 fun t21 =>
  p.fadr 2 t6 fun t23 =>
  p.store 1 t23 t20 H fun H =>
  p.load true 3 t6 H fun t24 =>
  p.store 3 t4 t24 H fun H =>
  p.load true 3 t4 H fun r0 =>
  k (packA [r0, t21]) H)
theorem f45_body (p : Pr β) (n : Nat) (a0 a1 : AV) (H : Heap) (k : AV → Heap → Option β) : evalBody ti0 p n ⟨c45, 26, Go.Proofs.Tryd.f45.results.toList, o45⟩ [a0, a1] H k = f45 p n a0 a1 H k := by kernel_rfl

/-! 103 loop.example/g00480/laws.eqFlight -/
noncomputable def f103 (p : Pr β) (n : Nat) (a0 a1 : AV) (H : Heap) (k : AV → Heap → Option β) : Option β :=
  p.box a0 H fun t2 H =>
  p.box a1 H fun t3 H =>
  p.fadr 0 t2 fun t5 =>
  p.load false 1 t5 H fun t6 =>
  p.fadr 0 t3 fun t7 =>
  p.load false 1 t7 H fun t8 =>
  p.bin .neq t6 t8 fun t9 =>
  p.cond t9
  (k (.sc (.bool false)) H)
  (p.fadr 1 t2 fun t10 =>
  p.load true 4 t10 H fun t11 =>
  p.fadr 1 t3 fun t12 =>
  p.load true 4 t12 H fun t13 =>
  p.call 4 (.fn 16 [] []) [t11, t13] H fun t14 H =>
  p.un .not t14 fun t15 =>
  p.cond t15
  (k (.sc (.bool false)) H)
  (p.fadr 5 t2 fun t16 =>
  p.load false 1 t16 H fun t17 =>
  p.fadr 5 t3 fun t18 =>
  p.load false 1 t18 H fun t19 =>
  p.bin .neq t17 t19 fun t20 =>
  p.cond t20
  (k (.sc (.bool false)) H)
  (k (.sc (.bool true)) H)))
theorem f103_body (p : Pr β) (n : Nat) (a0 a1 : AV) (H : Heap) (k : AV → Heap → Option β) : evalBody ti0 p n ⟨c103, 21, Go.Proofs.Tryd.f103.results.toList, o103⟩ [a0, a1] H k = f103 p n a0 a1 H k := by kernel_rfl

/-! 67 loop.example/g00480/laws.eqFlightS -/
noncomputable def f67_l0 (p : Pr β) (n : Nat)  (k : AV → Heap → Option β) : Nat → AV → AV → AV → Heap → Option β
  | 0, _, _, _, _ => none
  | m + 1, t0, t1, t5, H => p.len t0 fun t13 =>
      p.bin .lss t5 t13 fun t14 =>
      p.cond t14
      (p.iadr 6 t0 t5 fun t19 =>
      p.load true 6 t19 H fun t20 =>
      p.iadr 6 t1 t5 fun t23 =>
      p.load true 6 t23 H fun t24 =>
      p.call 4 (.fn 103 [] []) [t20, t24] H fun t25 H =>
      p.un .not t25 fun t26 =>
      p.cond t26
      (k (.sc (.bool false)) H)
      (p.bin .add t5 (.sc (.int .i64 1)) fun t16 =>
      f67_l0 p n  k m t0 t1 t16 H))
      (k (.sc (.bool true)) H)
noncomputable def f67 (p : Pr β) (n : Nat) (a0 a1 : AV) (H : Heap) (k : AV → Heap → Option β) : Option β :=
  p.len a0 fun t7 =>
  p.len a1 fun t9 =>
  p.bin .neq t7 t9 fun t10 =>
  p.cond t10
  (k (.sc (.bool false)) H)
  (f67_l0 p n  k n a0 a1 (.sc (.int .i64 0)) H)
noncomputable def f67_L0 (p : Pr β) (n : Nat)  (k : AV → Heap → Option β) (m : Nat) (tm : Tm) (H : Heap) : Option β :=
  iterC 27 (fun tm H k => evalCode ti0 p o67 27 n (cd c67 [1, 1, 0, 1, 0, 0]) tm H k) (blkK 0 (seqK (fun tm H => evalCode ti0 p o67 27 n (cd c67 [1, 1, 1]) tm H (endK ti0 p Go.Proofs.Tryd.f67.results.toList k)) (endK ti0 p Go.Proofs.Tryd.f67.results.toList k))) m tm H
theorem f67_L0_step (p : Pr β) (n : Nat)  (k : AV → Heap → Option β) (m0 : Nat) (t0 t1 t2 t3 t4 t5 t6 t7 t8 t9 t10 t11 t12 t13 t14 t15 t16 t17 t18 t19 t20 t21 t22 t23 t24 t25 t26 : AV) (H : Heap) : f67_L0 p n  k (m0 + 1) [(0, t0), (1, t1), (2, t2), (3, t3), (4, t4), (5, t5), (6, t6), (7, t7), (8, t8), (9, t9), (10, t10), (11, t11), (12, t12), (13, t13), (14, t14), (15, t15), (16, t16), (17, t17), (18, t18), (19, t19), (20, t20), (21, t21), (22, t22), (23, t23), (24, t24), (25, t25), (26, t26)] H =
  p.len t0 fun t13 =>
  p.bin .lss t5 t13 fun t14 =>
  p.cond t14
  (p.iadr 6 t0 t5 fun t19 =>
  p.load true 6 t19 H fun t20 =>
  p.iadr 6 t1 t5 fun t23 =>
  p.load true 6 t23 H fun t24 =>
  p.call 4 (.fn 103 [] []) [t20, t24] H fun t25 H =>
  p.un .not t25 fun t26 =>
  p.cond t26
  (k (.sc (.bool false)) H)
  (p.bin .add t5 (.sc (.int .i64 1)) fun t16 =>
  f67_L0 p n  k m0 [(0, t0), (1, t1), (2, t2), (3, t3), (4, t4), (5, t16), (6, t6), (7, t7), (8, t8), (9, t9), (10, t10), (11, t5), (12, t0), (13, t13), (14, t14), (15, t5), (16, t16), (17, t0), (18, t5), (19, t19), (20, t20), (21, t1), (22, t5), (23, t23), (24, t24), (25, t25), (26, t26)] H))
  (k (.sc (.bool true)) H) := by kernel_rfl
theorem f67_l0_eq (p : Pr β) (n : Nat)  (k : AV → Heap → Option β)   (m0 : Nat) : ∀ (t0 t1 t2 t3 t4 t5 t6 t7 t8 t9 t10 t11 t12 t13 t14 t15 t16 t17 t18 t19 t20 t21 t22 t23 t24 t25 t26 : AV) (H : Heap), f67_L0 p n  k m0 [(0, t0), (1, t1), (2, t2), (3, t3), (4, t4), (5, t5), (6, t6), (7, t7), (8, t8), (9, t9), (10, t10), (11, t11), (12, t12), (13, t13), (14, t14), (15, t15), (16, t16), (17, t17), (18, t18), (19, t19), (20, t20), (21, t21), (22, t22), (23, t23), (24, t24), (25, t25), (26, t26)] H = f67_l0 p n  k m0 t0 t1 t5 H := by
  induction m0 with
  | zero => intros; rfl
  | succ m0 ih =>
    intro t0 t1 t2 t3 t4 t5 t6 t7 t8 t9 t10 t11 t12 t13 t14 t15 t16 t17 t18 t19 t20 t21 t22 t23 t24 t25 t26 H
    rw [f67_L0_step]
    simp only [ih]
    rfl
theorem f67_raw (p : Pr β) (n : Nat) (a0 a1 : AV) (H : Heap) (k : AV → Heap → Option β) : evalBody ti0 p n ⟨c67, 27, Go.Proofs.Tryd.f67.results.toList, o67⟩ [a0, a1] H k =
  p.len a0 fun t7 =>
  p.len a1 fun t9 =>
  p.bin .neq t7 t9 fun t10 =>
  p.cond t10
  (k (.sc (.bool false)) H)
  (f67_L0 p n  k n [(0, a0), (1, a1), (2, (.sc undef)), (3, (.sc undef)), (4, (.sc (.bool false))), (5, (.sc (.int .i64 0))), (6, a0), (7, t7), (8, a1), (9, t9), (10, t10), (11, (.sc undef)), (12, (.sc undef)), (13, (.sc undef)), (14, (.sc undef)), (15, (.sc undef)), (16, (.sc undef)), (17, (.sc undef)), (18, (.sc undef)), (19, (.sc undef)), (20, (.sc undef)), (21, (.sc undef)), (22, (.sc undef)), (23, (.sc undef)), (24, (.sc undef)), (25, (.sc undef)), (26, (.sc undef))] H) := by kernel_rfl
theorem f67_body (p : Pr β) (n : Nat) (a0 a1 : AV) (H : Heap) (k : AV → Heap → Option β) : evalBody ti0 p n ⟨c67, 27, Go.Proofs.Tryd.f67.results.toList, o67⟩ [a0, a1] H k = f67 p n a0 a1 H k := by
  rw [f67_raw]
  simp only [f67_l0_eq]
  rfl

/-! 26 loop.example/g00480/laws.eqOut -/
noncomputable def f26 (p : Pr β) (n : Nat) (a0 a1 : AV) (H : Heap) (k : AV → Heap → Option β) : Option β :=
  p.box a0 H fun t2 H =>
  p.box a1 H fun t3 H =>
  p.fadr 0 t2 fun t5 =>
  p.load false 1 t5 H fun t6 =>
  p.fadr 0 t3 fun t7 =>
  p.load false 1 t7 H fun t8 =>
  p.bin .neq t6 t8 fun t9 =>
  p.cond t9
  (k (.sc (.bool false)) H)
  (p.fadr 1 t2 fun t10 =>
  p.load false 1 t10 H fun t11 =>
  p.fadr 1 t3 fun t12 =>
  p.load false 1 t12 H fun t13 =>
  p.call 4 (.fn 67 [] []) [t11, t13] H fun t14 H =>
  p.un .not t14 fun t15 =>
  p.cond t15
  (k (.sc (.bool false)) H)
  (p.fadr 2 t2 fun t16 =>
  p.load false 1 t16 H fun t17 =>
  p.fadr 2 t3 fun t18 =>
  p.load false 1 t18 H fun t19 =>
  p.call 4 (.fn 21 [] []) [t17, t19] H fun t20 H =>
  p.un .not t20 fun t21 =>
  p.cond t21
  (k (.sc (.bool false)) H)
  (k (.sc (.bool true)) H)))
theorem f26_body (p : Pr β) (n : Nat) (a0 a1 : AV) (H : Heap) (k : AV → Heap → Option β) : evalBody ti0 p n ⟨c26, 22, Go.Proofs.Tryd.f26.results.toList, o26⟩ [a0, a1] H k = f26 p n a0 a1 H k := by kernel_rfl
end Go.Proofs.YtpcgppelelfmiaaDoor.Abs
