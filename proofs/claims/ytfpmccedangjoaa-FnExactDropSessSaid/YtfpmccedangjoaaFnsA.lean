/- The program's functions as plain functions over abstract values, and that the evaluator comes to them (written by gen.py). -/
import Derived.Test.YtfpmccedangjoaaProg
import Derived.Test.YtfpmccedangjoaaAbs
import Derived.KernelRfl
set_option linter.unusedVariables false
set_option linter.unusedSimpArgs false
set_option maxRecDepth 100000
namespace Go.Proofs.Ytfpmccedangjoaa.Abs
open Go
variable {β : Type}
noncomputable def tis : List (Option TI) := [none,
  none,
  none,
  some ⟨false, false, 1, 8, [(.int .i64 0)], 0, [], some .i64, false, false, [3], false⟩,
  some ⟨false, false, 1, 1, [(.bool false)], 0, [], none, false, true, [4], false⟩,
  some ⟨false, false, 1, 1, [(.int .u8 0)], 0, [], some .u8, false, false, [5], false⟩,
  none,
  none,
  none,
  some ⟨false, false, 1, 16, [(.string ⟨#[]⟩)], 0, [], none, true, false, [9], false⟩,
  none,
  none,
  none,
  none,
  none,
  none,
  none,
  none,
  none,
  none,
  none,
  none,
  some ⟨false, true, 1, 24, [(.slice none 0 0)], 59, [], none, false, false, [22], false⟩,
  none,
  some ⟨true, false, 2, 32, [(.int .i64 0), (.slice none 0 0)], 0, [(0, 3), (1, 22)], none, false, false, [3, 22], false⟩,
  none,
  some ⟨false, true, 1, 24, [(.slice none 0 0)], 49, [], none, false, false, [26], false⟩,
  none,
  some ⟨true, false, 2, 32, [(.int .i64 0), (.slice none 0 0)], 0, [(0, 3), (1, 26)], none, false, false, [3, 26], false⟩,
  none,
  none,
  none,
  none,
  none,
  none,
  none,
  none,
  none,
  none,
  none,
  none,
  none,
  none,
  some ⟨false, true, 1, 24, [(.slice none 0 0)], 77, [], none, false, false, [43], false⟩,
  some ⟨false, true, 1, 24, [(.slice none 0 0)], 75, [], none, false, false, [44], false⟩,
  none,
  some ⟨true, false, 3, 56, [(.int .i64 0), (.slice none 0 0), (.slice none 0 0)], 0, [(0, 3), (1, 43), (2, 44)], none, false, false, [3, 43, 44], false⟩,
  some ⟨false, true, 1, 24, [(.slice none 0 0)], 3, [], none, false, false, [47], false⟩,
  none,
  some ⟨true, false, 9, 128, [(.string ⟨#[]⟩), (.int .i64 0), (.bool false), (.int .i64 0), (.int .i64 0), (.int .i64 0), (.slice none 0 0), (.slice none 0 0), (.slice none 0 0)], 0, [(0, 9), (1, 3), (2, 4), (3, 3), (4, 3), (5, 46), (8, 47)], none, false, false, [9, 3, 4, 3, 3, 3, 43, 44, 47], false⟩,
  none,
  none,
  none,
  none,
  some ⟨false, true, 1, 24, [(.slice none 0 0)], 90, [], none, false, false, [54], false⟩,
  some ⟨false, true, 1, 24, [(.slice none 0 0)], 88, [], none, false, false, [55], false⟩,
  none,
  some ⟨true, false, 3, 56, [(.int .i64 0), (.slice none 0 0), (.slice none 0 0)], 0, [(0, 3), (1, 54), (2, 55)], none, false, false, [3, 54, 55], false⟩,
  none,
  some ⟨true, false, 9, 128, [(.string ⟨#[]⟩), (.int .i64 0), (.bool false), (.int .i64 0), (.int .i64 0), (.int .i64 0), (.slice none 0 0), (.slice none 0 0), (.slice none 0 0)], 0, [(0, 9), (1, 3), (2, 4), (3, 3), (4, 3), (5, 57), (8, 47)], none, false, false, [9, 3, 4, 3, 3, 3, 54, 55, 47], false⟩,
  none,
  none,
  none,
  none,
  none,
  none,
  none,
  none,
  none,
  none,
  none,
  none,
  none,
  some ⟨false, true, 1, 24, [(.slice none 0 0)], 5, [], none, false, false, [73], false⟩,
  none,
  some ⟨true, false, 4, 56, [(.string ⟨#[]⟩), (.slice none 0 0), (.int .i64 0), (.bool false)], 0, [(0, 9), (1, 73), (2, 3), (3, 4)], none, false, false, [9, 73, 3, 4], false⟩,
  none,
  some ⟨true, false, 6, 72, [(.int .i64 0), (.string ⟨#[]⟩), (.slice none 0 0), (.int .i64 0), (.bool false), (.int .i64 0)], 0, [(0, 3), (1, 75), (5, 3)], none, false, false, [3, 9, 73, 3, 4, 3], false⟩,
  none,
  none,
  none,
  none,
  none,
  none,
  none,
  none,
  none,
  none,
  some ⟨true, false, 4, 56, [(.string ⟨#[]⟩), (.slice none 0 0), (.int .i64 0), (.bool false)], 0, [(0, 9), (1, 73), (2, 3), (3, 4)], none, false, false, [9, 73, 3, 4], false⟩,
  none,
  some ⟨true, false, 6, 72, [(.int .i64 0), (.string ⟨#[]⟩), (.slice none 0 0), (.int .i64 0), (.bool false), (.int .i64 0)], 0, [(0, 3), (1, 88), (5, 3)], none, false, false, [3, 9, 73, 3, 4, 3], false⟩,
  none,
  none,
  none,
  none,
  none,
  none,
  none,
  some ⟨false, true, 1, 24, [(.slice none 0 0)], 73, [], none, false, false, [98], false⟩]
noncomputable def bodyOf (f : Func) : Code := match f.body with | some c => c | none => .skip
noncomputable def c69 : Code := bodyOf Go.Proofs.Try.f69
noncomputable def c63 : Code := bodyOf Go.Proofs.Try.f63
noncomputable def c62 : Code := bodyOf Go.Proofs.Try.f62
noncomputable def c54 : Code := bodyOf Go.Proofs.Try.f54
noncomputable def c55 : Code := bodyOf Go.Proofs.Try.f55
noncomputable def c42 : Code := bodyOf Go.Proofs.Try.f42
noncomputable def c43 : Code := bodyOf Go.Proofs.Try.f43
noncomputable def c29 : Code := bodyOf Go.Proofs.Try.f29
noncomputable def c17 : Code := bodyOf Go.Proofs.Try.f17
noncomputable def c6 : Code := bodyOf Go.Proofs.Try.f6
noncomputable def c70 : Code := bodyOf Go.Proofs.Try.f70
noncomputable def c65 : Code := bodyOf Go.Proofs.Try.f65
noncomputable def c64 : Code := bodyOf Go.Proofs.Try.f64
noncomputable def c56 : Code := bodyOf Go.Proofs.Try.f56
noncomputable def c57 : Code := bodyOf Go.Proofs.Try.f57
noncomputable def c44 : Code := bodyOf Go.Proofs.Try.f44
noncomputable def c45 : Code := bodyOf Go.Proofs.Try.f45
noncomputable def c30 : Code := bodyOf Go.Proofs.Try.f30
noncomputable def c20 : Code := bodyOf Go.Proofs.Try.f20
noncomputable def c8 : Code := bodyOf Go.Proofs.Try.f8
noncomputable def c53 : Code := bodyOf Go.Proofs.Try.f53
noncomputable def c52 : Code := bodyOf Go.Proofs.Try.f52
noncomputable def c40 : Code := bodyOf Go.Proofs.Try.f40
noncomputable def c26 : Code := bodyOf Go.Proofs.Try.f26
noncomputable def c15 : Code := bodyOf Go.Proofs.Try.f15
noncomputable def c66 : Code := bodyOf Go.Proofs.Try.f66
noncomputable def c59 : Code := bodyOf Go.Proofs.Try.f59
noncomputable def c58 : Code := bodyOf Go.Proofs.Try.f58
noncomputable def c46 : Code := bodyOf Go.Proofs.Try.f46
noncomputable def c47 : Code := bodyOf Go.Proofs.Try.f47
noncomputable def c31 : Code := bodyOf Go.Proofs.Try.f31
noncomputable def c21 : Code := bodyOf Go.Proofs.Try.f21
noncomputable def c28 : Code := bodyOf Go.Proofs.Try.f28
noncomputable def c41 : Code := bodyOf Go.Proofs.Try.f41
noncomputable def c27 : Code := bodyOf Go.Proofs.Try.f27
noncomputable def c16 : Code := bodyOf Go.Proofs.Try.f16
noncomputable def c71 : Code := bodyOf Go.Proofs.Try.f71
noncomputable def c68 : Code := bodyOf Go.Proofs.Try.f68
noncomputable def c67 : Code := bodyOf Go.Proofs.Try.f67
noncomputable def c60 : Code := bodyOf Go.Proofs.Try.f60
noncomputable def c61 : Code := bodyOf Go.Proofs.Try.f61
noncomputable def c48 : Code := bodyOf Go.Proofs.Try.f48
noncomputable def c49 : Code := bodyOf Go.Proofs.Try.f49
noncomputable def c32 : Code := bodyOf Go.Proofs.Try.f32
noncomputable def c23 : Code := bodyOf Go.Proofs.Try.f23
noncomputable def c10 : Code := bodyOf Go.Proofs.Try.f10
noncomputable def c33 : Code := bodyOf Go.Proofs.Try.f33
noncomputable def c50 : Code := bodyOf Go.Proofs.Try.f50
noncomputable def c34 : Code := bodyOf Go.Proofs.Try.f34
noncomputable def c35 : Code := bodyOf Go.Proofs.Try.f35
noncomputable def c36 : Code := bodyOf Go.Proofs.Try.f36
noncomputable def c24 : Code := bodyOf Go.Proofs.Try.f24
noncomputable def c11 : Code := bodyOf Go.Proofs.Try.f11
noncomputable def c51 : Code := bodyOf Go.Proofs.Try.f51
noncomputable def c37 : Code := bodyOf Go.Proofs.Try.f37
noncomputable def c38 : Code := bodyOf Go.Proofs.Try.f38
noncomputable def c39 : Code := bodyOf Go.Proofs.Try.f39
noncomputable def c25 : Code := bodyOf Go.Proofs.Try.f25
noncomputable def c12 : Code := bodyOf Go.Proofs.Try.f12
noncomputable def c5 : Code := bodyOf Go.Proofs.Try.f5
noncomputable def c18 : Code := bodyOf Go.Proofs.Try.f18
noncomputable def c19 : Code := bodyOf Go.Proofs.Try.f19
noncomputable def c7 : Code := bodyOf Go.Proofs.Try.f7
noncomputable def c22 : Code := bodyOf Go.Proofs.Try.f22
noncomputable def c9 : Code := bodyOf Go.Proofs.Try.f9
noncomputable def c3 : Code := bodyOf Go.Proofs.Try.f3
noncomputable def o69 : List (Nat × PI) := []
noncomputable def o63 : List (Nat × PI) := []
noncomputable def o62 : List (Nat × PI) := []
noncomputable def o54 : List (Nat × PI) := []
noncomputable def o55 : List (Nat × PI) := []
noncomputable def o42 : List (Nat × PI) := []
noncomputable def o43 : List (Nat × PI) := []
noncomputable def o29 : List (Nat × PI) := []
noncomputable def o17 : List (Nat × PI) := []
noncomputable def o6 : List (Nat × PI) := []
noncomputable def o70 : List (Nat × PI) := []
noncomputable def o65 : List (Nat × PI) := []
noncomputable def o64 : List (Nat × PI) := []
noncomputable def o56 : List (Nat × PI) := []
noncomputable def o57 : List (Nat × PI) := []
noncomputable def o44 : List (Nat × PI) := []
noncomputable def o45 : List (Nat × PI) := []
noncomputable def o30 : List (Nat × PI) := []
noncomputable def o20 : List (Nat × PI) := []
noncomputable def o8 : List (Nat × PI) := []
noncomputable def o53 : List (Nat × PI) := [(1, PI.of [0, 1, 3, 4, 6, 7, 8, 9, 2, 5, 10, 11])]
noncomputable def o52 : List (Nat × PI) := []
noncomputable def o40 : List (Nat × PI) := [(1, .one 0 (.one 1 (.one 2 (.one 3 (.two 4 (PI.of [5, 6, 7]) 6 (PI.of [4, 5, 7])))))), (5, PI.of [0, 1, 2, 3, 4, 5, 6, 7, 8, 9, 10, 11, 12, 13, 15, 16, 17, 18, 19, 20, 14, 21, 22, 23, 24, 25])]
noncomputable def o26 : List (Nat × PI) := []
noncomputable def o15 : List (Nat × PI) := [(6, PI.of [0, 1, 2, 3, 4, 5, 6, 7, 8, 9, 10, 11])]
noncomputable def o66 : List (Nat × PI) := []
noncomputable def o59 : List (Nat × PI) := []
noncomputable def o58 : List (Nat × PI) := []
noncomputable def o46 : List (Nat × PI) := [(1, .one 0 (.one 1 (.one 2 (.one 3 (.two 4 (PI.of [5, 6, 7]) 6 (PI.of [4, 5, 7])))))), (5, PI.of [0, 1, 2, 3, 4, 5, 7, 8, 6, 9, 10, 11, 12, 13])]
noncomputable def o47 : List (Nat × PI) := []
noncomputable def o31 : List (Nat × PI) := [(1, PI.of [0, 1, 3, 4, 2, 6, 5, 7, 8, 9])]
noncomputable def o21 : List (Nat × PI) := [(5, PI.of [0, 1, 2, 3, 4, 5, 6, 7])]
noncomputable def o28 : List (Nat × PI) := []
noncomputable def o41 : List (Nat × PI) := []
noncomputable def o27 : List (Nat × PI) := []
noncomputable def o16 : List (Nat × PI) := []
noncomputable def o71 : List (Nat × PI) := [(6, PI.of [0, 1, 2, 3, 4, 5, 6, 7, 8])]
noncomputable def o68 : List (Nat × PI) := []
noncomputable def o67 : List (Nat × PI) := []
noncomputable def o60 : List (Nat × PI) := [(6, PI.of [0, 1, 2, 3, 4, 5, 6, 7, 8, 9])]
noncomputable def o61 : List (Nat × PI) := [(6, PI.of [0, 1, 2, 3, 4, 5, 6, 7, 8, 9])]
noncomputable def o48 : List (Nat × PI) := []
noncomputable def o49 : List (Nat × PI) := [(6, PI.of [0, 1, 2, 3, 4, 5, 6, 7, 8])]
noncomputable def o32 : List (Nat × PI) := []
noncomputable def o23 : List (Nat × PI) := [(6, PI.of [0, 1, 2, 3, 4, 5, 6, 7, 8, 9])]
noncomputable def o10 : List (Nat × PI) := []
noncomputable def o33 : List (Nat × PI) := []
noncomputable def o50 : List (Nat × PI) := []
noncomputable def o34 : List (Nat × PI) := []
noncomputable def o35 : List (Nat × PI) := []
noncomputable def o36 : List (Nat × PI) := []
noncomputable def o24 : List (Nat × PI) := []
noncomputable def o11 : List (Nat × PI) := []
noncomputable def o51 : List (Nat × PI) := []
noncomputable def o37 : List (Nat × PI) := [(7, PI.of [0, 1, 2, 3, 4, 5, 6, 7, 8])]
noncomputable def o38 : List (Nat × PI) := [(4, PI.of [0, 1, 2, 3, 4, 5, 6, 7])]
noncomputable def o39 : List (Nat × PI) := []
noncomputable def o25 : List (Nat × PI) := [(4, PI.of [0, 1, 2, 3, 4, 5, 6, 7])]
noncomputable def o12 : List (Nat × PI) := []
noncomputable def o5 : List (Nat × PI) := [(12, PI.of [0, 1, 2, 3, 4])]
noncomputable def o18 : List (Nat × PI) := [(5, PI.of [0, 1, 2, 3, 4, 5, 6, 7, 8, 9, 10, 11])]
noncomputable def o19 : List (Nat × PI) := []
noncomputable def o7 : List (Nat × PI) := []
noncomputable def o22 : List (Nat × PI) := []
noncomputable def o9 : List (Nat × PI) := []
noncomputable def o3 : List (Nat × PI) := [(10, PI.of [0, 1, 2, 3, 4])]
noncomputable def ti0 (t : Nat) : Option TI := (tis[t]?).getD none
noncomputable def cd : Code → List Nat → Code
  | c, [] => c
  | .seq a b, i :: p => cd (if i = 0 then a else b) p
  | .cond _ a b, i :: p => cd (if i = 1 then a else b) p
  | .block _ a, _ :: p => cd a p
  | .loop a, _ :: p => cd a p
  | c, _ => c

/-! 69 loop.example/g00480/laws.szByteS -/
noncomputable def f69 (p : Pr β) (n : Nat) (a0 a1 : AV) (H : Heap) (k : AV → Heap → Option β) : Option β :=
  p.len a0 fun t7 =>
  p.bin .sub a1 t7 fun t8 =>
  p.bin .lss t8 (.sc (.int .i64 0)) fun t10 =>
  p.cond t10
  (k (.sc (.int .i64 (-1))) H)
  (k t8 H)
theorem f69_body (p : Pr β) (n : Nat) (a0 a1 : AV) (H : Heap) (k : AV → Heap → Option β) : evalBody ti0 p n ⟨c69, 12, Go.Proofs.Try.f69.results.toList, o69⟩ [a0, a1] H k = f69 p n a0 a1 H k := by kernel_rfl

/-! 63 loop.example/g00480/laws.szMsg -/
noncomputable def f63 (p : Pr β) (n : Nat) (a0 a1 : AV) (H : Heap) (k : AV → Heap → Option β) : Option β :=
  p.box a0 H fun t2 H =>
  p.fadr 0 t2 fun t6 =>
  p.load false 1 t6 H fun t7 =>
  p.lenS t7 fun t8 =>
  p.bin .sub a1 t8 fun t9 =>
  p.bin .lss t9 (.sc (.int .i64 0)) fun t11 =>
  p.cond t11
  (k (.sc (.int .i64 (-1))) H)
  (p.fadr 1 t2 fun t12 =>
  p.load false 1 t12 H fun t13 =>
  p.call 3 (.fn 69 [] []) [t13, t9] H fun t15 H =>
  p.bin .lss t15 (.sc (.int .i64 0)) fun t17 =>
  p.cond t17
  (k (.sc (.int .i64 (-1))) H)
  (k t15 H))
theorem f63_body (p : Pr β) (n : Nat) (a0 a1 : AV) (H : Heap) (k : AV → Heap → Option β) : evalBody ti0 p n ⟨c63, 19, Go.Proofs.Try.f63.results.toList, o63⟩ [a0, a1] H k = f63 p n a0 a1 H k := by kernel_rfl

/-! 62 loop.example/g00480/laws.szFlight -/
noncomputable def f62 (p : Pr β) (n : Nat) (a0 a1 : AV) (H : Heap) (k : AV → Heap → Option β) : Option β :=
  p.box a0 H fun t2 H =>
  p.fadr 1 t2 fun t5 =>
  p.load true 4 t5 H fun t6 =>
  p.call 3 (.fn 63 [] []) [t6, a1] H fun t8 H =>
  p.bin .lss t8 (.sc (.int .i64 0)) fun t10 =>
  p.cond t10
  (k (.sc (.int .i64 (-1))) H)
  (k t8 H)
theorem f62_body (p : Pr β) (n : Nat) (a0 a1 : AV) (H : Heap) (k : AV → Heap → Option β) : evalBody ti0 p n ⟨c62, 12, Go.Proofs.Try.f62.results.toList, o62⟩ [a0, a1] H k = f62 p n a0 a1 H k := by kernel_rfl

/-! 54 loop.example/g00480/laws.szFlightS -/
noncomputable def f54_l0 (p : Pr β) (n : Nat)  (k : AV → Heap → Option β) : Nat → AV → AV → AV → Heap → Option β
  | 0, _, _, _, _ => none
  | m + 1, t0, t1, t5, H => p.len t0 fun t14 =>
      p.bin .lss t5 t14 fun t15 =>
      p.cond t15
      (p.iadr 6 t0 t5 fun t20 =>
      p.load true 6 t20 H fun t21 =>
      p.call 3 (.fn 62 [] []) [t21, t1] H fun t23 H =>
      p.bin .lss t23 (.sc (.int .i64 0)) fun t25 =>
      p.cond t25
      (k (.sc (.int .i64 (-1))) H)
      (p.bin .add t5 (.sc (.int .i64 1)) fun t17 =>
      f54_l0 p n  k m t0 t23 t17 H))
      (k t1 H)
noncomputable def f54 (p : Pr β) (n : Nat) (a0 a1 : AV) (H : Heap) (k : AV → Heap → Option β) : Option β :=
  p.len a0 fun t8 =>
  p.bin .sub a1 t8 fun t9 =>
  p.bin .lss t9 (.sc (.int .i64 0)) fun t11 =>
  p.cond t11
  (k (.sc (.int .i64 (-1))) H)
  (f54_l0 p n  k n a0 t9 (.sc (.int .i64 0)) H)
noncomputable def f54_L0 (p : Pr β) (n : Nat)  (k : AV → Heap → Option β) (m : Nat) (tm : Tm) (H : Heap) : Option β :=
  iterC 27 (fun tm H k => evalCode ti0 p o54 27 n (cd c54 [1, 1, 1, 0, 1, 0, 0]) tm H k) (blkK 0 (seqK (fun tm H => evalCode ti0 p o54 27 n (cd c54 [1, 1, 1, 1]) tm H (endK ti0 p Go.Proofs.Try.f54.results.toList k)) (endK ti0 p Go.Proofs.Try.f54.results.toList k))) m tm H
theorem f54_L0_step (p : Pr β) (n : Nat)  (k : AV → Heap → Option β) (m0 : Nat) (t0 t1 t2 t3 t4 t5 t6 t7 t8 t9 t10 t11 t12 t13 t14 t15 t16 t17 t18 t19 t20 t21 t22 t23 t24 t25 t26 : AV) (H : Heap) : f54_L0 p n  k (m0 + 1) [(0, t0), (1, t1), (2, t2), (3, t3), (4, t4), (5, t5), (6, t6), (7, t7), (8, t8), (9, t9), (10, t10), (11, t11), (12, t12), (13, t13), (14, t14), (15, t15), (16, t16), (17, t17), (18, t18), (19, t19), (20, t20), (21, t21), (22, t22), (23, t23), (24, t24), (25, t25), (26, t26)] H =
  p.len t0 fun t14 =>
  p.bin .lss t5 t14 fun t15 =>
  p.cond t15
  (p.iadr 6 t0 t5 fun t20 =>
  p.load true 6 t20 H fun t21 =>
  p.call 3 (.fn 62 [] []) [t21, t1] H fun t23 H =>
  p.bin .lss t23 (.sc (.int .i64 0)) fun t25 =>
  p.cond t25
  (k (.sc (.int .i64 (-1))) H)
  (p.bin .add t5 (.sc (.int .i64 1)) fun t17 =>
  f54_L0 p n  k m0 [(0, t0), (1, t23), (2, t2), (3, t3), (4, t4), (5, t17), (6, t6), (7, t7), (8, t8), (9, t9), (10, t10), (11, t11), (12, t5), (13, t0), (14, t14), (15, t15), (16, t5), (17, t17), (18, t0), (19, t5), (20, t20), (21, t21), (22, t1), (23, t23), (24, t23), (25, t25), (26, t26)] H))
  (k t1 H) := by kernel_rfl
theorem f54_l0_eq (p : Pr β) (n : Nat)  (k : AV → Heap → Option β)   (m0 : Nat) : ∀ (t0 t1 t2 t3 t4 t5 t6 t7 t8 t9 t10 t11 t12 t13 t14 t15 t16 t17 t18 t19 t20 t21 t22 t23 t24 t25 t26 : AV) (H : Heap), f54_L0 p n  k m0 [(0, t0), (1, t1), (2, t2), (3, t3), (4, t4), (5, t5), (6, t6), (7, t7), (8, t8), (9, t9), (10, t10), (11, t11), (12, t12), (13, t13), (14, t14), (15, t15), (16, t16), (17, t17), (18, t18), (19, t19), (20, t20), (21, t21), (22, t22), (23, t23), (24, t24), (25, t25), (26, t26)] H = f54_l0 p n  k m0 t0 t1 t5 H := by
  induction m0 with
  | zero => intros; rfl
  | succ m0 ih =>
    intro t0 t1 t2 t3 t4 t5 t6 t7 t8 t9 t10 t11 t12 t13 t14 t15 t16 t17 t18 t19 t20 t21 t22 t23 t24 t25 t26 H
    rw [f54_L0_step]
    simp only [ih]
    rfl
theorem f54_raw (p : Pr β) (n : Nat) (a0 a1 : AV) (H : Heap) (k : AV → Heap → Option β) : evalBody ti0 p n ⟨c54, 27, Go.Proofs.Try.f54.results.toList, o54⟩ [a0, a1] H k =
  p.len a0 fun t8 =>
  p.bin .sub a1 t8 fun t9 =>
  p.bin .lss t9 (.sc (.int .i64 0)) fun t11 =>
  p.cond t11
  (k (.sc (.int .i64 (-1))) H)
  (f54_L0 p n  k n [(0, a0), (1, t9), (2, (.sc undef)), (3, (.sc undef)), (4, (.sc (.int .i64 0))), (5, (.sc (.int .i64 0))), (6, a1), (7, a0), (8, t8), (9, t9), (10, t9), (11, t11), (12, (.sc undef)), (13, (.sc undef)), (14, (.sc undef)), (15, (.sc undef)), (16, (.sc undef)), (17, (.sc undef)), (18, (.sc undef)), (19, (.sc undef)), (20, (.sc undef)), (21, (.sc undef)), (22, (.sc undef)), (23, (.sc undef)), (24, (.sc undef)), (25, (.sc undef)), (26, (.sc undef))] H) := by kernel_rfl
theorem f54_body (p : Pr β) (n : Nat) (a0 a1 : AV) (H : Heap) (k : AV → Heap → Option β) : evalBody ti0 p n ⟨c54, 27, Go.Proofs.Try.f54.results.toList, o54⟩ [a0, a1] H k = f54 p n a0 a1 H k := by
  rw [f54_raw]
  simp only [f54_l0_eq]
  rfl

/-! 55 loop.example/g00480/laws.szMsgS -/
noncomputable def f55_l0 (p : Pr β) (n : Nat)  (k : AV → Heap → Option β) : Nat → AV → AV → AV → Heap → Option β
  | 0, _, _, _, _ => none
  | m + 1, t0, t1, t5, H => p.len t0 fun t14 =>
      p.bin .lss t5 t14 fun t15 =>
      p.cond t15
      (p.iadr 4 t0 t5 fun t20 =>
      p.load true 4 t20 H fun t21 =>
      p.call 3 (.fn 63 [] []) [t21, t1] H fun t23 H =>
      p.bin .lss t23 (.sc (.int .i64 0)) fun t25 =>
      p.cond t25
      (k (.sc (.int .i64 (-1))) H)
      (p.bin .add t5 (.sc (.int .i64 1)) fun t17 =>
      f55_l0 p n  k m t0 t23 t17 H))
      (k t1 H)
noncomputable def f55 (p : Pr β) (n : Nat) (a0 a1 : AV) (H : Heap) (k : AV → Heap → Option β) : Option β :=
  p.len a0 fun t8 =>
  p.bin .sub a1 t8 fun t9 =>
  p.bin .lss t9 (.sc (.int .i64 0)) fun t11 =>
  p.cond t11
  (k (.sc (.int .i64 (-1))) H)
  (f55_l0 p n  k n a0 t9 (.sc (.int .i64 0)) H)
noncomputable def f55_L0 (p : Pr β) (n : Nat)  (k : AV → Heap → Option β) (m : Nat) (tm : Tm) (H : Heap) : Option β :=
  iterC 27 (fun tm H k => evalCode ti0 p o55 27 n (cd c55 [1, 1, 1, 0, 1, 0, 0]) tm H k) (blkK 0 (seqK (fun tm H => evalCode ti0 p o55 27 n (cd c55 [1, 1, 1, 1]) tm H (endK ti0 p Go.Proofs.Try.f55.results.toList k)) (endK ti0 p Go.Proofs.Try.f55.results.toList k))) m tm H
theorem f55_L0_step (p : Pr β) (n : Nat)  (k : AV → Heap → Option β) (m0 : Nat) (t0 t1 t2 t3 t4 t5 t6 t7 t8 t9 t10 t11 t12 t13 t14 t15 t16 t17 t18 t19 t20 t21 t22 t23 t24 t25 t26 : AV) (H : Heap) : f55_L0 p n  k (m0 + 1) [(0, t0), (1, t1), (2, t2), (3, t3), (4, t4), (5, t5), (6, t6), (7, t7), (8, t8), (9, t9), (10, t10), (11, t11), (12, t12), (13, t13), (14, t14), (15, t15), (16, t16), (17, t17), (18, t18), (19, t19), (20, t20), (21, t21), (22, t22), (23, t23), (24, t24), (25, t25), (26, t26)] H =
  p.len t0 fun t14 =>
  p.bin .lss t5 t14 fun t15 =>
  p.cond t15
  (p.iadr 4 t0 t5 fun t20 =>
  p.load true 4 t20 H fun t21 =>
  p.call 3 (.fn 63 [] []) [t21, t1] H fun t23 H =>
  p.bin .lss t23 (.sc (.int .i64 0)) fun t25 =>
  p.cond t25
  (k (.sc (.int .i64 (-1))) H)
  (p.bin .add t5 (.sc (.int .i64 1)) fun t17 =>
  f55_L0 p n  k m0 [(0, t0), (1, t23), (2, t2), (3, t3), (4, t4), (5, t17), (6, t6), (7, t7), (8, t8), (9, t9), (10, t10), (11, t11), (12, t5), (13, t0), (14, t14), (15, t15), (16, t5), (17, t17), (18, t0), (19, t5), (20, t20), (21, t21), (22, t1), (23, t23), (24, t23), (25, t25), (26, t26)] H))
  (k t1 H) := by kernel_rfl
theorem f55_l0_eq (p : Pr β) (n : Nat)  (k : AV → Heap → Option β)   (m0 : Nat) : ∀ (t0 t1 t2 t3 t4 t5 t6 t7 t8 t9 t10 t11 t12 t13 t14 t15 t16 t17 t18 t19 t20 t21 t22 t23 t24 t25 t26 : AV) (H : Heap), f55_L0 p n  k m0 [(0, t0), (1, t1), (2, t2), (3, t3), (4, t4), (5, t5), (6, t6), (7, t7), (8, t8), (9, t9), (10, t10), (11, t11), (12, t12), (13, t13), (14, t14), (15, t15), (16, t16), (17, t17), (18, t18), (19, t19), (20, t20), (21, t21), (22, t22), (23, t23), (24, t24), (25, t25), (26, t26)] H = f55_l0 p n  k m0 t0 t1 t5 H := by
  induction m0 with
  | zero => intros; rfl
  | succ m0 ih =>
    intro t0 t1 t2 t3 t4 t5 t6 t7 t8 t9 t10 t11 t12 t13 t14 t15 t16 t17 t18 t19 t20 t21 t22 t23 t24 t25 t26 H
    rw [f55_L0_step]
    simp only [ih]
    rfl
theorem f55_raw (p : Pr β) (n : Nat) (a0 a1 : AV) (H : Heap) (k : AV → Heap → Option β) : evalBody ti0 p n ⟨c55, 27, Go.Proofs.Try.f55.results.toList, o55⟩ [a0, a1] H k =
  p.len a0 fun t8 =>
  p.bin .sub a1 t8 fun t9 =>
  p.bin .lss t9 (.sc (.int .i64 0)) fun t11 =>
  p.cond t11
  (k (.sc (.int .i64 (-1))) H)
  (f55_L0 p n  k n [(0, a0), (1, t9), (2, (.sc undef)), (3, (.sc undef)), (4, (.sc (.int .i64 0))), (5, (.sc (.int .i64 0))), (6, a1), (7, a0), (8, t8), (9, t9), (10, t9), (11, t11), (12, (.sc undef)), (13, (.sc undef)), (14, (.sc undef)), (15, (.sc undef)), (16, (.sc undef)), (17, (.sc undef)), (18, (.sc undef)), (19, (.sc undef)), (20, (.sc undef)), (21, (.sc undef)), (22, (.sc undef)), (23, (.sc undef)), (24, (.sc undef)), (25, (.sc undef)), (26, (.sc undef))] H) := by kernel_rfl
theorem f55_body (p : Pr β) (n : Nat) (a0 a1 : AV) (H : Heap) (k : AV → Heap → Option β) : evalBody ti0 p n ⟨c55, 27, Go.Proofs.Try.f55.results.toList, o55⟩ [a0, a1] H k = f55 p n a0 a1 H k := by
  rw [f55_raw]
  simp only [f55_l0_eq]
  rfl

/-! 42 loop.example/g00480/laws.szOut -/
noncomputable def f42 (p : Pr β) (n : Nat) (a0 a1 : AV) (H : Heap) (k : AV → Heap → Option β) : Option β :=
  p.box a0 H fun t2 H =>
  p.fadr 1 t2 fun t5 =>
  p.load false 1 t5 H fun t6 =>
  p.call 3 (.fn 54 [] []) [t6, a1] H fun t8 H =>
  p.bin .lss t8 (.sc (.int .i64 0)) fun t10 =>
  p.cond t10
  (k (.sc (.int .i64 (-1))) H)
  (p.fadr 2 t2 fun t11 =>
  p.load false 1 t11 H fun t12 =>
  p.call 3 (.fn 55 [] []) [t12, t8] H fun t14 H =>
  p.bin .lss t14 (.sc (.int .i64 0)) fun t16 =>
  p.cond t16
  (k (.sc (.int .i64 (-1))) H)
  (k t14 H))
theorem f42_body (p : Pr β) (n : Nat) (a0 a1 : AV) (H : Heap) (k : AV → Heap → Option β) : evalBody ti0 p n ⟨c42, 18, Go.Proofs.Try.f42.results.toList, o42⟩ [a0, a1] H k = f42 p n a0 a1 H k := by kernel_rfl

/-! 43 loop.example/g00480/laws.szIntS -/
noncomputable def f43 (p : Pr β) (n : Nat) (a0 a1 : AV) (H : Heap) (k : AV → Heap → Option β) : Option β :=
  p.len a0 fun t7 =>
  p.bin .sub a1 t7 fun t8 =>
  p.bin .lss t8 (.sc (.int .i64 0)) fun t10 =>
  p.cond t10
  (k (.sc (.int .i64 (-1))) H)
  (k t8 H)
theorem f43_body (p : Pr β) (n : Nat) (a0 a1 : AV) (H : Heap) (k : AV → Heap → Option β) : evalBody ti0 p n ⟨c43, 12, Go.Proofs.Try.f43.results.toList, o43⟩ [a0, a1] H k = f43 p n a0 a1 H k := by kernel_rfl

/-! 29 loop.example/g00480/laws.szSess -/
noncomputable def f29 (p : Pr β) (n : Nat) (a0 a1 : AV) (H : Heap) (k : AV → Heap → Option β) : Option β :=
  p.box a0 H fun t2 H =>
  p.fadr 0 t2 fun t6 =>
  p.load false 1 t6 H fun t7 =>
  p.lenS t7 fun t8 =>
  p.bin .sub a1 t8 fun t9 =>
  p.bin .lss t9 (.sc (.int .i64 0)) fun t11 =>
  p.cond t11
  (k (.sc (.int .i64 (-1))) H)
  (p.fadr 5 t2 fun t12 =>
  p.load true 3 t12 H fun t13 =>
  p.call 3 (.fn 42 [] []) [t13, t9] H fun t15 H =>
  p.bin .lss t15 (.sc (.int .i64 0)) fun t17 =>
  p.cond t17
  (k (.sc (.int .i64 (-1))) H)
  (p.fadr 8 t2 fun t18 =>
  p.load false 1 t18 H fun t19 =>
  p.call 3 (.fn 43 [] []) [t19, t15] H fun t21 H =>
  p.bin .lss t21 (.sc (.int .i64 0)) fun t23 =>
  p.cond t23
  (k (.sc (.int .i64 (-1))) H)
  (k t21 H)))
theorem f29_body (p : Pr β) (n : Nat) (a0 a1 : AV) (H : Heap) (k : AV → Heap → Option β) : evalBody ti0 p n ⟨c29, 25, Go.Proofs.Try.f29.results.toList, o29⟩ [a0, a1] H k = f29 p n a0 a1 H k := by kernel_rfl

/-! 17 loop.example/g00480/laws.szSessS -/
noncomputable def f17_l0 (p : Pr β) (n : Nat)  (k : AV → Heap → Option β) : Nat → AV → AV → AV → Heap → Option β
  | 0, _, _, _, _ => none
  | m + 1, t0, t1, t5, H => p.len t0 fun t14 =>
      p.bin .lss t5 t14 fun t15 =>
      p.cond t15
      (p.iadr 9 t0 t5 fun t20 =>
      p.load true 9 t20 H fun t21 =>
      p.call 3 (.fn 29 [] []) [t21, t1] H fun t23 H =>
      p.bin .lss t23 (.sc (.int .i64 0)) fun t25 =>
      p.cond t25
      (k (.sc (.int .i64 (-1))) H)
      (p.bin .add t5 (.sc (.int .i64 1)) fun t17 =>
      f17_l0 p n  k m t0 t23 t17 H))
      (k t1 H)
noncomputable def f17 (p : Pr β) (n : Nat) (a0 a1 : AV) (H : Heap) (k : AV → Heap → Option β) : Option β :=
  p.len a0 fun t8 =>
  p.bin .sub a1 t8 fun t9 =>
  p.bin .lss t9 (.sc (.int .i64 0)) fun t11 =>
  p.cond t11
  (k (.sc (.int .i64 (-1))) H)
  (f17_l0 p n  k n a0 t9 (.sc (.int .i64 0)) H)
noncomputable def f17_L0 (p : Pr β) (n : Nat)  (k : AV → Heap → Option β) (m : Nat) (tm : Tm) (H : Heap) : Option β :=
  iterC 27 (fun tm H k => evalCode ti0 p o17 27 n (cd c17 [1, 1, 1, 0, 1, 0, 0]) tm H k) (blkK 0 (seqK (fun tm H => evalCode ti0 p o17 27 n (cd c17 [1, 1, 1, 1]) tm H (endK ti0 p Go.Proofs.Try.f17.results.toList k)) (endK ti0 p Go.Proofs.Try.f17.results.toList k))) m tm H
theorem f17_L0_step (p : Pr β) (n : Nat)  (k : AV → Heap → Option β) (m0 : Nat) (t0 t1 t2 t3 t4 t5 t6 t7 t8 t9 t10 t11 t12 t13 t14 t15 t16 t17 t18 t19 t20 t21 t22 t23 t24 t25 t26 : AV) (H : Heap) : f17_L0 p n  k (m0 + 1) [(0, t0), (1, t1), (2, t2), (3, t3), (4, t4), (5, t5), (6, t6), (7, t7), (8, t8), (9, t9), (10, t10), (11, t11), (12, t12), (13, t13), (14, t14), (15, t15), (16, t16), (17, t17), (18, t18), (19, t19), (20, t20), (21, t21), (22, t22), (23, t23), (24, t24), (25, t25), (26, t26)] H =
  p.len t0 fun t14 =>
  p.bin .lss t5 t14 fun t15 =>
  p.cond t15
  (p.iadr 9 t0 t5 fun t20 =>
  p.load true 9 t20 H fun t21 =>
  p.call 3 (.fn 29 [] []) [t21, t1] H fun t23 H =>
  p.bin .lss t23 (.sc (.int .i64 0)) fun t25 =>
  p.cond t25
  (k (.sc (.int .i64 (-1))) H)
  (p.bin .add t5 (.sc (.int .i64 1)) fun t17 =>
  f17_L0 p n  k m0 [(0, t0), (1, t23), (2, t2), (3, t3), (4, t4), (5, t17), (6, t6), (7, t7), (8, t8), (9, t9), (10, t10), (11, t11), (12, t5), (13, t0), (14, t14), (15, t15), (16, t5), (17, t17), (18, t0), (19, t5), (20, t20), (21, t21), (22, t1), (23, t23), (24, t23), (25, t25), (26, t26)] H))
  (k t1 H) := by kernel_rfl
theorem f17_l0_eq (p : Pr β) (n : Nat)  (k : AV → Heap → Option β)   (m0 : Nat) : ∀ (t0 t1 t2 t3 t4 t5 t6 t7 t8 t9 t10 t11 t12 t13 t14 t15 t16 t17 t18 t19 t20 t21 t22 t23 t24 t25 t26 : AV) (H : Heap), f17_L0 p n  k m0 [(0, t0), (1, t1), (2, t2), (3, t3), (4, t4), (5, t5), (6, t6), (7, t7), (8, t8), (9, t9), (10, t10), (11, t11), (12, t12), (13, t13), (14, t14), (15, t15), (16, t16), (17, t17), (18, t18), (19, t19), (20, t20), (21, t21), (22, t22), (23, t23), (24, t24), (25, t25), (26, t26)] H = f17_l0 p n  k m0 t0 t1 t5 H := by
  induction m0 with
  | zero => intros; rfl
  | succ m0 ih =>
    intro t0 t1 t2 t3 t4 t5 t6 t7 t8 t9 t10 t11 t12 t13 t14 t15 t16 t17 t18 t19 t20 t21 t22 t23 t24 t25 t26 H
    rw [f17_L0_step]
    simp only [ih]
    rfl
theorem f17_raw (p : Pr β) (n : Nat) (a0 a1 : AV) (H : Heap) (k : AV → Heap → Option β) : evalBody ti0 p n ⟨c17, 27, Go.Proofs.Try.f17.results.toList, o17⟩ [a0, a1] H k =
  p.len a0 fun t8 =>
  p.bin .sub a1 t8 fun t9 =>
  p.bin .lss t9 (.sc (.int .i64 0)) fun t11 =>
  p.cond t11
  (k (.sc (.int .i64 (-1))) H)
  (f17_L0 p n  k n [(0, a0), (1, t9), (2, (.sc undef)), (3, (.sc undef)), (4, (.sc (.int .i64 0))), (5, (.sc (.int .i64 0))), (6, a1), (7, a0), (8, t8), (9, t9), (10, t9), (11, t11), (12, (.sc undef)), (13, (.sc undef)), (14, (.sc undef)), (15, (.sc undef)), (16, (.sc undef)), (17, (.sc undef)), (18, (.sc undef)), (19, (.sc undef)), (20, (.sc undef)), (21, (.sc undef)), (22, (.sc undef)), (23, (.sc undef)), (24, (.sc undef)), (25, (.sc undef)), (26, (.sc undef))] H) := by kernel_rfl
theorem f17_body (p : Pr β) (n : Nat) (a0 a1 : AV) (H : Heap) (k : AV → Heap → Option β) : evalBody ti0 p n ⟨c17, 27, Go.Proofs.Try.f17.results.toList, o17⟩ [a0, a1] H k = f17 p n a0 a1 H k := by
  rw [f17_raw]
  simp only [f17_l0_eq]
  rfl

/-! 6 loop.example/g00480/laws.szStripe -/
noncomputable def f6 (p : Pr β) (n : Nat) (a0 a1 : AV) (H : Heap) (k : AV → Heap → Option β) : Option β :=
  p.box a0 H fun t2 H =>
  p.fadr 1 t2 fun t5 =>
  p.load false 1 t5 H fun t6 =>
  p.call 3 (.fn 17 [] []) [t6, a1] H fun t8 H =>
  p.bin .lss t8 (.sc (.int .i64 0)) fun t10 =>
  p.cond t10
  (k (.sc (.int .i64 (-1))) H)
  (k t8 H)
theorem f6_body (p : Pr β) (n : Nat) (a0 a1 : AV) (H : Heap) (k : AV → Heap → Option β) : evalBody ti0 p n ⟨c6, 12, Go.Proofs.Try.f6.results.toList, o6⟩ [a0, a1] H k = f6 p n a0 a1 H k := by kernel_rfl

/-! 70 loop.example/g00480/laws.toByteS -/
noncomputable def f70_l0 (p : Pr β) (n : Nat)  (k : AV → Heap → Option β) : Nat → AV → AV → AV → Heap → Option β
  | 0, _, _, _, _ => none
  | m + 1, t0, t3, t4, H => p.len t0 fun t10 =>
      p.bin .lss t4 t10 fun t11 =>
      p.cond t11
      (p.iadr 1 t0 t4 fun t18 =>
      p.load false 1 t18 H fun t19 =>
      p.iadr 1 t3 t4 fun t20 =>
      p.store 1 t20 t19 H fun H =>
      p.bin .add t4 (.sc (.int .i64 1)) fun t13 =>
      f70_l0 p n  k m t0 t3 t13 H)
      (k t3 H)
noncomputable def f70 (p : Pr β) (n : Nat) (a0 : AV) (H : Heap) (k : AV → Heap → Option β) : Option β :=
  p.len a0 fun t6 =>
  p.make 1 1 [(.sc (.int .u8 0))] t6 t6 H fun t7 H =>
  f70_l0 p n  k n a0 t7 (.sc (.int .i64 0)) H
noncomputable def f70_L0 (p : Pr β) (n : Nat)  (k : AV → Heap → Option β) (m : Nat) (tm : Tm) (H : Heap) : Option β :=
  iterC 22 (fun tm H k => evalCode ti0 p o70 22 n (cd c70 [1, 1, 0, 1, 0, 0]) tm H k) (blkK 0 (seqK (fun tm H => evalCode ti0 p o70 22 n (cd c70 [1, 1, 1]) tm H (endK ti0 p Go.Proofs.Try.f70.results.toList k)) (endK ti0 p Go.Proofs.Try.f70.results.toList k))) m tm H
theorem f70_L0_step (p : Pr β) (n : Nat)  (k : AV → Heap → Option β) (m0 : Nat) (t0 t1 t2 t3 t4 t5 t6 t7 t8 t9 t10 t11 t12 t13 t14 t15 t16 t17 t18 t19 t20 t21 : AV) (H : Heap) : f70_L0 p n  k (m0 + 1) [(0, t0), (1, t1), (2, t2), (3, t3), (4, t4), (5, t5), (6, t6), (7, t7), (8, t8), (9, t9), (10, t10), (11, t11), (12, t12), (13, t13), (14, t14), (15, t15), (16, t16), (17, t17), (18, t18), (19, t19), (20, t20), (21, t21)] H =
  p.len t0 fun t10 =>
  p.bin .lss t4 t10 fun t11 =>
  p.cond t11
  (p.iadr 1 t0 t4 fun t18 =>
  p.load false 1 t18 H fun t19 =>
  p.iadr 1 t3 t4 fun t20 =>
  p.store 1 t20 t19 H fun H =>
  p.bin .add t4 (.sc (.int .i64 1)) fun t13 =>
  f70_L0 p n  k m0 [(0, t0), (1, t1), (2, t2), (3, t3), (4, t13), (5, t5), (6, t6), (7, t7), (8, t4), (9, t0), (10, t10), (11, t11), (12, t4), (13, t13), (14, t3), (15, t4), (16, t0), (17, t4), (18, t18), (19, t19), (20, t20), (21, t21)] H)
  (k t3 H) := by kernel_rfl
theorem f70_l0_eq (p : Pr β) (n : Nat)  (k : AV → Heap → Option β)   (m0 : Nat) : ∀ (t0 t1 t2 t3 t4 t5 t6 t7 t8 t9 t10 t11 t12 t13 t14 t15 t16 t17 t18 t19 t20 t21 : AV) (H : Heap), f70_L0 p n  k m0 [(0, t0), (1, t1), (2, t2), (3, t3), (4, t4), (5, t5), (6, t6), (7, t7), (8, t8), (9, t9), (10, t10), (11, t11), (12, t12), (13, t13), (14, t14), (15, t15), (16, t16), (17, t17), (18, t18), (19, t19), (20, t20), (21, t21)] H = f70_l0 p n  k m0 t0 t3 t4 H := by
  induction m0 with
  | zero => intros; rfl
  | succ m0 ih =>
    intro t0 t1 t2 t3 t4 t5 t6 t7 t8 t9 t10 t11 t12 t13 t14 t15 t16 t17 t18 t19 t20 t21 H
    rw [f70_L0_step]
    simp only [ih]
    rfl
theorem f70_raw (p : Pr β) (n : Nat) (a0 : AV) (H : Heap) (k : AV → Heap → Option β) : evalBody ti0 p n ⟨c70, 22, Go.Proofs.Try.f70.results.toList, o70⟩ [a0] H k =
  p.len a0 fun t6 =>
  p.make 1 1 [(.sc (.int .u8 0))] t6 t6 H fun t7 H =>
  f70_L0 p n  k n [(0, a0), (1, (.sc undef)), (2, .nl), (3, t7), (4, (.sc (.int .i64 0))), (5, a0), (6, t6), (7, t7), (8, (.sc undef)), (9, (.sc undef)), (10, (.sc undef)), (11, (.sc undef)), (12, (.sc undef)), (13, (.sc undef)), (14, (.sc undef)), (15, (.sc undef)), (16, (.sc undef)), (17, (.sc undef)), (18, (.sc undef)), (19, (.sc undef)), (20, (.sc undef)), (21, (.sc undef))] H := by kernel_rfl
theorem f70_body (p : Pr β) (n : Nat) (a0 : AV) (H : Heap) (k : AV → Heap → Option β) : evalBody ti0 p n ⟨c70, 22, Go.Proofs.Try.f70.results.toList, o70⟩ [a0] H k = f70 p n a0 H k := by
  rw [f70_raw]
  simp only [f70_l0_eq]
  rfl

/-! 65 loop.example/g00480/laws.toMsg -/
noncomputable def f65 (p : Pr β) (n : Nat) (a0 : AV) (H : Heap) (k : AV → Heap → Option β) : Option β :=
  p.box a0 H fun t1 H =>
  p.new [(.sc (.string ⟨#[]⟩)), .nl, (.sc (.int .i64 0)), (.sc (.bool false))] H fun t2 H =>
  p.new [(.sc (.string ⟨#[]⟩)), .nl, (.sc (.int .i64 0)), (.sc (.bool false))] H fun t3 H =>
  p.fadr 0 t1 fun t4 =>
  p.load false 1 t4 H fun t5 =>
  p.fadr 0 t3 fun t6 =>
  p.store 1 t6 t5 H fun H =>
  p.fadr 1 t1 fun t7 =>
  p.load false 1 t7 H fun t8 =>
  p.call 73 (.fn 70 [] []) [t8] H fun t9 H =>
  p.fadr 1 t3 fun t10 =>
  p.store 1 t10 t9 H fun H =>
  p.fadr 2 t1 fun t11 =>
  p.load false 1 t11 H fun t12 =>
  p.fadr 2 t3 fun t13 =>
  p.store 1 t13 t12 H fun H =>
  p.fadr 3 t1 fun t14 =>
  p.load false 1 t14 H fun t15 =>
  p.fadr 3 t3 fun t16 =>
  p.store 1 t16 t15 H fun H =>
  p.load true 4 t3 H fun t17 =>
  p.store 4 t2 t17 H fun H =>
  p.load true 4 t2 H fun r0 =>
  k r0 H
theorem f65_body (p : Pr β) (n : Nat) (a0 : AV) (H : Heap) (k : AV → Heap → Option β) : evalBody ti0 p n ⟨c65, 18, Go.Proofs.Try.f65.results.toList, o65⟩ [a0] H k = f65 p n a0 H k := by kernel_rfl

/-! 64 loop.example/g00480/laws.toFlight -/
noncomputable def f64 (p : Pr β) (n : Nat) (a0 : AV) (H : Heap) (k : AV → Heap → Option β) : Option β :=
  p.box a0 H fun t1 H =>
  p.new [(.sc (.int .i64 0)), (.sc (.string ⟨#[]⟩)), .nl, (.sc (.int .i64 0)), (.sc (.bool false)), (.sc (.int .i64 0))] H fun t2 H =>
  p.new [(.sc (.int .i64 0)), (.sc (.string ⟨#[]⟩)), .nl, (.sc (.int .i64 0)), (.sc (.bool false)), (.sc (.int .i64 0))] H fun t3 H =>
  p.fadr 0 t1 fun t4 =>
  p.load false 1 t4 H fun t5 =>
  p.fadr 0 t3 fun t6 =>
  p.store 1 t6 t5 H fun H =>
  p.fadr 1 t1 fun t7 =>
  p.load true 4 t7 H fun t8 =>
  p.call 75 (.fn 65 [] []) [t8] H fun t9 H =>
  p.fadr 1 t3 fun t10 =>
  p.store 4 t10 t9 H fun H =>
  p.fadr 5 t1 fun t11 =>
  p.load false 1 t11 H fun t12 =>
  p.fadr 5 t3 fun t13 =>
  p.store 1 t13 t12 H fun H =>
  p.load true 6 t3 H fun t14 =>
  p.store 6 t2 t14 H fun H =>
  p.load true 6 t2 H fun r0 =>
  k r0 H
theorem f64_body (p : Pr β) (n : Nat) (a0 : AV) (H : Heap) (k : AV → Heap → Option β) : evalBody ti0 p n ⟨c64, 15, Go.Proofs.Try.f64.results.toList, o64⟩ [a0] H k = f64 p n a0 H k := by kernel_rfl

/-! 56 loop.example/g00480/laws.toFlightS -/
noncomputable def f56_l0 (p : Pr β) (n : Nat)  (k : AV → Heap → Option β) : Nat → AV → AV → AV → Heap → Option β
  | 0, _, _, _, _ => none
  | m + 1, t0, t3, t4, H => p.len t0 fun t10 =>
      p.bin .lss t4 t10 fun t11 =>
      p.cond t11
      (p.iadr 6 t0 t4 fun t18 =>
      p.load true 6 t18 H fun t19 =>
      p.call 77 (.fn 64 [] []) [t19] H fun t20 H =>
      p.iadr 6 t3 t4 fun t21 =>
      p.store 6 t21 t20 H fun H =>
      p.bin .add t4 (.sc (.int .i64 1)) fun t13 =>
      f56_l0 p n  k m t0 t3 t13 H)
      (k t3 H)
noncomputable def f56 (p : Pr β) (n : Nat) (a0 : AV) (H : Heap) (k : AV → Heap → Option β) : Option β :=
  p.len a0 fun t6 =>
  p.make 6 72 [(.sc (.int .i64 0)), (.sc (.string ⟨#[]⟩)), .nl, (.sc (.int .i64 0)), (.sc (.bool false)), (.sc (.int .i64 0))] t6 t6 H fun t7 H =>
  f56_l0 p n  k n a0 t7 (.sc (.int .i64 0)) H
noncomputable def f56_L0 (p : Pr β) (n : Nat)  (k : AV → Heap → Option β) (m : Nat) (tm : Tm) (H : Heap) : Option β :=
  iterC 23 (fun tm H k => evalCode ti0 p o56 23 n (cd c56 [1, 1, 0, 1, 0, 0]) tm H k) (blkK 0 (seqK (fun tm H => evalCode ti0 p o56 23 n (cd c56 [1, 1, 1]) tm H (endK ti0 p Go.Proofs.Try.f56.results.toList k)) (endK ti0 p Go.Proofs.Try.f56.results.toList k))) m tm H
theorem f56_L0_step (p : Pr β) (n : Nat)  (k : AV → Heap → Option β) (m0 : Nat) (t0 t1 t2 t3 t4 t5 t6 t7 t8 t9 t10 t11 t12 t13 t14 t15 t16 t17 t18 t19 t20 t21 t22 : AV) (H : Heap) : f56_L0 p n  k (m0 + 1) [(0, t0), (1, t1), (2, t2), (3, t3), (4, t4), (5, t5), (6, t6), (7, t7), (8, t8), (9, t9), (10, t10), (11, t11), (12, t12), (13, t13), (14, t14), (15, t15), (16, t16), (17, t17), (18, t18), (19, t19), (20, t20), (21, t21), (22, t22)] H =
  p.len t0 fun t10 =>
  p.bin .lss t4 t10 fun t11 =>
  p.cond t11
  (p.iadr 6 t0 t4 fun t18 =>
  p.load true 6 t18 H fun t19 =>
  p.call 77 (.fn 64 [] []) [t19] H fun t20 H =>
  p.iadr 6 t3 t4 fun t21 =>
  p.store 6 t21 t20 H fun H =>
  p.bin .add t4 (.sc (.int .i64 1)) fun t13 =>
  f56_L0 p n  k m0 [(0, t0), (1, t1), (2, t2), (3, t3), (4, t13), (5, t5), (6, t6), (7, t7), (8, t4), (9, t0), (10, t10), (11, t11), (12, t4), (13, t13), (14, t3), (15, t4), (16, t0), (17, t4), (18, t18), (19, t19), (20, t20), (21, t21), (22, t22)] H)
  (k t3 H) := by kernel_rfl
theorem f56_l0_eq (p : Pr β) (n : Nat)  (k : AV → Heap → Option β)   (m0 : Nat) : ∀ (t0 t1 t2 t3 t4 t5 t6 t7 t8 t9 t10 t11 t12 t13 t14 t15 t16 t17 t18 t19 t20 t21 t22 : AV) (H : Heap), f56_L0 p n  k m0 [(0, t0), (1, t1), (2, t2), (3, t3), (4, t4), (5, t5), (6, t6), (7, t7), (8, t8), (9, t9), (10, t10), (11, t11), (12, t12), (13, t13), (14, t14), (15, t15), (16, t16), (17, t17), (18, t18), (19, t19), (20, t20), (21, t21), (22, t22)] H = f56_l0 p n  k m0 t0 t3 t4 H := by
  induction m0 with
  | zero => intros; rfl
  | succ m0 ih =>
    intro t0 t1 t2 t3 t4 t5 t6 t7 t8 t9 t10 t11 t12 t13 t14 t15 t16 t17 t18 t19 t20 t21 t22 H
    rw [f56_L0_step]
    simp only [ih]
    rfl
theorem f56_raw (p : Pr β) (n : Nat) (a0 : AV) (H : Heap) (k : AV → Heap → Option β) : evalBody ti0 p n ⟨c56, 23, Go.Proofs.Try.f56.results.toList, o56⟩ [a0] H k =
  p.len a0 fun t6 =>
  p.make 6 72 [(.sc (.int .i64 0)), (.sc (.string ⟨#[]⟩)), .nl, (.sc (.int .i64 0)), (.sc (.bool false)), (.sc (.int .i64 0))] t6 t6 H fun t7 H =>
  f56_L0 p n  k n [(0, a0), (1, (.sc undef)), (2, .nl), (3, t7), (4, (.sc (.int .i64 0))), (5, a0), (6, t6), (7, t7), (8, (.sc undef)), (9, (.sc undef)), (10, (.sc undef)), (11, (.sc undef)), (12, (.sc undef)), (13, (.sc undef)), (14, (.sc undef)), (15, (.sc undef)), (16, (.sc undef)), (17, (.sc undef)), (18, (.sc undef)), (19, (.sc undef)), (20, (.sc undef)), (21, (.sc undef)), (22, (.sc undef))] H := by kernel_rfl
theorem f56_body (p : Pr β) (n : Nat) (a0 : AV) (H : Heap) (k : AV → Heap → Option β) : evalBody ti0 p n ⟨c56, 23, Go.Proofs.Try.f56.results.toList, o56⟩ [a0] H k = f56 p n a0 H k := by
  rw [f56_raw]
  simp only [f56_l0_eq]
  rfl

/-! 57 loop.example/g00480/laws.toMsgS -/
noncomputable def f57_l0 (p : Pr β) (n : Nat)  (k : AV → Heap → Option β) : Nat → AV → AV → AV → Heap → Option β
  | 0, _, _, _, _ => none
  | m + 1, t0, t3, t4, H => p.len t0 fun t10 =>
      p.bin .lss t4 t10 fun t11 =>
      p.cond t11
      (p.iadr 4 t0 t4 fun t18 =>
      p.load true 4 t18 H fun t19 =>
      p.call 75 (.fn 65 [] []) [t19] H fun t20 H =>
      p.iadr 4 t3 t4 fun t21 =>
      p.store 4 t21 t20 H fun H =>
      p.bin .add t4 (.sc (.int .i64 1)) fun t13 =>
      f57_l0 p n  k m t0 t3 t13 H)
      (k t3 H)
noncomputable def f57 (p : Pr β) (n : Nat) (a0 : AV) (H : Heap) (k : AV → Heap → Option β) : Option β :=
  p.len a0 fun t6 =>
  p.make 4 56 [(.sc (.string ⟨#[]⟩)), .nl, (.sc (.int .i64 0)), (.sc (.bool false))] t6 t6 H fun t7 H =>
  f57_l0 p n  k n a0 t7 (.sc (.int .i64 0)) H
noncomputable def f57_L0 (p : Pr β) (n : Nat)  (k : AV → Heap → Option β) (m : Nat) (tm : Tm) (H : Heap) : Option β :=
  iterC 23 (fun tm H k => evalCode ti0 p o57 23 n (cd c57 [1, 1, 0, 1, 0, 0]) tm H k) (blkK 0 (seqK (fun tm H => evalCode ti0 p o57 23 n (cd c57 [1, 1, 1]) tm H (endK ti0 p Go.Proofs.Try.f57.results.toList k)) (endK ti0 p Go.Proofs.Try.f57.results.toList k))) m tm H
theorem f57_L0_step (p : Pr β) (n : Nat)  (k : AV → Heap → Option β) (m0 : Nat) (t0 t1 t2 t3 t4 t5 t6 t7 t8 t9 t10 t11 t12 t13 t14 t15 t16 t17 t18 t19 t20 t21 t22 : AV) (H : Heap) : f57_L0 p n  k (m0 + 1) [(0, t0), (1, t1), (2, t2), (3, t3), (4, t4), (5, t5), (6, t6), (7, t7), (8, t8), (9, t9), (10, t10), (11, t11), (12, t12), (13, t13), (14, t14), (15, t15), (16, t16), (17, t17), (18, t18), (19, t19), (20, t20), (21, t21), (22, t22)] H =
  p.len t0 fun t10 =>
  p.bin .lss t4 t10 fun t11 =>
  p.cond t11
  (p.iadr 4 t0 t4 fun t18 =>
  p.load true 4 t18 H fun t19 =>
  p.call 75 (.fn 65 [] []) [t19] H fun t20 H =>
  p.iadr 4 t3 t4 fun t21 =>
  p.store 4 t21 t20 H fun H =>
  p.bin .add t4 (.sc (.int .i64 1)) fun t13 =>
  f57_L0 p n  k m0 [(0, t0), (1, t1), (2, t2), (3, t3), (4, t13), (5, t5), (6, t6), (7, t7), (8, t4), (9, t0), (10, t10), (11, t11), (12, t4), (13, t13), (14, t3), (15, t4), (16, t0), (17, t4), (18, t18), (19, t19), (20, t20), (21, t21), (22, t22)] H)
  (k t3 H) := by kernel_rfl
theorem f57_l0_eq (p : Pr β) (n : Nat)  (k : AV → Heap → Option β)   (m0 : Nat) : ∀ (t0 t1 t2 t3 t4 t5 t6 t7 t8 t9 t10 t11 t12 t13 t14 t15 t16 t17 t18 t19 t20 t21 t22 : AV) (H : Heap), f57_L0 p n  k m0 [(0, t0), (1, t1), (2, t2), (3, t3), (4, t4), (5, t5), (6, t6), (7, t7), (8, t8), (9, t9), (10, t10), (11, t11), (12, t12), (13, t13), (14, t14), (15, t15), (16, t16), (17, t17), (18, t18), (19, t19), (20, t20), (21, t21), (22, t22)] H = f57_l0 p n  k m0 t0 t3 t4 H := by
  induction m0 with
  | zero => intros; rfl
  | succ m0 ih =>
    intro t0 t1 t2 t3 t4 t5 t6 t7 t8 t9 t10 t11 t12 t13 t14 t15 t16 t17 t18 t19 t20 t21 t22 H
    rw [f57_L0_step]
    simp only [ih]
    rfl
theorem f57_raw (p : Pr β) (n : Nat) (a0 : AV) (H : Heap) (k : AV → Heap → Option β) : evalBody ti0 p n ⟨c57, 23, Go.Proofs.Try.f57.results.toList, o57⟩ [a0] H k =
  p.len a0 fun t6 =>
  p.make 4 56 [(.sc (.string ⟨#[]⟩)), .nl, (.sc (.int .i64 0)), (.sc (.bool false))] t6 t6 H fun t7 H =>
  f57_L0 p n  k n [(0, a0), (1, (.sc undef)), (2, .nl), (3, t7), (4, (.sc (.int .i64 0))), (5, a0), (6, t6), (7, t7), (8, (.sc undef)), (9, (.sc undef)), (10, (.sc undef)), (11, (.sc undef)), (12, (.sc undef)), (13, (.sc undef)), (14, (.sc undef)), (15, (.sc undef)), (16, (.sc undef)), (17, (.sc undef)), (18, (.sc undef)), (19, (.sc undef)), (20, (.sc undef)), (21, (.sc undef)), (22, (.sc undef))] H := by kernel_rfl
theorem f57_body (p : Pr β) (n : Nat) (a0 : AV) (H : Heap) (k : AV → Heap → Option β) : evalBody ti0 p n ⟨c57, 23, Go.Proofs.Try.f57.results.toList, o57⟩ [a0] H k = f57 p n a0 H k := by
  rw [f57_raw]
  simp only [f57_l0_eq]
  rfl

/-! 44 loop.example/g00480/laws.toOut -/
noncomputable def f44 (p : Pr β) (n : Nat) (a0 : AV) (H : Heap) (k : AV → Heap → Option β) : Option β :=
  p.box a0 H fun t1 H =>
  p.new [(.sc (.int .i64 0)), .nl, .nl] H fun t2 H =>
  p.new [(.sc (.int .i64 0)), .nl, .nl] H fun t3 H =>
  p.fadr 0 t1 fun t4 =>
  p.load false 1 t4 H fun t5 =>
  p.fadr 0 t3 fun t6 =>
  p.store 1 t6 t5 H fun H =>
  p.fadr 1 t1 fun t7 =>
  p.load false 1 t7 H fun t8 =>
  p.call 43 (.fn 56 [] []) [t8] H fun t9 H =>
  p.fadr 1 t3 fun t10 =>
  p.store 1 t10 t9 H fun H =>
  p.fadr 2 t1 fun t11 =>
  p.load false 1 t11 H fun t12 =>
  p.call 44 (.fn 57 [] []) [t12] H fun t13 H =>
  p.fadr 2 t3 fun t14 =>
  p.store 1 t14 t13 H fun H =>
  p.load true 3 t3 H fun t15 =>
  p.store 3 t2 t15 H fun H =>
  p.load true 3 t2 H fun r0 =>
  k r0 H
theorem f44_body (p : Pr β) (n : Nat) (a0 : AV) (H : Heap) (k : AV → Heap → Option β) : evalBody ti0 p n ⟨c44, 16, Go.Proofs.Try.f44.results.toList, o44⟩ [a0] H k = f44 p n a0 H k := by kernel_rfl

/-! 45 loop.example/g00480/laws.toIntS -/
noncomputable def f45_l0 (p : Pr β) (n : Nat)  (k : AV → Heap → Option β) : Nat → AV → AV → AV → Heap → Option β
  | 0, _, _, _, _ => none
  | m + 1, t0, t3, t4, H => p.len t0 fun t10 =>
      p.bin .lss t4 t10 fun t11 =>
      p.cond t11
      (p.iadr 1 t0 t4 fun t18 =>
      p.load false 1 t18 H fun t19 =>
      p.iadr 1 t3 t4 fun t20 =>
      p.store 1 t20 t19 H fun H =>
      p.bin .add t4 (.sc (.int .i64 1)) fun t13 =>
      f45_l0 p n  k m t0 t3 t13 H)
      (k t3 H)
noncomputable def f45 (p : Pr β) (n : Nat) (a0 : AV) (H : Heap) (k : AV → Heap → Option β) : Option β :=
  p.len a0 fun t6 =>
  p.make 1 8 [(.sc (.int .i64 0))] t6 t6 H fun t7 H =>
  f45_l0 p n  k n a0 t7 (.sc (.int .i64 0)) H
noncomputable def f45_L0 (p : Pr β) (n : Nat)  (k : AV → Heap → Option β) (m : Nat) (tm : Tm) (H : Heap) : Option β :=
  iterC 22 (fun tm H k => evalCode ti0 p o45 22 n (cd c45 [1, 1, 0, 1, 0, 0]) tm H k) (blkK 0 (seqK (fun tm H => evalCode ti0 p o45 22 n (cd c45 [1, 1, 1]) tm H (endK ti0 p Go.Proofs.Try.f45.results.toList k)) (endK ti0 p Go.Proofs.Try.f45.results.toList k))) m tm H
theorem f45_L0_step (p : Pr β) (n : Nat)  (k : AV → Heap → Option β) (m0 : Nat) (t0 t1 t2 t3 t4 t5 t6 t7 t8 t9 t10 t11 t12 t13 t14 t15 t16 t17 t18 t19 t20 t21 : AV) (H : Heap) : f45_L0 p n  k (m0 + 1) [(0, t0), (1, t1), (2, t2), (3, t3), (4, t4), (5, t5), (6, t6), (7, t7), (8, t8), (9, t9), (10, t10), (11, t11), (12, t12), (13, t13), (14, t14), (15, t15), (16, t16), (17, t17), (18, t18), (19, t19), (20, t20), (21, t21)] H =
  p.len t0 fun t10 =>
  p.bin .lss t4 t10 fun t11 =>
  p.cond t11
  (p.iadr 1 t0 t4 fun t18 =>
  p.load false 1 t18 H fun t19 =>
  p.iadr 1 t3 t4 fun t20 =>
  p.store 1 t20 t19 H fun H =>
  p.bin .add t4 (.sc (.int .i64 1)) fun t13 =>
  f45_L0 p n  k m0 [(0, t0), (1, t1), (2, t2), (3, t3), (4, t13), (5, t5), (6, t6), (7, t7), (8, t4), (9, t0), (10, t10), (11, t11), (12, t4), (13, t13), (14, t3), (15, t4), (16, t0), (17, t4), (18, t18), (19, t19), (20, t20), (21, t21)] H)
  (k t3 H) := by kernel_rfl
theorem f45_l0_eq (p : Pr β) (n : Nat)  (k : AV → Heap → Option β)   (m0 : Nat) : ∀ (t0 t1 t2 t3 t4 t5 t6 t7 t8 t9 t10 t11 t12 t13 t14 t15 t16 t17 t18 t19 t20 t21 : AV) (H : Heap), f45_L0 p n  k m0 [(0, t0), (1, t1), (2, t2), (3, t3), (4, t4), (5, t5), (6, t6), (7, t7), (8, t8), (9, t9), (10, t10), (11, t11), (12, t12), (13, t13), (14, t14), (15, t15), (16, t16), (17, t17), (18, t18), (19, t19), (20, t20), (21, t21)] H = f45_l0 p n  k m0 t0 t3 t4 H := by
  induction m0 with
  | zero => intros; rfl
  | succ m0 ih =>
    intro t0 t1 t2 t3 t4 t5 t6 t7 t8 t9 t10 t11 t12 t13 t14 t15 t16 t17 t18 t19 t20 t21 H
    rw [f45_L0_step]
    simp only [ih]
    rfl
theorem f45_raw (p : Pr β) (n : Nat) (a0 : AV) (H : Heap) (k : AV → Heap → Option β) : evalBody ti0 p n ⟨c45, 22, Go.Proofs.Try.f45.results.toList, o45⟩ [a0] H k =
  p.len a0 fun t6 =>
  p.make 1 8 [(.sc (.int .i64 0))] t6 t6 H fun t7 H =>
  f45_L0 p n  k n [(0, a0), (1, (.sc undef)), (2, .nl), (3, t7), (4, (.sc (.int .i64 0))), (5, a0), (6, t6), (7, t7), (8, (.sc undef)), (9, (.sc undef)), (10, (.sc undef)), (11, (.sc undef)), (12, (.sc undef)), (13, (.sc undef)), (14, (.sc undef)), (15, (.sc undef)), (16, (.sc undef)), (17, (.sc undef)), (18, (.sc undef)), (19, (.sc undef)), (20, (.sc undef)), (21, (.sc undef))] H := by kernel_rfl
theorem f45_body (p : Pr β) (n : Nat) (a0 : AV) (H : Heap) (k : AV → Heap → Option β) : evalBody ti0 p n ⟨c45, 22, Go.Proofs.Try.f45.results.toList, o45⟩ [a0] H k = f45 p n a0 H k := by
  rw [f45_raw]
  simp only [f45_l0_eq]
  rfl

/-! 30 loop.example/g00480/laws.toSess -/
noncomputable def f30 (p : Pr β) (n : Nat) (a0 : AV) (H : Heap) (k : AV → Heap → Option β) : Option β :=
  p.box a0 H fun t1 H =>
  p.new [(.sc (.string ⟨#[]⟩)), (.sc (.int .i64 0)), (.sc (.bool false)), (.sc (.int .i64 0)), (.sc (.int .i64 0)), (.sc (.int .i64 0)), .nl, .nl, .nl] H fun t2 H =>
  p.new [(.sc (.string ⟨#[]⟩)), (.sc (.int .i64 0)), (.sc (.bool false)), (.sc (.int .i64 0)), (.sc (.int .i64 0)), (.sc (.int .i64 0)), .nl, .nl, .nl] H fun t3 H =>
  p.fadr 0 t1 fun t4 =>
  p.load false 1 t4 H fun t5 =>
  p.fadr 0 t3 fun t6 =>
  p.store 1 t6 t5 H fun H =>
  p.fadr 1 t1 fun t7 =>
  p.load false 1 t7 H fun t8 =>
  p.fadr 1 t3 fun t9 =>
  p.store 1 t9 t8 H fun H =>
  p.fadr 2 t1 fun t10 =>
  p.load false 1 t10 H fun t11 =>
  p.fadr 2 t3 fun t12 =>
  p.store 1 t12 t11 H fun H =>
  p.fadr 3 t1 fun t13 =>
  p.load false 1 t13 H fun t14 =>
  p.fadr 3 t3 fun t15 =>
  p.store 1 t15 t14 H fun H =>
  p.fadr 4 t1 fun t16 =>
  p.load false 1 t16 H fun t17 =>
  p.fadr 4 t3 fun t18 =>
  p.store 1 t18 t17 H fun H =>
  p.fadr 5 t1 fun t19 =>
  p.load true 3 t19 H fun t20 =>
  p.call 46 (.fn 44 [] []) [t20] H fun t21 H =>
  p.fadr 5 t3 fun t22 =>
  p.store 3 t22 t21 H fun H =>
  p.fadr 8 t1 fun t23 =>
  p.load false 1 t23 H fun t24 =>
  p.call 47 (.fn 45 [] []) [t24] H fun t25 H =>
  p.fadr 8 t3 fun t26 =>
  p.store 1 t26 t25 H fun H =>
  p.load true 9 t3 H fun t27 =>
  p.store 9 t2 t27 H fun H =>
  p.load true 9 t2 H fun r0 =>
  k r0 H
theorem f30_body (p : Pr β) (n : Nat) (a0 : AV) (H : Heap) (k : AV → Heap → Option β) : evalBody ti0 p n ⟨c30, 28, Go.Proofs.Try.f30.results.toList, o30⟩ [a0] H k = f30 p n a0 H k := by kernel_rfl

/-! 20 loop.example/g00480/laws.toSessS -/
noncomputable def f20_l0 (p : Pr β) (n : Nat)  (k : AV → Heap → Option β) : Nat → AV → AV → AV → Heap → Option β
  | 0, _, _, _, _ => none
  | m + 1, t0, t3, t4, H => p.len t0 fun t10 =>
      p.bin .lss t4 t10 fun t11 =>
      p.cond t11
      (p.iadr 9 t0 t4 fun t18 =>
      p.load true 9 t18 H fun t19 =>
      p.call 49 (.fn 30 [] []) [t19] H fun t20 H =>
      p.iadr 9 t3 t4 fun t21 =>
      p.store 9 t21 t20 H fun H =>
      p.bin .add t4 (.sc (.int .i64 1)) fun t13 =>
      f20_l0 p n  k m t0 t3 t13 H)
      (k t3 H)
noncomputable def f20 (p : Pr β) (n : Nat) (a0 : AV) (H : Heap) (k : AV → Heap → Option β) : Option β :=
  p.len a0 fun t6 =>
  p.make 9 128 [(.sc (.string ⟨#[]⟩)), (.sc (.int .i64 0)), (.sc (.bool false)), (.sc (.int .i64 0)), (.sc (.int .i64 0)), (.sc (.int .i64 0)), .nl, .nl, .nl] t6 t6 H fun t7 H =>
  f20_l0 p n  k n a0 t7 (.sc (.int .i64 0)) H
noncomputable def f20_L0 (p : Pr β) (n : Nat)  (k : AV → Heap → Option β) (m : Nat) (tm : Tm) (H : Heap) : Option β :=
  iterC 23 (fun tm H k => evalCode ti0 p o20 23 n (cd c20 [1, 1, 0, 1, 0, 0]) tm H k) (blkK 0 (seqK (fun tm H => evalCode ti0 p o20 23 n (cd c20 [1, 1, 1]) tm H (endK ti0 p Go.Proofs.Try.f20.results.toList k)) (endK ti0 p Go.Proofs.Try.f20.results.toList k))) m tm H
theorem f20_L0_step (p : Pr β) (n : Nat)  (k : AV → Heap → Option β) (m0 : Nat) (t0 t1 t2 t3 t4 t5 t6 t7 t8 t9 t10 t11 t12 t13 t14 t15 t16 t17 t18 t19 t20 t21 t22 : AV) (H : Heap) : f20_L0 p n  k (m0 + 1) [(0, t0), (1, t1), (2, t2), (3, t3), (4, t4), (5, t5), (6, t6), (7, t7), (8, t8), (9, t9), (10, t10), (11, t11), (12, t12), (13, t13), (14, t14), (15, t15), (16, t16), (17, t17), (18, t18), (19, t19), (20, t20), (21, t21), (22, t22)] H =
  p.len t0 fun t10 =>
  p.bin .lss t4 t10 fun t11 =>
  p.cond t11
  (p.iadr 9 t0 t4 fun t18 =>
  p.load true 9 t18 H fun t19 =>
  p.call 49 (.fn 30 [] []) [t19] H fun t20 H =>
  p.iadr 9 t3 t4 fun t21 =>
  p.store 9 t21 t20 H fun H =>
  p.bin .add t4 (.sc (.int .i64 1)) fun t13 =>
  f20_L0 p n  k m0 [(0, t0), (1, t1), (2, t2), (3, t3), (4, t13), (5, t5), (6, t6), (7, t7), (8, t4), (9, t0), (10, t10), (11, t11), (12, t4), (13, t13), (14, t3), (15, t4), (16, t0), (17, t4), (18, t18), (19, t19), (20, t20), (21, t21), (22, t22)] H)
  (k t3 H) := by kernel_rfl
theorem f20_l0_eq (p : Pr β) (n : Nat)  (k : AV → Heap → Option β)   (m0 : Nat) : ∀ (t0 t1 t2 t3 t4 t5 t6 t7 t8 t9 t10 t11 t12 t13 t14 t15 t16 t17 t18 t19 t20 t21 t22 : AV) (H : Heap), f20_L0 p n  k m0 [(0, t0), (1, t1), (2, t2), (3, t3), (4, t4), (5, t5), (6, t6), (7, t7), (8, t8), (9, t9), (10, t10), (11, t11), (12, t12), (13, t13), (14, t14), (15, t15), (16, t16), (17, t17), (18, t18), (19, t19), (20, t20), (21, t21), (22, t22)] H = f20_l0 p n  k m0 t0 t3 t4 H := by
  induction m0 with
  | zero => intros; rfl
  | succ m0 ih =>
    intro t0 t1 t2 t3 t4 t5 t6 t7 t8 t9 t10 t11 t12 t13 t14 t15 t16 t17 t18 t19 t20 t21 t22 H
    rw [f20_L0_step]
    simp only [ih]
    rfl
theorem f20_raw (p : Pr β) (n : Nat) (a0 : AV) (H : Heap) (k : AV → Heap → Option β) : evalBody ti0 p n ⟨c20, 23, Go.Proofs.Try.f20.results.toList, o20⟩ [a0] H k =
  p.len a0 fun t6 =>
  p.make 9 128 [(.sc (.string ⟨#[]⟩)), (.sc (.int .i64 0)), (.sc (.bool false)), (.sc (.int .i64 0)), (.sc (.int .i64 0)), (.sc (.int .i64 0)), .nl, .nl, .nl] t6 t6 H fun t7 H =>
  f20_L0 p n  k n [(0, a0), (1, (.sc undef)), (2, .nl), (3, t7), (4, (.sc (.int .i64 0))), (5, a0), (6, t6), (7, t7), (8, (.sc undef)), (9, (.sc undef)), (10, (.sc undef)), (11, (.sc undef)), (12, (.sc undef)), (13, (.sc undef)), (14, (.sc undef)), (15, (.sc undef)), (16, (.sc undef)), (17, (.sc undef)), (18, (.sc undef)), (19, (.sc undef)), (20, (.sc undef)), (21, (.sc undef)), (22, (.sc undef))] H := by kernel_rfl
theorem f20_body (p : Pr β) (n : Nat) (a0 : AV) (H : Heap) (k : AV → Heap → Option β) : evalBody ti0 p n ⟨c20, 23, Go.Proofs.Try.f20.results.toList, o20⟩ [a0] H k = f20 p n a0 H k := by
  rw [f20_raw]
  simp only [f20_l0_eq]
  rfl

/-! 8 loop.example/g00480/laws.toStripe -/
noncomputable def f8 (p : Pr β) (n : Nat) (a0 : AV) (H : Heap) (k : AV → Heap → Option β) : Option β :=
  p.box a0 H fun t1 H =>
  p.new [(.sc (.int .i64 0)), .nl] H fun t2 H =>
  p.new [(.sc (.int .i64 0)), .nl] H fun t3 H =>
  p.fadr 0 t1 fun t4 =>
  p.load false 1 t4 H fun t5 =>
  p.fadr 0 t3 fun t6 =>
  p.store 1 t6 t5 H fun H =>
  p.fadr 1 t1 fun t7 =>
  p.load false 1 t7 H fun t8 =>
  p.call 26 (.fn 20 [] []) [t8] H fun t9 H =>
  p.fadr 1 t3 fun t10 =>
  p.store 1 t10 t9 H fun H =>
  p.load true 2 t3 H fun t11 =>
  p.store 2 t2 t11 H fun H =>
  p.load true 2 t2 H fun r0 =>
  k r0 H
theorem f8_body (p : Pr β) (n : Nat) (a0 : AV) (H : Heap) (k : AV → Heap → Option β) : evalBody ti0 p n ⟨c8, 12, Go.Proofs.Try.f8.results.toList, o8⟩ [a0] H k = f8 p n a0 H k := by kernel_rfl

/-! 53 loop.example/g00480/spec.l12Msg -/
noncomputable def f53 (p : Pr β) (n : Nat) (a0 : AV) (H : Heap) (k : AV → Heap → Option β) : Option β :=
  p.box a0 H fun t1 H =>
  p.new [(.sc (.string ⟨#[]⟩)), .nl, (.sc (.int .i64 0)), (.sc (.bool false))] H fun t2 H =>
  p.fadr 0 t1 fun t3 =>
  p.load false 1 t3 H fun t4 =>
  p.fadr 1 t1 fun t6 =>
  p.load false 1 t6 H fun t7 =>
  p.fadr 2 t1 fun t9 =>
  p.load false 1 t9 H fun t10 =>
  p.fadr 3 t1 fun t11 =>
  p.load false 1 t11 H fun t12 =>
  p.app 1 1 .nl t7 H fun t8 H =>
  p.fill [(.sc (.string ⟨#[]⟩)), .nl, (.sc (.int .i64 0)), (.sc (.bool false))] [(0, 1, t4), (1, 1, t8), (2, 1, t10), (3, 1, t12)] fun ct13 =>
  p.store 4 t2 (.agg ct13) H fun H =>
  p.load true 4 t2 H fun r0 =>
  k r0 H
theorem f53_body (p : Pr β) (n : Nat) (a0 : AV) (H : Heap) (k : AV → Heap → Option β) : evalBody ti0 p n ⟨c53, 14, Go.Proofs.Try.f53.results.toList, o53⟩ [a0] H k = f53 p n a0 H k := by kernel_rfl

/-! 52 loop.example/g00480/spec.l12Copy -/
noncomputable def f52_l0 (p : Pr β) (n : Nat)  (k : AV → Heap → Option β) : Nat → AV → AV → AV → Heap → Option β
  | 0, _, _, _, _ => none
  | m + 1, t0, t3, t4, H => p.len t0 fun t8 =>
      p.bin .lss t4 t8 fun t9 =>
      p.cond t9
      (p.iadr 4 t0 t4 fun t15 =>
      p.load true 4 t15 H fun t16 =>
      p.call 75 (.fn 53 [] []) [t16] H fun t17 H =>
      p.fill [(.sc (.string ⟨#[]⟩)), .nl, (.sc (.int .i64 0)), (.sc (.bool false))] [(0, 4, t17)] fun ct18 => p.newSl 1 4 ct18 true H fun t18 H =>
      p.app 4 56 t3 t18 H fun t19 H =>
      p.bin .add t4 (.sc (.int .i64 1)) fun t11 =>
      f52_l0 p n  k m t0 t19 t11 H)
      (k t3 H)
noncomputable def f52 (p : Pr β) (n : Nat) (a0 : AV) (H : Heap) (k : AV → Heap → Option β) : Option β :=
  f52_l0 p n  k n a0 .nl (.sc (.int .i64 0)) H
noncomputable def f52_L0 (p : Pr β) (n : Nat)  (k : AV → Heap → Option β) (m : Nat) (tm : Tm) (H : Heap) : Option β :=
  iterC 21 (fun tm H k => evalCode ti0 p o52 21 n (cd c52 [1, 1, 0, 1, 0, 0]) tm H k) (blkK 0 (seqK (fun tm H => evalCode ti0 p o52 21 n (cd c52 [1, 1, 1]) tm H (endK ti0 p Go.Proofs.Try.f52.results.toList k)) (endK ti0 p Go.Proofs.Try.f52.results.toList k))) m tm H
theorem f52_L0_step (p : Pr β) (n : Nat)  (k : AV → Heap → Option β) (m0 : Nat) (t0 t1 t2 t3 t4 t5 t6 t7 t8 t9 t10 t11 t12 t13 t14 t15 t16 t17 t18 t19 t20 : AV) (H : Heap) : f52_L0 p n  k (m0 + 1) [(0, t0), (1, t1), (2, t2), (3, t3), (4, t4), (5, t5), (6, t6), (7, t7), (8, t8), (9, t9), (10, t10), (11, t11), (12, t12), (13, t13), (14, t14), (15, t15), (16, t16), (17, t17), (18, t18), (19, t19), (20, t20)] H =
  p.len t0 fun t8 =>
  p.bin .lss t4 t8 fun t9 =>
  p.cond t9
  (p.iadr 4 t0 t4 fun t15 =>
  p.load true 4 t15 H fun t16 =>
  p.call 75 (.fn 53 [] []) [t16] H fun t17 H =>
  p.fill [(.sc (.string ⟨#[]⟩)), .nl, (.sc (.int .i64 0)), (.sc (.bool false))] [(0, 4, t17)] fun ct18 => p.newSl 1 4 ct18 true H fun t18 H =>
  p.app 4 56 t3 t18 H fun t19 H =>
  p.bin .add t4 (.sc (.int .i64 1)) fun t11 =>
  f52_L0 p n  k m0 [(0, t0), (1, t1), (2, t2), (3, t19), (4, t11), (5, t5), (6, t4), (7, t0), (8, t8), (9, t9), (10, t4), (11, t11), (12, t3), (13, t0), (14, t4), (15, t15), (16, t16), (17, t17), (18, t18), (19, t19), (20, t20)] H)
  (k t3 H) := by kernel_rfl
theorem f52_l0_eq (p : Pr β) (n : Nat)  (k : AV → Heap → Option β)   (m0 : Nat) : ∀ (t0 t1 t2 t3 t4 t5 t6 t7 t8 t9 t10 t11 t12 t13 t14 t15 t16 t17 t18 t19 t20 : AV) (H : Heap), f52_L0 p n  k m0 [(0, t0), (1, t1), (2, t2), (3, t3), (4, t4), (5, t5), (6, t6), (7, t7), (8, t8), (9, t9), (10, t10), (11, t11), (12, t12), (13, t13), (14, t14), (15, t15), (16, t16), (17, t17), (18, t18), (19, t19), (20, t20)] H = f52_l0 p n  k m0 t0 t3 t4 H := by
  induction m0 with
  | zero => intros; rfl
  | succ m0 ih =>
    intro t0 t1 t2 t3 t4 t5 t6 t7 t8 t9 t10 t11 t12 t13 t14 t15 t16 t17 t18 t19 t20 H
    rw [f52_L0_step]
    simp only [ih]
    rfl
theorem f52_raw (p : Pr β) (n : Nat) (a0 : AV) (H : Heap) (k : AV → Heap → Option β) : evalBody ti0 p n ⟨c52, 21, Go.Proofs.Try.f52.results.toList, o52⟩ [a0] H k =
  f52_L0 p n  k n [(0, a0), (1, (.sc undef)), (2, .nl), (3, .nl), (4, (.sc (.int .i64 0))), (5, .nl), (6, (.sc undef)), (7, (.sc undef)), (8, (.sc undef)), (9, (.sc undef)), (10, (.sc undef)), (11, (.sc undef)), (12, (.sc undef)), (13, (.sc undef)), (14, (.sc undef)), (15, (.sc undef)), (16, (.sc undef)), (17, (.sc undef)), (18, (.sc undef)), (19, (.sc undef)), (20, (.sc undef))] H := by kernel_rfl
theorem f52_body (p : Pr β) (n : Nat) (a0 : AV) (H : Heap) (k : AV → Heap → Option β) : evalBody ti0 p n ⟨c52, 21, Go.Proofs.Try.f52.results.toList, o52⟩ [a0] H k = f52 p n a0 H k := by
  rw [f52_raw]
  simp only [f52_l0_eq]
  rfl

/-! 40 loop.example/g00480/spec.l13Copy -/
noncomputable def f40_l0 (p : Pr β) (n : Nat)  (k : AV → Heap → Option β) : Nat → AV → AV → AV → AV → Heap → Option β
  | 0, _, _, _, _, _ => none
  | m + 1, t1, t2, t3, t4, H => p.fadr 1 t1 fun t12 =>
      p.load false 1 t12 H fun t13 =>
      p.len t13 fun t14 =>
      p.bin .lss t4 t14 fun t15 =>
      p.cond t15
      (p.fadr 1 t3 fun t18 =>
      p.load false 1 t18 H fun t19 =>
      p.fadr 1 t1 fun t20 =>
      p.load false 1 t20 H fun t21 =>
      p.iadr 6 t21 t4 fun t23 =>
      p.fadr 0 t23 fun t24 =>
      p.load false 1 t24 H fun t25 =>
      p.fadr 1 t1 fun t26 =>
      p.load false 1 t26 H fun t27 =>
      p.iadr 6 t27 t4 fun t29 =>
      p.fadr 1 t29 fun t30 =>
      p.load true 4 t30 H fun t31 =>
      p.fadr 1 t1 fun t33 =>
      p.load false 1 t33 H fun t34 =>
      p.iadr 6 t34 t4 fun t36 =>
      p.fadr 5 t36 fun t37 =>
      p.load false 1 t37 H fun t38 =>
      p.call 75 (.fn 53 [] []) [t31] H fun t32 H =>
      p.fill [(.sc (.int .i64 0)), (.sc (.string ⟨#[]⟩)), .nl, (.sc (.int .i64 0)), (.sc (.bool false)), (.sc (.int .i64 0))] [(0, 1, t25), (1, 4, t32), (5, 1, t38)] fun ct39 =>
      p.fill [(.sc (.int .i64 0)), (.sc (.string ⟨#[]⟩)), .nl, (.sc (.int .i64 0)), (.sc (.bool false)), (.sc (.int .i64 0))] [(0, 6, (.agg ct39))] fun ct40 => p.newSl 1 6 ct40 true H fun t40 H =>
      p.app 6 72 t19 t40 H fun t41 H =>
      p.fadr 1 t3 fun t42 =>
      p.store 1 t42 t41 H fun H =>
      p.bin .add t4 (.sc (.int .i64 1)) fun t17 =>
      f40_l0 p n  k m t1 t2 t3 t17 H)
      (p.load true 3 t3 H fun t43 =>
      p.store 3 t2 t43 H fun H =>
      p.load true 3 t2 H fun r0 =>
      k r0 H)
noncomputable def f40 (p : Pr β) (n : Nat) (a0 : AV) (H : Heap) (k : AV → Heap → Option β) : Option β :=
  p.box a0 H fun t1 H =>
  p.new [(.sc (.int .i64 0)), .nl, .nl] H fun t2 H =>
  p.fadr 0 t1 fun t5 =>
  p.load false 1 t5 H fun t6 =>
  p.fadr 2 t1 fun t7 =>
  p.load false 1 t7 H fun t8 =>
  p.both
  (p.call 44 (.fn 52 [] []) [t8] H fun t9 H =>
  p.fill [(.sc (.int .i64 0)), .nl, .nl] [(0, 1, t6), (2, 1, t9)] fun ct10 =>
  p.new [(.sc (.int .i64 0)), .nl, .nl] H fun t3 H =>
  p.store 3 t3 (.agg ct10) H fun H =>
  f40_l0 p n  k n t1 t2 t3 (.sc (.int .i64 0)) H)
  (p.new [(.sc (.int .i64 0)), .nl, .nl] H fun t3 H =>
  p.call 44 (.fn 52 [] []) [t8] H fun t9 H =>
  p.fill [(.sc (.int .i64 0)), .nl, .nl] [(0, 1, t6), (2, 1, t9)] fun ct10 =>
  p.store 3 t3 (.agg ct10) H fun H =>
  f40_l0 p n  k n t1 t2 t3 (.sc (.int .i64 0)) H)
noncomputable def f40_L0 (p : Pr β) (n : Nat)  (k : AV → Heap → Option β) (m : Nat) (tm : Tm) (H : Heap) : Option β :=
  iterC 44 (fun tm H k => evalCode ti0 p o40 44 n (cd c40 [1, 1, 0, 1, 0, 0]) tm H k) (blkK 0 (seqK (fun tm H => evalCode ti0 p o40 44 n (cd c40 [1, 1, 1]) tm H (endK ti0 p Go.Proofs.Try.f40.results.toList k)) (endK ti0 p Go.Proofs.Try.f40.results.toList k))) m tm H
theorem f40_L0_step (p : Pr β) (n : Nat)  (k : AV → Heap → Option β) (m0 : Nat) (t0 t1 t2 t3 t4 t5 t6 t7 t8 t9 t10 t11 t12 t13 t14 t15 t16 t17 t18 t19 t20 t21 t22 t23 t24 t25 t26 t27 t28 t29 t30 t31 t32 t33 t34 t35 t36 t37 t38 t39 t40 t41 t42 t43 : AV) (H : Heap) : f40_L0 p n  k (m0 + 1) [(0, t0), (1, t1), (2, t2), (3, t3), (4, t4), (5, t5), (6, t6), (7, t7), (8, t8), (9, t9), (10, t10), (11, t11), (12, t12), (13, t13), (14, t14), (15, t15), (16, t16), (17, t17), (18, t18), (19, t19), (20, t20), (21, t21), (22, t22), (23, t23), (24, t24), (25, t25), (26, t26), (27, t27), (28, t28), (29, t29), (30, t30), (31, t31), (32, t32), (33, t33), (34, t34), (35, t35), (36, t36), (37, t37), (38, t38), (39, t39), (40, t40), (41, t41), (42, t42), (43, t43)] H =
  p.fadr 1 t1 fun t12 =>
  p.load false 1 t12 H fun t13 =>
  p.len t13 fun t14 =>
  p.bin .lss t4 t14 fun t15 =>
  p.cond t15
  (p.fadr 1 t3 fun t18 =>
  p.load false 1 t18 H fun t19 =>
  p.fadr 1 t1 fun t20 =>
  p.load false 1 t20 H fun t21 =>
  p.iadr 6 t21 t4 fun t23 =>
  p.fadr 0 t23 fun t24 =>
  p.load false 1 t24 H fun t25 =>
  p.fadr 1 t1 fun t26 =>
  p.load false 1 t26 H fun t27 =>
  p.iadr 6 t27 t4 fun t29 =>
  p.fadr 1 t29 fun t30 =>
  p.load true 4 t30 H fun t31 =>
  p.fadr 1 t1 fun t33 =>
  p.load false 1 t33 H fun t34 =>
  p.iadr 6 t34 t4 fun t36 =>
  p.fadr 5 t36 fun t37 =>
  p.load false 1 t37 H fun t38 =>
  p.call 75 (.fn 53 [] []) [t31] H fun t32 H =>
  p.fill [(.sc (.int .i64 0)), (.sc (.string ⟨#[]⟩)), .nl, (.sc (.int .i64 0)), (.sc (.bool false)), (.sc (.int .i64 0))] [(0, 1, t25), (1, 4, t32), (5, 1, t38)] fun ct39 =>
  p.fill [(.sc (.int .i64 0)), (.sc (.string ⟨#[]⟩)), .nl, (.sc (.int .i64 0)), (.sc (.bool false)), (.sc (.int .i64 0))] [(0, 6, (.agg ct39))] fun ct40 => p.newSl 1 6 ct40 true H fun t40 H =>
  p.app 6 72 t19 t40 H fun t41 H =>
  p.fadr 1 t3 fun t42 =>
  p.store 1 t42 t41 H fun H =>
  p.bin .add t4 (.sc (.int .i64 1)) fun t17 =>
  f40_L0 p n  k m0 [(0, t0), (1, t1), (2, t2), (3, t3), (4, t17), (5, t5), (6, t6), (7, t7), (8, t8), (9, t9), (10, t10), (11, t4), (12, t12), (13, t13), (14, t14), (15, t15), (16, t4), (17, t17), (18, t18), (19, t19), (20, t20), (21, t21), (22, t4), (23, t23), (24, t24), (25, t25), (26, t26), (27, t27), (28, t4), (29, t29), (30, t30), (31, t31), (32, t32), (33, t33), (34, t34), (35, t4), (36, t36), (37, t37), (38, t38), (39, (.agg ct39)), (40, t40), (41, t41), (42, t42), (43, t43)] H)
  (p.load true 3 t3 H fun t43 =>
  p.store 3 t2 t43 H fun H =>
  p.load true 3 t2 H fun r0 =>
  k r0 H) := by kernel_rfl
theorem f40_l0_eq (p : Pr β) (n : Nat)  (k : AV → Heap → Option β)   (m0 : Nat) : ∀ (t0 t1 t2 t3 t4 t5 t6 t7 t8 t9 t10 t11 t12 t13 t14 t15 t16 t17 t18 t19 t20 t21 t22 t23 t24 t25 t26 t27 t28 t29 t30 t31 t32 t33 t34 t35 t36 t37 t38 t39 t40 t41 t42 t43 : AV) (H : Heap), f40_L0 p n  k m0 [(0, t0), (1, t1), (2, t2), (3, t3), (4, t4), (5, t5), (6, t6), (7, t7), (8, t8), (9, t9), (10, t10), (11, t11), (12, t12), (13, t13), (14, t14), (15, t15), (16, t16), (17, t17), (18, t18), (19, t19), (20, t20), (21, t21), (22, t22), (23, t23), (24, t24), (25, t25), (26, t26), (27, t27), (28, t28), (29, t29), (30, t30), (31, t31), (32, t32), (33, t33), (34, t34), (35, t35), (36, t36), (37, t37), (38, t38), (39, t39), (40, t40), (41, t41), (42, t42), (43, t43)] H = f40_l0 p n  k m0 t1 t2 t3 t4 H := by
  induction m0 with
  | zero => intros; rfl
  | succ m0 ih =>
    intro t0 t1 t2 t3 t4 t5 t6 t7 t8 t9 t10 t11 t12 t13 t14 t15 t16 t17 t18 t19 t20 t21 t22 t23 t24 t25 t26 t27 t28 t29 t30 t31 t32 t33 t34 t35 t36 t37 t38 t39 t40 t41 t42 t43 H
    rw [f40_L0_step]
    simp only [ih]
    rfl
theorem f40_raw (p : Pr β) (n : Nat) (a0 : AV) (H : Heap) (k : AV → Heap → Option β) : evalBody ti0 p n ⟨c40, 44, Go.Proofs.Try.f40.results.toList, o40⟩ [a0] H k =
  p.box a0 H fun t1 H =>
  p.new [(.sc (.int .i64 0)), .nl, .nl] H fun t2 H =>
  p.fadr 0 t1 fun t5 =>
  p.load false 1 t5 H fun t6 =>
  p.fadr 2 t1 fun t7 =>
  p.load false 1 t7 H fun t8 =>
  p.both
  (p.call 44 (.fn 52 [] []) [t8] H fun t9 H =>
  p.fill [(.sc (.int .i64 0)), .nl, .nl] [(0, 1, t6), (2, 1, t9)] fun ct10 =>
  p.new [(.sc (.int .i64 0)), .nl, .nl] H fun t3 H =>
  p.store 3 t3 (.agg ct10) H fun H =>
  f40_L0 p n  k n [(0, a0), (1, t1), (2, t2), (3, t3), (4, (.sc (.int .i64 0))), (5, t5), (6, t6), (7, t7), (8, t8), (9, t9), (10, (.agg ct10)), (11, (.sc undef)), (12, (.sc undef)), (13, (.sc undef)), (14, (.sc undef)), (15, (.sc undef)), (16, (.sc undef)), (17, (.sc undef)), (18, (.sc undef)), (19, (.sc undef)), (20, (.sc undef)), (21, (.sc undef)), (22, (.sc undef)), (23, (.sc undef)), (24, (.sc undef)), (25, (.sc undef)), (26, (.sc undef)), (27, (.sc undef)), (28, (.sc undef)), (29, (.sc undef)), (30, (.sc undef)), (31, (.sc undef)), (32, (.sc undef)), (33, (.sc undef)), (34, (.sc undef)), (35, (.sc undef)), (36, (.sc undef)), (37, (.sc undef)), (38, (.sc undef)), (39, (.sc undef)), (40, (.sc undef)), (41, (.sc undef)), (42, (.sc undef)), (43, (.sc undef))] H)
  (p.new [(.sc (.int .i64 0)), .nl, .nl] H fun t3 H =>
  p.call 44 (.fn 52 [] []) [t8] H fun t9 H =>
  p.fill [(.sc (.int .i64 0)), .nl, .nl] [(0, 1, t6), (2, 1, t9)] fun ct10 =>
  p.store 3 t3 (.agg ct10) H fun H =>
  f40_L0 p n  k n [(0, a0), (1, t1), (2, t2), (3, t3), (4, (.sc (.int .i64 0))), (5, t5), (6, t6), (7, t7), (8, t8), (9, t9), (10, (.agg ct10)), (11, (.sc undef)), (12, (.sc undef)), (13, (.sc undef)), (14, (.sc undef)), (15, (.sc undef)), (16, (.sc undef)), (17, (.sc undef)), (18, (.sc undef)), (19, (.sc undef)), (20, (.sc undef)), (21, (.sc undef)), (22, (.sc undef)), (23, (.sc undef)), (24, (.sc undef)), (25, (.sc undef)), (26, (.sc undef)), (27, (.sc undef)), (28, (.sc undef)), (29, (.sc undef)), (30, (.sc undef)), (31, (.sc undef)), (32, (.sc undef)), (33, (.sc undef)), (34, (.sc undef)), (35, (.sc undef)), (36, (.sc undef)), (37, (.sc undef)), (38, (.sc undef)), (39, (.sc undef)), (40, (.sc undef)), (41, (.sc undef)), (42, (.sc undef)), (43, (.sc undef))] H) := by kernel_rfl
theorem f40_body (p : Pr β) (n : Nat) (a0 : AV) (H : Heap) (k : AV → Heap → Option β) : evalBody ti0 p n ⟨c40, 44, Go.Proofs.Try.f40.results.toList, o40⟩ [a0] H k = f40 p n a0 H k := by
  rw [f40_raw]
  simp only [f40_l0_eq]
  rfl

/-! 26 loop.example/g00480/spec.l15Copy -/
noncomputable def f26 (p : Pr β) (n : Nat) (a0 : AV) (H : Heap) (k : AV → Heap → Option β) : Option β :=
  p.box a0 H fun t1 H =>
  p.new [(.sc (.string ⟨#[]⟩)), (.sc (.int .i64 0)), (.sc (.bool false)), (.sc (.int .i64 0)), (.sc (.int .i64 0)), (.sc (.int .i64 0)), .nl, .nl, .nl] H fun t2 H =>
  p.load true 9 t1 H fun t4 =>
  p.new [(.sc (.string ⟨#[]⟩)), (.sc (.int .i64 0)), (.sc (.bool false)), (.sc (.int .i64 0)), (.sc (.int .i64 0)), (.sc (.int .i64 0)), .nl, .nl, .nl] H fun t3 H =>
  p.store 9 t3 t4 H fun H =>
  p.fadr 5 t1 fun t5 =>
  p.load true 3 t5 H fun t6 =>
  p.call 46 (.fn 40 [] []) [t6] H fun t7 H =>
  p.fadr 5 t3 fun t8 =>
  p.store 3 t8 t7 H fun H =>
  p.fadr 8 t1 fun t10 =>
  p.load false 1 t10 H fun t11 =>
  p.app 1 8 .nl t11 H fun t12 H =>
  p.fadr 8 t3 fun t13 =>
  p.store 1 t13 t12 H fun H =>
  p.load true 9 t3 H fun t14 =>
  p.store 9 t2 t14 H fun H =>
  p.load true 9 t2 H fun r0 =>
  k r0 H
theorem f26_body (p : Pr β) (n : Nat) (a0 : AV) (H : Heap) (k : AV → Heap → Option β) : evalBody ti0 p n ⟨c26, 15, Go.Proofs.Try.f26.results.toList, o26⟩ [a0] H k = f26 p n a0 H k := by kernel_rfl

/-! 15 loop.example/g00480/spec.DropSess -/
noncomputable def f15_l0 (p : Pr β) (n : Nat)  (k : AV → Heap → Option β) : Nat → AV → AV → AV → AV → AV → Heap → Option β
  | 0, _, _, _, _, _, _ => none
  | m + 1, t1, t2, t4, t5, t6, H => p.fadr 1 t2 fun t11 =>
      p.load false 1 t11 H fun t12 =>
      p.len t12 fun t13 =>
      p.bin .lss t6 t13 fun t14 =>
      p.cond t14
      (p.fadr 1 t2 fun t17 =>
      p.load false 1 t17 H fun t18 =>
      p.iadr 9 t18 t6 fun t20 =>
      p.fadr 0 t20 fun t21 =>
      p.load false 1 t21 H fun t22 =>
      p.bin .neq t22 t1 fun t24 =>
      p.cond t24
      (p.fadr 1 t5 fun t25 =>
      p.load false 1 t25 H fun t26 =>
      p.fadr 1 t2 fun t27 =>
      p.load false 1 t27 H fun t28 =>
      p.iadr 9 t28 t6 fun t30 =>
      p.load true 9 t30 H fun t31 =>
      p.call 49 (.fn 26 [] []) [t31] H fun t32 H =>
      p.fill [(.sc (.string ⟨#[]⟩)), (.sc (.int .i64 0)), (.sc (.bool false)), (.sc (.int .i64 0)), (.sc (.int .i64 0)), (.sc (.int .i64 0)), .nl, .nl, .nl] [(0, 9, t32)] fun ct33 => p.newSl 1 9 ct33 true H fun t33 H =>
      p.app 9 128 t26 t33 H fun t34 H =>
      p.fadr 1 t5 fun t35 =>
      p.store 1 t35 t34 H fun H =>
      p.bin .add t6 (.sc (.int .i64 1)) fun t16 =>
      f15_l0 p n  k m t1 t2 t4 t5 t16 H)
      (p.bin .add t6 (.sc (.int .i64 1)) fun t16 =>
      f15_l0 p n  k m t1 t2 t4 t5 t16 H))
      (p.load true 2 t5 H fun t36 =>
      p.store 2 t4 t36 H fun H =>
      p.load true 2 t4 H fun r0 =>
      k r0 H)
noncomputable def f15 (p : Pr β) (n : Nat) (a0 a1 : AV) (H : Heap) (k : AV → Heap → Option β) : Option β :=
  p.box a0 H fun t2 H =>
  p.new [(.sc (.int .i64 0)), .nl] H fun t4 H =>
  p.fadr 0 t2 fun t7 =>
  p.load false 1 t7 H fun t8 =>
  p.fill [(.sc (.int .i64 0)), .nl] [(0, 1, t8)] fun ct9 =>
  p.new [(.sc (.int .i64 0)), .nl] H fun t5 H =>
  p.store 2 t5 (.agg ct9) H fun H =>
  f15_l0 p n  k n a1 t2 t4 t5 (.sc (.int .i64 0)) H
noncomputable def f15_L0 (p : Pr β) (n : Nat)  (k : AV → Heap → Option β) (m : Nat) (tm : Tm) (H : Heap) : Option β :=
  iterC 37 (fun tm H k => evalCode ti0 p o15 37 n (cd c15 [1, 1, 0, 1, 0, 0]) tm H k) (blkK 0 (seqK (fun tm H => evalCode ti0 p o15 37 n (cd c15 [1, 1, 1]) tm H (endK ti0 p Go.Proofs.Try.f15.results.toList k)) (endK ti0 p Go.Proofs.Try.f15.results.toList k))) m tm H
theorem f15_L0_step (p : Pr β) (n : Nat)  (k : AV → Heap → Option β) (m0 : Nat) (t0 t1 t2 t3 t4 t5 t6 t7 t8 t9 t10 t11 t12 t13 t14 t15 t16 t17 t18 t19 t20 t21 t22 t23 t24 t25 t26 t27 t28 t29 t30 t31 t32 t33 t34 t35 t36 : AV) (H : Heap) : f15_L0 p n  k (m0 + 1) [(0, t0), (1, t1), (2, t2), (3, t3), (4, t4), (5, t5), (6, t6), (7, t7), (8, t8), (9, t9), (10, t10), (11, t11), (12, t12), (13, t13), (14, t14), (15, t15), (16, t16), (17, t17), (18, t18), (19, t19), (20, t20), (21, t21), (22, t22), (23, t23), (24, t24), (25, t25), (26, t26), (27, t27), (28, t28), (29, t29), (30, t30), (31, t31), (32, t32), (33, t33), (34, t34), (35, t35), (36, t36)] H =
  p.fadr 1 t2 fun t11 =>
  p.load false 1 t11 H fun t12 =>
  p.len t12 fun t13 =>
  p.bin .lss t6 t13 fun t14 =>
  p.cond t14
  (p.fadr 1 t2 fun t17 =>
  p.load false 1 t17 H fun t18 =>
  p.iadr 9 t18 t6 fun t20 =>
  p.fadr 0 t20 fun t21 =>
  p.load false 1 t21 H fun t22 =>
  p.bin .neq t22 t1 fun t24 =>
  p.cond t24
  (p.fadr 1 t5 fun t25 =>
  p.load false 1 t25 H fun t26 =>
  p.fadr 1 t2 fun t27 =>
  p.load false 1 t27 H fun t28 =>
  p.iadr 9 t28 t6 fun t30 =>
  p.load true 9 t30 H fun t31 =>
  p.call 49 (.fn 26 [] []) [t31] H fun t32 H =>
  p.fill [(.sc (.string ⟨#[]⟩)), (.sc (.int .i64 0)), (.sc (.bool false)), (.sc (.int .i64 0)), (.sc (.int .i64 0)), (.sc (.int .i64 0)), .nl, .nl, .nl] [(0, 9, t32)] fun ct33 => p.newSl 1 9 ct33 true H fun t33 H =>
  p.app 9 128 t26 t33 H fun t34 H =>
  p.fadr 1 t5 fun t35 =>
  p.store 1 t35 t34 H fun H =>
  p.bin .add t6 (.sc (.int .i64 1)) fun t16 =>
  f15_L0 p n  k m0 [(0, t0), (1, t1), (2, t2), (3, t3), (4, t4), (5, t5), (6, t16), (7, t7), (8, t8), (9, t9), (10, t6), (11, t11), (12, t12), (13, t13), (14, t14), (15, t6), (16, t16), (17, t17), (18, t18), (19, t6), (20, t20), (21, t21), (22, t22), (23, t1), (24, t24), (25, t25), (26, t26), (27, t27), (28, t28), (29, t6), (30, t30), (31, t31), (32, t32), (33, t33), (34, t34), (35, t35), (36, t36)] H)
  (p.bin .add t6 (.sc (.int .i64 1)) fun t16 =>
  f15_L0 p n  k m0 [(0, t0), (1, t1), (2, t2), (3, t3), (4, t4), (5, t5), (6, t16), (7, t7), (8, t8), (9, t9), (10, t6), (11, t11), (12, t12), (13, t13), (14, t14), (15, t6), (16, t16), (17, t17), (18, t18), (19, t6), (20, t20), (21, t21), (22, t22), (23, t1), (24, t24), (25, t25), (26, t26), (27, t27), (28, t28), (29, t29), (30, t30), (31, t31), (32, t32), (33, t33), (34, t34), (35, t35), (36, t36)] H))
  (p.load true 2 t5 H fun t36 =>
  p.store 2 t4 t36 H fun H =>
  p.load true 2 t4 H fun r0 =>
  k r0 H) := by kernel_rfl
theorem f15_l0_eq (p : Pr β) (n : Nat)  (k : AV → Heap → Option β)   (m0 : Nat) : ∀ (t0 t1 t2 t3 t4 t5 t6 t7 t8 t9 t10 t11 t12 t13 t14 t15 t16 t17 t18 t19 t20 t21 t22 t23 t24 t25 t26 t27 t28 t29 t30 t31 t32 t33 t34 t35 t36 : AV) (H : Heap), f15_L0 p n  k m0 [(0, t0), (1, t1), (2, t2), (3, t3), (4, t4), (5, t5), (6, t6), (7, t7), (8, t8), (9, t9), (10, t10), (11, t11), (12, t12), (13, t13), (14, t14), (15, t15), (16, t16), (17, t17), (18, t18), (19, t19), (20, t20), (21, t21), (22, t22), (23, t23), (24, t24), (25, t25), (26, t26), (27, t27), (28, t28), (29, t29), (30, t30), (31, t31), (32, t32), (33, t33), (34, t34), (35, t35), (36, t36)] H = f15_l0 p n  k m0 t1 t2 t4 t5 t6 H := by
  induction m0 with
  | zero => intros; rfl
  | succ m0 ih =>
    intro t0 t1 t2 t3 t4 t5 t6 t7 t8 t9 t10 t11 t12 t13 t14 t15 t16 t17 t18 t19 t20 t21 t22 t23 t24 t25 t26 t27 t28 t29 t30 t31 t32 t33 t34 t35 t36 H
    rw [f15_L0_step]
    simp only [ih]
    rfl
theorem f15_raw (p : Pr β) (n : Nat) (a0 a1 : AV) (H : Heap) (k : AV → Heap → Option β) : evalBody ti0 p n ⟨c15, 37, Go.Proofs.Try.f15.results.toList, o15⟩ [a0, a1] H k =
  p.box a0 H fun t2 H =>
  p.new [(.sc (.int .i64 0)), .nl] H fun t4 H =>
  p.fadr 0 t2 fun t7 =>
  p.load false 1 t7 H fun t8 =>
  p.fill [(.sc (.int .i64 0)), .nl] [(0, 1, t8)] fun ct9 =>
  p.new [(.sc (.int .i64 0)), .nl] H fun t5 H =>
  p.store 2 t5 (.agg ct9) H fun H =>
  f15_L0 p n  k n [(0, a0), (1, a1), (2, t2), (3, (.sc undef)), (4, t4), (5, t5), (6, (.sc (.int .i64 0))), (7, t7), (8, t8), (9, (.agg ct9)), (10, (.sc undef)), (11, (.sc undef)), (12, (.sc undef)), (13, (.sc undef)), (14, (.sc undef)), (15, (.sc undef)), (16, (.sc undef)), (17, (.sc undef)), (18, (.sc undef)), (19, (.sc undef)), (20, (.sc undef)), (21, (.sc undef)), (22, (.sc undef)), (23, (.sc undef)), (24, (.sc undef)), (25, (.sc undef)), (26, (.sc undef)), (27, (.sc undef)), (28, (.sc undef)), (29, (.sc undef)), (30, (.sc undef)), (31, (.sc undef)), (32, (.sc undef)), (33, (.sc undef)), (34, (.sc undef)), (35, (.sc undef)), (36, (.sc undef))] H := by kernel_rfl
theorem f15_body (p : Pr β) (n : Nat) (a0 a1 : AV) (H : Heap) (k : AV → Heap → Option β) : evalBody ti0 p n ⟨c15, 37, Go.Proofs.Try.f15.results.toList, o15⟩ [a0, a1] H k = f15 p n a0 a1 H k := by
  rw [f15_raw]
  simp only [f15_l0_eq]
  rfl

/-! 66 loop.example/g00480/impl.joined -/
noncomputable def f66_l0 (p : Pr β) (n : Nat)  (k : AV → Heap → Option β) : Nat → AV → AV → AV → AV → Heap → Option β
  | 0, _, _, _, _, _ => none
  | m + 1, t3, t7, t8, t9, H => p.bin .lss t9 t8 fun t10 =>
      p.cond t10
      (p.iadr 1 t7 t9 fun t11 =>
      p.load false 1 t11 H fun t12 =>
      p.app 1 1 t3 t12 H fun t15 H =>
      p.bin .add t9 (.sc (.int .i64 1)) fun t16 =>
      f66_l0 p n  k m t15 t7 t8 t16 H)
      (k t3 H)
noncomputable def f66 (p : Pr β) (n : Nat) (a0 : AV) (H : Heap) (k : AV → Heap → Option β) : Option β :=
  p.len a0 fun t8 =>
  f66_l0 p n  k n .nl a0 t8 (.sc (.int .i64 0)) H
noncomputable def f66_L0 (p : Pr β) (n : Nat)  (k : AV → Heap → Option β) (m : Nat) (tm : Tm) (H : Heap) : Option β :=
  iterC 18 (fun tm H k => evalCode ti0 p o66 18 n (cd c66 [1, 1, 0, 1, 0, 0]) tm H k) (blkK 0 (seqK (fun tm H => evalCode ti0 p o66 18 n (cd c66 [1, 1, 1]) tm H (endK ti0 p Go.Proofs.Try.f66.results.toList k)) (endK ti0 p Go.Proofs.Try.f66.results.toList k))) m tm H
theorem f66_L0_step (p : Pr β) (n : Nat)  (k : AV → Heap → Option β) (m0 : Nat) (t0 t1 t2 t3 t4 t5 t6 t7 t8 t9 t10 t11 t12 t13 t14 t15 t16 t17 : AV) (H : Heap) : f66_L0 p n  k (m0 + 1) [(0, t0), (1, t1), (2, t2), (3, t3), (4, t4), (5, t5), (6, t6), (7, t7), (8, t8), (9, t9), (10, t10), (11, t11), (12, t12), (13, t13), (14, t14), (15, t15), (16, t16), (17, t17)] H =
  p.bin .lss t9 t8 fun t10 =>
  p.cond t10
  (p.iadr 1 t7 t9 fun t11 =>
  p.load false 1 t11 H fun t12 =>
  p.app 1 1 t3 t12 H fun t15 H =>
  p.bin .add t9 (.sc (.int .i64 1)) fun t16 =>
  f66_L0 p n  k m0 [(0, t0), (1, t1), (2, t2), (3, t15), (4, t4), (5, t12), (6, t6), (7, t7), (8, t8), (9, t16), (10, t10), (11, t11), (12, t12), (13, t3), (14, t12), (15, t15), (16, t16), (17, t17)] H)
  (k t3 H) := by kernel_rfl
theorem f66_l0_eq (p : Pr β) (n : Nat)  (k : AV → Heap → Option β)   (m0 : Nat) : ∀ (t0 t1 t2 t3 t4 t5 t6 t7 t8 t9 t10 t11 t12 t13 t14 t15 t16 t17 : AV) (H : Heap), f66_L0 p n  k m0 [(0, t0), (1, t1), (2, t2), (3, t3), (4, t4), (5, t5), (6, t6), (7, t7), (8, t8), (9, t9), (10, t10), (11, t11), (12, t12), (13, t13), (14, t14), (15, t15), (16, t16), (17, t17)] H = f66_l0 p n  k m0 t3 t7 t8 t9 H := by
  induction m0 with
  | zero => intros; rfl
  | succ m0 ih =>
    intro t0 t1 t2 t3 t4 t5 t6 t7 t8 t9 t10 t11 t12 t13 t14 t15 t16 t17 H
    rw [f66_L0_step]
    simp only [ih]
    rfl
theorem f66_raw (p : Pr β) (n : Nat) (a0 : AV) (H : Heap) (k : AV → Heap → Option β) : evalBody ti0 p n ⟨c66, 18, Go.Proofs.Try.f66.results.toList, o66⟩ [a0] H k =
  p.len a0 fun t8 =>
  f66_L0 p n  k n [(0, a0), (1, (.sc undef)), (2, .nl), (3, .nl), (4, (.sc undef)), (5, (.sc undef)), (6, .nl), (7, a0), (8, t8), (9, (.sc (.int .i64 0))), (10, (.sc undef)), (11, (.sc undef)), (12, (.sc undef)), (13, (.sc undef)), (14, (.sc undef)), (15, (.sc undef)), (16, (.sc undef)), (17, (.sc undef))] H := by kernel_rfl
theorem f66_body (p : Pr β) (n : Nat) (a0 : AV) (H : Heap) (k : AV → Heap → Option β) : evalBody ti0 p n ⟨c66, 18, Go.Proofs.Try.f66.results.toList, o66⟩ [a0] H k = f66 p n a0 H k := by
  rw [f66_raw]
  simp only [f66_l0_eq]
  rfl

/-! 59 loop.example/g00480/impl.copyMsg -/
noncomputable def f59 (p : Pr β) (n : Nat) (a0 : AV) (H : Heap) (k : AV → Heap → Option β) : Option β :=
  p.box a0 H fun t1 H =>
  p.new [(.sc (.string ⟨#[]⟩)), .nl, (.sc (.int .i64 0)), (.sc (.bool false))] H fun t2 H =>
  p.fadr 1 t1 fun t3 =>
  p.load false 1 t3 H fun t4 =>
  p.fill [.nl] [(0, 1, t4)] fun ct5 => p.newSl 1 1 ct5 true H fun t5 H =>
  p.call 73 (.fn 66 [] []) [t5] H fun t6 H =>
  p.fadr 1 t1 fun t7 =>
  p.store 1 t7 t6 H fun H =>
  p.load true 4 t1 H fun t8 =>
  p.store 4 t2 t8 H fun H =>
  p.load true 4 t2 H fun r0 =>
  k r0 H
theorem f59_body (p : Pr β) (n : Nat) (a0 : AV) (H : Heap) (k : AV → Heap → Option β) : evalBody ti0 p n ⟨c59, 9, Go.Proofs.Try.f59.results.toList, o59⟩ [a0] H k = f59 p n a0 H k := by kernel_rfl

/-! 58 loop.example/g00480/impl.copyMsgs -/
noncomputable def f58_l0 (p : Pr β) (n : Nat)  (k : AV → Heap → Option β) : Nat → AV → AV → AV → AV → Heap → Option β
  | 0, _, _, _, _, _ => none
  | m + 1, t3, t7, t8, t9, H => p.bin .lss t9 t8 fun t10 =>
      p.cond t10
      (p.iadr 4 t7 t9 fun t11 =>
      p.load true 4 t11 H fun t12 =>
      p.new [(.sc (.string ⟨#[]⟩)), .nl, (.sc (.int .i64 0)), (.sc (.bool false))] H fun t5 H =>
      p.store 4 t5 t12 H fun H =>
      p.load true 4 t5 H fun t14 =>
      p.call 75 (.fn 59 [] []) [t14] H fun t15 H =>
      p.fill [(.sc (.string ⟨#[]⟩)), .nl, (.sc (.int .i64 0)), (.sc (.bool false))] [(0, 4, t15)] fun ct16 => p.newSl 1 4 ct16 true H fun t16 H =>
      p.app 4 56 t3 t16 H fun t17 H =>
      p.bin .add t9 (.sc (.int .i64 1)) fun t18 =>
      f58_l0 p n  k m t17 t7 t8 t18 H)
      (k t3 H)
noncomputable def f58 (p : Pr β) (n : Nat) (a0 : AV) (H : Heap) (k : AV → Heap → Option β) : Option β :=
  p.len a0 fun t8 =>
  f58_l0 p n  k n .nl a0 t8 (.sc (.int .i64 0)) H
noncomputable def f58_L0 (p : Pr β) (n : Nat)  (k : AV → Heap → Option β) (m : Nat) (tm : Tm) (H : Heap) : Option β :=
  iterC 20 (fun tm H k => evalCode ti0 p o58 20 n (cd c58 [1, 1, 0, 1, 0, 0]) tm H k) (blkK 0 (seqK (fun tm H => evalCode ti0 p o58 20 n (cd c58 [1, 1, 1]) tm H (endK ti0 p Go.Proofs.Try.f58.results.toList k)) (endK ti0 p Go.Proofs.Try.f58.results.toList k))) m tm H
theorem f58_L0_step (p : Pr β) (n : Nat)  (k : AV → Heap → Option β) (m0 : Nat) (t0 t1 t2 t3 t4 t5 t6 t7 t8 t9 t10 t11 t12 t13 t14 t15 t16 t17 t18 t19 : AV) (H : Heap) : f58_L0 p n  k (m0 + 1) [(0, t0), (1, t1), (2, t2), (3, t3), (4, t4), (5, t5), (6, t6), (7, t7), (8, t8), (9, t9), (10, t10), (11, t11), (12, t12), (13, t13), (14, t14), (15, t15), (16, t16), (17, t17), (18, t18), (19, t19)] H =
  p.bin .lss t9 t8 fun t10 =>
  p.cond t10
  (p.iadr 4 t7 t9 fun t11 =>
  p.load true 4 t11 H fun t12 =>
  p.new [(.sc (.string ⟨#[]⟩)), .nl, (.sc (.int .i64 0)), (.sc (.bool false))] H fun t5 H =>
  p.store 4 t5 t12 H fun H =>
  p.load true 4 t5 H fun t14 =>
  p.call 75 (.fn 59 [] []) [t14] H fun t15 H =>
  p.fill [(.sc (.string ⟨#[]⟩)), .nl, (.sc (.int .i64 0)), (.sc (.bool false))] [(0, 4, t15)] fun ct16 => p.newSl 1 4 ct16 true H fun t16 H =>
  p.app 4 56 t3 t16 H fun t17 H =>
  p.bin .add t9 (.sc (.int .i64 1)) fun t18 =>
  f58_L0 p n  k m0 [(0, t0), (1, t1), (2, t2), (3, t17), (4, t4), (5, t5), (6, t6), (7, t7), (8, t8), (9, t18), (10, t10), (11, t11), (12, t12), (13, t3), (14, t14), (15, t15), (16, t16), (17, t17), (18, t18), (19, t19)] H)
  (k t3 H) := by kernel_rfl
theorem f58_l0_eq (p : Pr β) (n : Nat)  (k : AV → Heap → Option β)   (m0 : Nat) : ∀ (t0 t1 t2 t3 t4 t5 t6 t7 t8 t9 t10 t11 t12 t13 t14 t15 t16 t17 t18 t19 : AV) (H : Heap), f58_L0 p n  k m0 [(0, t0), (1, t1), (2, t2), (3, t3), (4, t4), (5, t5), (6, t6), (7, t7), (8, t8), (9, t9), (10, t10), (11, t11), (12, t12), (13, t13), (14, t14), (15, t15), (16, t16), (17, t17), (18, t18), (19, t19)] H = f58_l0 p n  k m0 t3 t7 t8 t9 H := by
  induction m0 with
  | zero => intros; rfl
  | succ m0 ih =>
    intro t0 t1 t2 t3 t4 t5 t6 t7 t8 t9 t10 t11 t12 t13 t14 t15 t16 t17 t18 t19 H
    rw [f58_L0_step]
    simp only [ih]
    rfl
theorem f58_raw (p : Pr β) (n : Nat) (a0 : AV) (H : Heap) (k : AV → Heap → Option β) : evalBody ti0 p n ⟨c58, 20, Go.Proofs.Try.f58.results.toList, o58⟩ [a0] H k =
  p.len a0 fun t8 =>
  f58_L0 p n  k n [(0, a0), (1, (.sc undef)), (2, .nl), (3, .nl), (4, (.sc undef)), (5, (.sc undef)), (6, .nl), (7, a0), (8, t8), (9, (.sc (.int .i64 0))), (10, (.sc undef)), (11, (.sc undef)), (12, (.sc undef)), (13, (.sc undef)), (14, (.sc undef)), (15, (.sc undef)), (16, (.sc undef)), (17, (.sc undef)), (18, (.sc undef)), (19, (.sc undef))] H := by kernel_rfl
theorem f58_body (p : Pr β) (n : Nat) (a0 : AV) (H : Heap) (k : AV → Heap → Option β) : evalBody ti0 p n ⟨c58, 20, Go.Proofs.Try.f58.results.toList, o58⟩ [a0] H k = f58 p n a0 H k := by
  rw [f58_raw]
  simp only [f58_l0_eq]
  rfl

/-! 46 loop.example/g00480/impl.copyOut -/
noncomputable def f46_l0 (p : Pr β) (n : Nat)  (k : AV → Heap → Option β) : Nat → AV → AV → AV → AV → AV → Heap → Option β
  | 0, _, _, _, _, _, _ => none
  | m + 1, t2, t3, t13, t14, t15, H => p.bin .lss t15 t14 fun t16 =>
      p.cond t16
      (p.iadr 6 t13 t15 fun t17 =>
      p.load true 6 t17 H fun t18 =>
      p.new [(.sc (.int .i64 0)), (.sc (.string ⟨#[]⟩)), .nl, (.sc (.int .i64 0)), (.sc (.bool false)), (.sc (.int .i64 0))] H fun t5 H =>
      p.store 6 t5 t18 H fun H =>
      p.fadr 1 t3 fun t19 =>
      p.load false 1 t19 H fun t20 =>
      p.fadr 0 t5 fun t21 =>
      p.load false 1 t21 H fun t22 =>
      p.fadr 1 t5 fun t23 =>
      p.load true 4 t23 H fun t24 =>
      p.fadr 5 t5 fun t26 =>
      p.load false 1 t26 H fun t27 =>
      p.call 75 (.fn 59 [] []) [t24] H fun t25 H =>
      p.fill [(.sc (.int .i64 0)), (.sc (.string ⟨#[]⟩)), .nl, (.sc (.int .i64 0)), (.sc (.bool false)), (.sc (.int .i64 0))] [(0, 1, t22), (1, 4, t25), (5, 1, t27)] fun ct28 =>
      p.fill [(.sc (.int .i64 0)), (.sc (.string ⟨#[]⟩)), .nl, (.sc (.int .i64 0)), (.sc (.bool false)), (.sc (.int .i64 0))] [(0, 6, (.agg ct28))] fun ct29 => p.newSl 1 6 ct29 true H fun t29 H =>
      p.app 6 72 t20 t29 H fun t30 H =>
      p.fadr 1 t3 fun t31 =>
      p.store 1 t31 t30 H fun H =>
      p.bin .add t15 (.sc (.int .i64 1)) fun t32 =>
      f46_l0 p n  k m t2 t3 t13 t14 t32 H)
      (p.load true 3 t3 H fun t33 =>
      p.store 3 t2 t33 H fun H =>
      p.load true 3 t2 H fun r0 =>
      k r0 H)
noncomputable def f46 (p : Pr β) (n : Nat) (a0 : AV) (H : Heap) (k : AV → Heap → Option β) : Option β :=
  p.box a0 H fun t1 H =>
  p.new [(.sc (.int .i64 0)), .nl, .nl] H fun t2 H =>
  p.fadr 0 t1 fun t6 =>
  p.load false 1 t6 H fun t7 =>
  p.fadr 2 t1 fun t8 =>
  p.load false 1 t8 H fun t9 =>
  p.both
  (p.call 44 (.fn 58 [] []) [t9] H fun t10 H =>
  p.fill [(.sc (.int .i64 0)), .nl, .nl] [(0, 1, t7), (2, 1, t10)] fun ct11 =>
  p.new [(.sc (.int .i64 0)), .nl, .nl] H fun t3 H =>
  p.store 3 t3 (.agg ct11) H fun H =>
  p.fadr 1 t1 fun t12 =>
  p.load false 1 t12 H fun t13 =>
  p.len t13 fun t14 =>
  f46_l0 p n  k n t2 t3 t13 t14 (.sc (.int .i64 0)) H)
  (p.new [(.sc (.int .i64 0)), .nl, .nl] H fun t3 H =>
  p.call 44 (.fn 58 [] []) [t9] H fun t10 H =>
  p.fill [(.sc (.int .i64 0)), .nl, .nl] [(0, 1, t7), (2, 1, t10)] fun ct11 =>
  p.store 3 t3 (.agg ct11) H fun H =>
  p.fadr 1 t1 fun t12 =>
  p.load false 1 t12 H fun t13 =>
  p.len t13 fun t14 =>
  f46_l0 p n  k n t2 t3 t13 t14 (.sc (.int .i64 0)) H)
noncomputable def f46_L0 (p : Pr β) (n : Nat)  (k : AV → Heap → Option β) (m : Nat) (tm : Tm) (H : Heap) : Option β :=
  iterC 34 (fun tm H k => evalCode ti0 p o46 34 n (cd c46 [1, 1, 0, 1, 0, 0]) tm H k) (blkK 0 (seqK (fun tm H => evalCode ti0 p o46 34 n (cd c46 [1, 1, 1]) tm H (endK ti0 p Go.Proofs.Try.f46.results.toList k)) (endK ti0 p Go.Proofs.Try.f46.results.toList k))) m tm H
theorem f46_L0_step (p : Pr β) (n : Nat)  (k : AV → Heap → Option β) (m0 : Nat) (t0 t1 t2 t3 t4 t5 t6 t7 t8 t9 t10 t11 t12 t13 t14 t15 t16 t17 t18 t19 t20 t21 t22 t23 t24 t25 t26 t27 t28 t29 t30 t31 t32 t33 : AV) (H : Heap) : f46_L0 p n  k (m0 + 1) [(0, t0), (1, t1), (2, t2), (3, t3), (4, t4), (5, t5), (6, t6), (7, t7), (8, t8), (9, t9), (10, t10), (11, t11), (12, t12), (13, t13), (14, t14), (15, t15), (16, t16), (17, t17), (18, t18), (19, t19), (20, t20), (21, t21), (22, t22), (23, t23), (24, t24), (25, t25), (26, t26), (27, t27), (28, t28), (29, t29), (30, t30), (31, t31), (32, t32), (33, t33)] H =
  p.bin .lss t15 t14 fun t16 =>
  p.cond t16
  (p.iadr 6 t13 t15 fun t17 =>
  p.load true 6 t17 H fun t18 =>
  p.new [(.sc (.int .i64 0)), (.sc (.string ⟨#[]⟩)), .nl, (.sc (.int .i64 0)), (.sc (.bool false)), (.sc (.int .i64 0))] H fun t5 H =>
  p.store 6 t5 t18 H fun H =>
  p.fadr 1 t3 fun t19 =>
  p.load false 1 t19 H fun t20 =>
  p.fadr 0 t5 fun t21 =>
  p.load false 1 t21 H fun t22 =>
  p.fadr 1 t5 fun t23 =>
  p.load true 4 t23 H fun t24 =>
  p.fadr 5 t5 fun t26 =>
  p.load false 1 t26 H fun t27 =>
  p.call 75 (.fn 59 [] []) [t24] H fun t25 H =>
  p.fill [(.sc (.int .i64 0)), (.sc (.string ⟨#[]⟩)), .nl, (.sc (.int .i64 0)), (.sc (.bool false)), (.sc (.int .i64 0))] [(0, 1, t22), (1, 4, t25), (5, 1, t27)] fun ct28 =>
  p.fill [(.sc (.int .i64 0)), (.sc (.string ⟨#[]⟩)), .nl, (.sc (.int .i64 0)), (.sc (.bool false)), (.sc (.int .i64 0))] [(0, 6, (.agg ct28))] fun ct29 => p.newSl 1 6 ct29 true H fun t29 H =>
  p.app 6 72 t20 t29 H fun t30 H =>
  p.fadr 1 t3 fun t31 =>
  p.store 1 t31 t30 H fun H =>
  p.bin .add t15 (.sc (.int .i64 1)) fun t32 =>
  f46_L0 p n  k m0 [(0, t0), (1, t1), (2, t2), (3, t3), (4, t4), (5, t5), (6, t6), (7, t7), (8, t8), (9, t9), (10, t10), (11, t11), (12, t12), (13, t13), (14, t14), (15, t32), (16, t16), (17, t17), (18, t18), (19, t19), (20, t20), (21, t21), (22, t22), (23, t23), (24, t24), (25, t25), (26, t26), (27, t27), (28, (.agg ct28)), (29, t29), (30, t30), (31, t31), (32, t32), (33, t33)] H)
  (p.load true 3 t3 H fun t33 =>
  p.store 3 t2 t33 H fun H =>
  p.load true 3 t2 H fun r0 =>
  k r0 H) := by kernel_rfl
theorem f46_l0_eq (p : Pr β) (n : Nat)  (k : AV → Heap → Option β)   (m0 : Nat) : ∀ (t0 t1 t2 t3 t4 t5 t6 t7 t8 t9 t10 t11 t12 t13 t14 t15 t16 t17 t18 t19 t20 t21 t22 t23 t24 t25 t26 t27 t28 t29 t30 t31 t32 t33 : AV) (H : Heap), f46_L0 p n  k m0 [(0, t0), (1, t1), (2, t2), (3, t3), (4, t4), (5, t5), (6, t6), (7, t7), (8, t8), (9, t9), (10, t10), (11, t11), (12, t12), (13, t13), (14, t14), (15, t15), (16, t16), (17, t17), (18, t18), (19, t19), (20, t20), (21, t21), (22, t22), (23, t23), (24, t24), (25, t25), (26, t26), (27, t27), (28, t28), (29, t29), (30, t30), (31, t31), (32, t32), (33, t33)] H = f46_l0 p n  k m0 t2 t3 t13 t14 t15 H := by
  induction m0 with
  | zero => intros; rfl
  | succ m0 ih =>
    intro t0 t1 t2 t3 t4 t5 t6 t7 t8 t9 t10 t11 t12 t13 t14 t15 t16 t17 t18 t19 t20 t21 t22 t23 t24 t25 t26 t27 t28 t29 t30 t31 t32 t33 H
    rw [f46_L0_step]
    simp only [ih]
    rfl
theorem f46_raw (p : Pr β) (n : Nat) (a0 : AV) (H : Heap) (k : AV → Heap → Option β) : evalBody ti0 p n ⟨c46, 34, Go.Proofs.Try.f46.results.toList, o46⟩ [a0] H k =
  p.box a0 H fun t1 H =>
  p.new [(.sc (.int .i64 0)), .nl, .nl] H fun t2 H =>
  p.fadr 0 t1 fun t6 =>
  p.load false 1 t6 H fun t7 =>
  p.fadr 2 t1 fun t8 =>
  p.load false 1 t8 H fun t9 =>
  p.both
  (p.call 44 (.fn 58 [] []) [t9] H fun t10 H =>
  p.fill [(.sc (.int .i64 0)), .nl, .nl] [(0, 1, t7), (2, 1, t10)] fun ct11 =>
  p.new [(.sc (.int .i64 0)), .nl, .nl] H fun t3 H =>
  p.store 3 t3 (.agg ct11) H fun H =>
  p.fadr 1 t1 fun t12 =>
  p.load false 1 t12 H fun t13 =>
  p.len t13 fun t14 =>
  f46_L0 p n  k n [(0, a0), (1, t1), (2, t2), (3, t3), (4, (.sc undef)), (5, (.sc undef)), (6, t6), (7, t7), (8, t8), (9, t9), (10, t10), (11, (.agg ct11)), (12, t12), (13, t13), (14, t14), (15, (.sc (.int .i64 0))), (16, (.sc undef)), (17, (.sc undef)), (18, (.sc undef)), (19, (.sc undef)), (20, (.sc undef)), (21, (.sc undef)), (22, (.sc undef)), (23, (.sc undef)), (24, (.sc undef)), (25, (.sc undef)), (26, (.sc undef)), (27, (.sc undef)), (28, (.sc undef)), (29, (.sc undef)), (30, (.sc undef)), (31, (.sc undef)), (32, (.sc undef)), (33, (.sc undef))] H)
  (p.new [(.sc (.int .i64 0)), .nl, .nl] H fun t3 H =>
  p.call 44 (.fn 58 [] []) [t9] H fun t10 H =>
  p.fill [(.sc (.int .i64 0)), .nl, .nl] [(0, 1, t7), (2, 1, t10)] fun ct11 =>
  p.store 3 t3 (.agg ct11) H fun H =>
  p.fadr 1 t1 fun t12 =>
  p.load false 1 t12 H fun t13 =>
  p.len t13 fun t14 =>
  f46_L0 p n  k n [(0, a0), (1, t1), (2, t2), (3, t3), (4, (.sc undef)), (5, (.sc undef)), (6, t6), (7, t7), (8, t8), (9, t9), (10, t10), (11, (.agg ct11)), (12, t12), (13, t13), (14, t14), (15, (.sc (.int .i64 0))), (16, (.sc undef)), (17, (.sc undef)), (18, (.sc undef)), (19, (.sc undef)), (20, (.sc undef)), (21, (.sc undef)), (22, (.sc undef)), (23, (.sc undef)), (24, (.sc undef)), (25, (.sc undef)), (26, (.sc undef)), (27, (.sc undef)), (28, (.sc undef)), (29, (.sc undef)), (30, (.sc undef)), (31, (.sc undef)), (32, (.sc undef)), (33, (.sc undef))] H) := by kernel_rfl
theorem f46_body (p : Pr β) (n : Nat) (a0 : AV) (H : Heap) (k : AV → Heap → Option β) : evalBody ti0 p n ⟨c46, 34, Go.Proofs.Try.f46.results.toList, o46⟩ [a0] H k = f46 p n a0 H k := by
  rw [f46_raw]
  simp only [f46_l0_eq]
  rfl

/-! 47 loop.example/g00480/impl.copyInts -/
noncomputable def f47 (p : Pr β) (n : Nat) (a0 : AV) (H : Heap) (k : AV → Heap → Option β) : Option β :=
  p.app 1 8 .nl a0 H fun t5 H =>
  k t5 H
theorem f47_body (p : Pr β) (n : Nat) (a0 : AV) (H : Heap) (k : AV → Heap → Option β) : evalBody ti0 p n ⟨c47, 6, Go.Proofs.Try.f47.results.toList, o47⟩ [a0] H k = f47 p n a0 H k := by kernel_rfl

/-! 31 loop.example/g00480/impl.copySess -/
noncomputable def f31 (p : Pr β) (n : Nat) (a0 : AV) (H : Heap) (k : AV → Heap → Option β) : Option β :=
  p.box a0 H fun t1 H =>
  p.new [(.sc (.string ⟨#[]⟩)), (.sc (.int .i64 0)), (.sc (.bool false)), (.sc (.int .i64 0)), (.sc (.int .i64 0)), (.sc (.int .i64 0)), .nl, .nl, .nl] H fun t2 H =>
  p.fadr 5 t1 fun t3 =>
  p.load true 3 t3 H fun t4 =>
  p.fadr 8 t1 fun t6 =>
  p.load false 1 t6 H fun t7 =>
  p.call 46 (.fn 46 [] []) [t4] H fun t5 H =>
  p.fadr 5 t1 fun t9 =>
  p.call 47 (.fn 47 [] []) [t7] H fun t8 H =>
  p.store 3 t9 t5 H fun H =>
  p.fadr 8 t1 fun t10 =>
  p.store 1 t10 t8 H fun H =>
  p.load true 9 t1 H fun t11 =>
  p.store 9 t2 t11 H fun H =>
  p.load true 9 t2 H fun r0 =>
  k r0 H
theorem f31_body (p : Pr β) (n : Nat) (a0 : AV) (H : Heap) (k : AV → Heap → Option β) : evalBody ti0 p n ⟨c31, 12, Go.Proofs.Try.f31.results.toList, o31⟩ [a0] H k = f31 p n a0 H k := by kernel_rfl

/-! 21 loop.example/g00480/impl.copyStripe -/
noncomputable def f21_l0 (p : Pr β) (n : Nat)  (k : AV → Heap → Option β) : Nat → AV → AV → AV → AV → AV → Heap → Option β
  | 0, _, _, _, _, _, _ => none
  | m + 1, t2, t3, t10, t11, t12, H => p.bin .lss t12 t11 fun t13 =>
      p.cond t13
      (p.iadr 9 t10 t12 fun t14 =>
      p.load true 9 t14 H fun t15 =>
      p.new [(.sc (.string ⟨#[]⟩)), (.sc (.int .i64 0)), (.sc (.bool false)), (.sc (.int .i64 0)), (.sc (.int .i64 0)), (.sc (.int .i64 0)), .nl, .nl, .nl] H fun t5 H =>
      p.store 9 t5 t15 H fun H =>
      p.fadr 1 t3 fun t16 =>
      p.load false 1 t16 H fun t17 =>
      p.load true 9 t5 H fun t18 =>
      p.call 49 (.fn 31 [] []) [t18] H fun t19 H =>
      p.fill [(.sc (.string ⟨#[]⟩)), (.sc (.int .i64 0)), (.sc (.bool false)), (.sc (.int .i64 0)), (.sc (.int .i64 0)), (.sc (.int .i64 0)), .nl, .nl, .nl] [(0, 9, t19)] fun ct20 => p.newSl 1 9 ct20 true H fun t20 H =>
      p.app 9 128 t17 t20 H fun t21 H =>
      p.fadr 1 t3 fun t22 =>
      p.store 1 t22 t21 H fun H =>
      p.bin .add t12 (.sc (.int .i64 1)) fun t23 =>
      f21_l0 p n  k m t2 t3 t10 t11 t23 H)
      (p.load true 2 t3 H fun t24 =>
      p.store 2 t2 t24 H fun H =>
      p.load true 2 t2 H fun r0 =>
      k r0 H)
noncomputable def f21 (p : Pr β) (n : Nat) (a0 : AV) (H : Heap) (k : AV → Heap → Option β) : Option β :=
  p.box a0 H fun t1 H =>
  p.new [(.sc (.int .i64 0)), .nl] H fun t2 H =>
  p.fadr 0 t1 fun t6 =>
  p.load false 1 t6 H fun t7 =>
  p.fill [(.sc (.int .i64 0)), .nl] [(0, 1, t7)] fun ct8 =>
  p.new [(.sc (.int .i64 0)), .nl] H fun t3 H =>
  p.store 2 t3 (.agg ct8) H fun H =>
  p.fadr 1 t1 fun t9 =>
  p.load false 1 t9 H fun t10 =>
  p.len t10 fun t11 =>
  f21_l0 p n  k n t2 t3 t10 t11 (.sc (.int .i64 0)) H
noncomputable def f21_L0 (p : Pr β) (n : Nat)  (k : AV → Heap → Option β) (m : Nat) (tm : Tm) (H : Heap) : Option β :=
  iterC 25 (fun tm H k => evalCode ti0 p o21 25 n (cd c21 [1, 1, 0, 1, 0, 0]) tm H k) (blkK 0 (seqK (fun tm H => evalCode ti0 p o21 25 n (cd c21 [1, 1, 1]) tm H (endK ti0 p Go.Proofs.Try.f21.results.toList k)) (endK ti0 p Go.Proofs.Try.f21.results.toList k))) m tm H
theorem f21_L0_step (p : Pr β) (n : Nat)  (k : AV → Heap → Option β) (m0 : Nat) (t0 t1 t2 t3 t4 t5 t6 t7 t8 t9 t10 t11 t12 t13 t14 t15 t16 t17 t18 t19 t20 t21 t22 t23 t24 : AV) (H : Heap) : f21_L0 p n  k (m0 + 1) [(0, t0), (1, t1), (2, t2), (3, t3), (4, t4), (5, t5), (6, t6), (7, t7), (8, t8), (9, t9), (10, t10), (11, t11), (12, t12), (13, t13), (14, t14), (15, t15), (16, t16), (17, t17), (18, t18), (19, t19), (20, t20), (21, t21), (22, t22), (23, t23), (24, t24)] H =
  p.bin .lss t12 t11 fun t13 =>
  p.cond t13
  (p.iadr 9 t10 t12 fun t14 =>
  p.load true 9 t14 H fun t15 =>
  p.new [(.sc (.string ⟨#[]⟩)), (.sc (.int .i64 0)), (.sc (.bool false)), (.sc (.int .i64 0)), (.sc (.int .i64 0)), (.sc (.int .i64 0)), .nl, .nl, .nl] H fun t5 H =>
  p.store 9 t5 t15 H fun H =>
  p.fadr 1 t3 fun t16 =>
  p.load false 1 t16 H fun t17 =>
  p.load true 9 t5 H fun t18 =>
  p.call 49 (.fn 31 [] []) [t18] H fun t19 H =>
  p.fill [(.sc (.string ⟨#[]⟩)), (.sc (.int .i64 0)), (.sc (.bool false)), (.sc (.int .i64 0)), (.sc (.int .i64 0)), (.sc (.int .i64 0)), .nl, .nl, .nl] [(0, 9, t19)] fun ct20 => p.newSl 1 9 ct20 true H fun t20 H =>
  p.app 9 128 t17 t20 H fun t21 H =>
  p.fadr 1 t3 fun t22 =>
  p.store 1 t22 t21 H fun H =>
  p.bin .add t12 (.sc (.int .i64 1)) fun t23 =>
  f21_L0 p n  k m0 [(0, t0), (1, t1), (2, t2), (3, t3), (4, t4), (5, t5), (6, t6), (7, t7), (8, t8), (9, t9), (10, t10), (11, t11), (12, t23), (13, t13), (14, t14), (15, t15), (16, t16), (17, t17), (18, t18), (19, t19), (20, t20), (21, t21), (22, t22), (23, t23), (24, t24)] H)
  (p.load true 2 t3 H fun t24 =>
  p.store 2 t2 t24 H fun H =>
  p.load true 2 t2 H fun r0 =>
  k r0 H) := by kernel_rfl
theorem f21_l0_eq (p : Pr β) (n : Nat)  (k : AV → Heap → Option β)   (m0 : Nat) : ∀ (t0 t1 t2 t3 t4 t5 t6 t7 t8 t9 t10 t11 t12 t13 t14 t15 t16 t17 t18 t19 t20 t21 t22 t23 t24 : AV) (H : Heap), f21_L0 p n  k m0 [(0, t0), (1, t1), (2, t2), (3, t3), (4, t4), (5, t5), (6, t6), (7, t7), (8, t8), (9, t9), (10, t10), (11, t11), (12, t12), (13, t13), (14, t14), (15, t15), (16, t16), (17, t17), (18, t18), (19, t19), (20, t20), (21, t21), (22, t22), (23, t23), (24, t24)] H = f21_l0 p n  k m0 t2 t3 t10 t11 t12 H := by
  induction m0 with
  | zero => intros; rfl
  | succ m0 ih =>
    intro t0 t1 t2 t3 t4 t5 t6 t7 t8 t9 t10 t11 t12 t13 t14 t15 t16 t17 t18 t19 t20 t21 t22 t23 t24 H
    rw [f21_L0_step]
    simp only [ih]
    rfl
theorem f21_raw (p : Pr β) (n : Nat) (a0 : AV) (H : Heap) (k : AV → Heap → Option β) : evalBody ti0 p n ⟨c21, 25, Go.Proofs.Try.f21.results.toList, o21⟩ [a0] H k =
  p.box a0 H fun t1 H =>
  p.new [(.sc (.int .i64 0)), .nl] H fun t2 H =>
  p.fadr 0 t1 fun t6 =>
  p.load false 1 t6 H fun t7 =>
  p.fill [(.sc (.int .i64 0)), .nl] [(0, 1, t7)] fun ct8 =>
  p.new [(.sc (.int .i64 0)), .nl] H fun t3 H =>
  p.store 2 t3 (.agg ct8) H fun H =>
  p.fadr 1 t1 fun t9 =>
  p.load false 1 t9 H fun t10 =>
  p.len t10 fun t11 =>
  f21_L0 p n  k n [(0, a0), (1, t1), (2, t2), (3, t3), (4, (.sc undef)), (5, (.sc undef)), (6, t6), (7, t7), (8, (.agg ct8)), (9, t9), (10, t10), (11, t11), (12, (.sc (.int .i64 0))), (13, (.sc undef)), (14, (.sc undef)), (15, (.sc undef)), (16, (.sc undef)), (17, (.sc undef)), (18, (.sc undef)), (19, (.sc undef)), (20, (.sc undef)), (21, (.sc undef)), (22, (.sc undef)), (23, (.sc undef)), (24, (.sc undef))] H := by kernel_rfl
theorem f21_body (p : Pr β) (n : Nat) (a0 : AV) (H : Heap) (k : AV → Heap → Option β) : evalBody ti0 p n ⟨c21, 25, Go.Proofs.Try.f21.results.toList, o21⟩ [a0] H k = f21 p n a0 H k := by
  rw [f21_raw]
  simp only [f21_l0_eq]
  rfl

/-! 28 loop.example/g00480/impl.DropSess$1 -/
noncomputable def f28 (p : Pr β) (n : Nat) (a0 a1 : AV) (H : Heap) (k : AV → Heap → Option β) : Option β :=
  p.box a0 H fun t2 H =>
  p.fadr 0 t2 fun t4 =>
  p.load false 1 t4 H fun t5 =>
  p.load false 1 a1 H fun t6 =>
  p.bin .eql t5 t6 fun t7 =>
  k t7 H
theorem f28_body (p : Pr β) (n : Nat) (a0 a1 : AV) (H : Heap) (k : AV → Heap → Option β) : evalBody ti0 p n ⟨c28, 8, Go.Proofs.Try.f28.results.toList, o28⟩ [a0, a1] H k = f28 p n a0 a1 H k := by kernel_rfl

/-! 41 slices.IndexFunc[[]loop.example/g00480/impl.Sess,loop.example/g00480/impl.Sess] -/
noncomputable def f41_l0 (p : Pr β) (n : Nat)  (k : AV → Heap → Option β) : Nat → AV → AV → AV → AV → Heap → Option β
  | 0, _, _, _, _, _ => none
  | m + 1, t0, t1, t7, t8, H => p.bin .lss t8 t7 fun t9 =>
      p.cond t9
      (p.iadr 9 t0 t8 fun t14 =>
      p.load true 9 t14 H fun t15 =>
      p.call 4 t1 [t15] H fun t16 H =>
      p.cond t16
      (k t8 H)
      (p.bin .add t8 (.sc (.int .i64 1)) fun t18 =>
      f41_l0 p n  k m t0 t1 t7 t18 H))
      (k (.sc (.int .i64 (-1))) H)
noncomputable def f41 (p : Pr β) (n : Nat) (a0 a1 : AV) (H : Heap) (k : AV → Heap → Option β) : Option β :=
  p.len a0 fun t7 =>
  f41_l0 p n  k n a0 a1 t7 (.sc (.int .i64 0)) H
noncomputable def f41_L0 (p : Pr β) (n : Nat)  (k : AV → Heap → Option β) (m : Nat) (tm : Tm) (H : Heap) : Option β :=
  iterC 19 (fun tm H k => evalCode ti0 p o41 19 n (cd c41 [1, 0, 1, 0, 0]) tm H k) (blkK 0 (seqK (fun tm H => evalCode ti0 p o41 19 n (cd c41 [1, 1]) tm H (endK ti0 p Go.Proofs.Try.f41.results.toList k)) (endK ti0 p Go.Proofs.Try.f41.results.toList k))) m tm H
theorem f41_L0_step (p : Pr β) (n : Nat)  (k : AV → Heap → Option β) (m0 : Nat) (t0 t1 t2 t3 t4 t5 t6 t7 t8 t9 t10 t11 t12 t13 t14 t15 t16 t17 t18 : AV) (H : Heap) : f41_L0 p n  k (m0 + 1) [(0, t0), (1, t1), (2, t2), (3, t3), (4, t4), (5, t5), (6, t6), (7, t7), (8, t8), (9, t9), (10, t10), (11, t11), (12, t12), (13, t13), (14, t14), (15, t15), (16, t16), (17, t17), (18, t18)] H =
  p.bin .lss t8 t7 fun t9 =>
  p.cond t9
  (p.iadr 9 t0 t8 fun t14 =>
  p.load true 9 t14 H fun t15 =>
  p.call 4 t1 [t15] H fun t16 H =>
  p.cond t16
  (k t8 H)
  (p.bin .add t8 (.sc (.int .i64 1)) fun t18 =>
  f41_L0 p n  k m0 [(0, t0), (1, t1), (2, t2), (3, t3), (4, t4), (5, t8), (6, t6), (7, t7), (8, t18), (9, t9), (10, t8), (11, t1), (12, t0), (13, t8), (14, t14), (15, t15), (16, t16), (17, t17), (18, t18)] H))
  (k (.sc (.int .i64 (-1))) H) := by kernel_rfl
theorem f41_l0_eq (p : Pr β) (n : Nat)  (k : AV → Heap → Option β)   (m0 : Nat) : ∀ (t0 t1 t2 t3 t4 t5 t6 t7 t8 t9 t10 t11 t12 t13 t14 t15 t16 t17 t18 : AV) (H : Heap), f41_L0 p n  k m0 [(0, t0), (1, t1), (2, t2), (3, t3), (4, t4), (5, t5), (6, t6), (7, t7), (8, t8), (9, t9), (10, t10), (11, t11), (12, t12), (13, t13), (14, t14), (15, t15), (16, t16), (17, t17), (18, t18)] H = f41_l0 p n  k m0 t0 t1 t7 t8 H := by
  induction m0 with
  | zero => intros; rfl
  | succ m0 ih =>
    intro t0 t1 t2 t3 t4 t5 t6 t7 t8 t9 t10 t11 t12 t13 t14 t15 t16 t17 t18 H
    rw [f41_L0_step]
    simp only [ih]
    rfl
theorem f41_raw (p : Pr β) (n : Nat) (a0 a1 : AV) (H : Heap) (k : AV → Heap → Option β) : evalBody ti0 p n ⟨c41, 19, Go.Proofs.Try.f41.results.toList, o41⟩ [a0, a1] H k =
  p.len a0 fun t7 =>
  f41_L0 p n  k n [(0, a0), (1, a1), (2, (.sc undef)), (3, (.sc undef)), (4, (.sc (.int .i64 0))), (5, (.sc undef)), (6, a0), (7, t7), (8, (.sc (.int .i64 0))), (9, (.sc undef)), (10, (.sc undef)), (11, (.sc undef)), (12, (.sc undef)), (13, (.sc undef)), (14, (.sc undef)), (15, (.sc undef)), (16, (.sc undef)), (17, (.sc undef)), (18, (.sc undef))] H := by kernel_rfl
theorem f41_body (p : Pr β) (n : Nat) (a0 a1 : AV) (H : Heap) (k : AV → Heap → Option β) : evalBody ti0 p n ⟨c41, 19, Go.Proofs.Try.f41.results.toList, o41⟩ [a0, a1] H k = f41 p n a0 a1 H k := by
  rw [f41_raw]
  simp only [f41_l0_eq]
  rfl

/-! 27 slices.DeleteFunc[[]loop.example/g00480/impl.Sess,loop.example/g00480/impl.Sess] -/
noncomputable def f27_l0 (p : Pr β) (n : Nat)  (k : AV → Heap → Option β) : Nat → AV → AV → AV → AV → Heap → Option β
  | 0, _, _, _, _, _ => none
  | m + 1, t0, t1, t5, t6, H => p.len t0 fun t18 =>
      p.bin .lss t6 t18 fun t19 =>
      p.cond t19
      (p.iadr 9 t0 t6 fun t24 =>
      p.load true 9 t24 H fun t25 =>
      p.new [(.sc (.string ⟨#[]⟩)), (.sc (.int .i64 0)), (.sc (.bool false)), (.sc (.int .i64 0)), (.sc (.int .i64 0)), (.sc (.int .i64 0)), .nl, .nl, .nl] H fun t7 H =>
      p.store 9 t7 t25 H fun H =>
      p.load true 9 t7 H fun t27 =>
      p.call 4 t1 [t27] H fun t28 H =>
      p.un .not t28 fun t29 =>
      p.cond t29
      (p.load true 9 t7 H fun t32 =>
      p.iadr 9 t0 t5 fun t33 =>
      p.store 9 t33 t32 H fun H =>
      p.bin .add t5 (.sc (.int .i64 1)) fun t35 =>
      p.bin .add t6 (.sc (.int .i64 1)) fun t21 =>
      f27_l0 p n  k m t0 t1 t35 t21 H)
      (p.bin .add t6 (.sc (.int .i64 1)) fun t21 =>
      f27_l0 p n  k m t0 t1 t5 t21 H))
      (p.slice 9 t0 (some t5) none fun t38 =>
      p.clear 9 [(.sc (.string ⟨#[]⟩)), (.sc (.int .i64 0)), (.sc (.bool false)), (.sc (.int .i64 0)), (.sc (.int .i64 0)), (.sc (.int .i64 0)), .nl, .nl, .nl] t38 H fun H =>
      p.slice 9 t0 none (some t5) fun t41 =>
      k t41 H)
noncomputable def f27 (p : Pr β) (n : Nat) (a0 a1 : AV) (H : Heap) (k : AV → Heap → Option β) : Option β :=
  p.call 3 (.fn 41 [] []) [a0, a1] H fun t10 H =>
  p.bin .eql t10 (.sc (.int .i64 (-1))) fun t12 =>
  p.cond t12
  (k a0 H)
  (p.bin .add t10 (.sc (.int .i64 1)) fun t15 =>
  f27_l0 p n  k n a0 a1 t10 t15 H)
noncomputable def f27_L0 (p : Pr β) (n : Nat)  (k : AV → Heap → Option β) (m : Nat) (tm : Tm) (H : Heap) : Option β :=
  iterC 42 (fun tm H k => evalCode ti0 p o27 42 n (cd c27 [1, 1, 1, 0, 1, 0, 0]) tm H k) (blkK 0 (seqK (fun tm H => evalCode ti0 p o27 42 n (cd c27 [1, 1, 1, 1]) tm H (endK ti0 p Go.Proofs.Try.f27.results.toList k)) (endK ti0 p Go.Proofs.Try.f27.results.toList k))) m tm H
theorem f27_L0_step (p : Pr β) (n : Nat)  (k : AV → Heap → Option β) (m0 : Nat) (t0 t1 t2 t3 t4 t5 t6 t7 t8 t9 t10 t11 t12 t13 t14 t15 t16 t17 t18 t19 t20 t21 t22 t23 t24 t25 t26 t27 t28 t29 t30 t31 t32 t33 t34 t35 t36 t37 t38 t39 t40 t41 : AV) (H : Heap) : f27_L0 p n  k (m0 + 1) [(0, t0), (1, t1), (2, t2), (3, t3), (4, t4), (5, t5), (6, t6), (7, t7), (8, t8), (9, t9), (10, t10), (11, t11), (12, t12), (13, t13), (14, t14), (15, t15), (16, t16), (17, t17), (18, t18), (19, t19), (20, t20), (21, t21), (22, t22), (23, t23), (24, t24), (25, t25), (26, t26), (27, t27), (28, t28), (29, t29), (30, t30), (31, t31), (32, t32), (33, t33), (34, t34), (35, t35), (36, t36), (37, t37), (38, t38), (39, t39), (40, t40), (41, t41)] H =
  p.len t0 fun t18 =>
  p.bin .lss t6 t18 fun t19 =>
  p.cond t19
  (p.iadr 9 t0 t6 fun t24 =>
  p.load true 9 t24 H fun t25 =>
  p.new [(.sc (.string ⟨#[]⟩)), (.sc (.int .i64 0)), (.sc (.bool false)), (.sc (.int .i64 0)), (.sc (.int .i64 0)), (.sc (.int .i64 0)), .nl, .nl, .nl] H fun t7 H =>
  p.store 9 t7 t25 H fun H =>
  p.load true 9 t7 H fun t27 =>
  p.call 4 t1 [t27] H fun t28 H =>
  p.un .not t28 fun t29 =>
  p.cond t29
  (p.load true 9 t7 H fun t32 =>
  p.iadr 9 t0 t5 fun t33 =>
  p.store 9 t33 t32 H fun H =>
  p.bin .add t5 (.sc (.int .i64 1)) fun t35 =>
  p.bin .add t6 (.sc (.int .i64 1)) fun t21 =>
  f27_L0 p n  k m0 [(0, t0), (1, t1), (2, t2), (3, t3), (4, t4), (5, t35), (6, t21), (7, t7), (8, t8), (9, t9), (10, t10), (11, t11), (12, t12), (13, t13), (14, t14), (15, t15), (16, t6), (17, t0), (18, t18), (19, t19), (20, t6), (21, t21), (22, t0), (23, t6), (24, t24), (25, t25), (26, t1), (27, t27), (28, t28), (29, t29), (30, t0), (31, t5), (32, t32), (33, t33), (34, t5), (35, t35), (36, t36), (37, t37), (38, t38), (39, t39), (40, t40), (41, t41)] H)
  (p.bin .add t6 (.sc (.int .i64 1)) fun t21 =>
  f27_L0 p n  k m0 [(0, t0), (1, t1), (2, t2), (3, t3), (4, t4), (5, t5), (6, t21), (7, t7), (8, t8), (9, t9), (10, t10), (11, t11), (12, t12), (13, t13), (14, t14), (15, t15), (16, t6), (17, t0), (18, t18), (19, t19), (20, t6), (21, t21), (22, t0), (23, t6), (24, t24), (25, t25), (26, t1), (27, t27), (28, t28), (29, t29), (30, t30), (31, t31), (32, t32), (33, t33), (34, t34), (35, t35), (36, t36), (37, t37), (38, t38), (39, t39), (40, t40), (41, t41)] H))
  (p.slice 9 t0 (some t5) none fun t38 =>
  p.clear 9 [(.sc (.string ⟨#[]⟩)), (.sc (.int .i64 0)), (.sc (.bool false)), (.sc (.int .i64 0)), (.sc (.int .i64 0)), (.sc (.int .i64 0)), .nl, .nl, .nl] t38 H fun H =>
  p.slice 9 t0 none (some t5) fun t41 =>
  k t41 H) := by kernel_rfl
theorem f27_l0_eq (p : Pr β) (n : Nat)  (k : AV → Heap → Option β)   (m0 : Nat) : ∀ (t0 t1 t2 t3 t4 t5 t6 t7 t8 t9 t10 t11 t12 t13 t14 t15 t16 t17 t18 t19 t20 t21 t22 t23 t24 t25 t26 t27 t28 t29 t30 t31 t32 t33 t34 t35 t36 t37 t38 t39 t40 t41 : AV) (H : Heap), f27_L0 p n  k m0 [(0, t0), (1, t1), (2, t2), (3, t3), (4, t4), (5, t5), (6, t6), (7, t7), (8, t8), (9, t9), (10, t10), (11, t11), (12, t12), (13, t13), (14, t14), (15, t15), (16, t16), (17, t17), (18, t18), (19, t19), (20, t20), (21, t21), (22, t22), (23, t23), (24, t24), (25, t25), (26, t26), (27, t27), (28, t28), (29, t29), (30, t30), (31, t31), (32, t32), (33, t33), (34, t34), (35, t35), (36, t36), (37, t37), (38, t38), (39, t39), (40, t40), (41, t41)] H = f27_l0 p n  k m0 t0 t1 t5 t6 H := by
  induction m0 with
  | zero => intros; rfl
  | succ m0 ih =>
    intro t0 t1 t2 t3 t4 t5 t6 t7 t8 t9 t10 t11 t12 t13 t14 t15 t16 t17 t18 t19 t20 t21 t22 t23 t24 t25 t26 t27 t28 t29 t30 t31 t32 t33 t34 t35 t36 t37 t38 t39 t40 t41 H
    rw [f27_L0_step]
    simp only [ih]
    rfl
theorem f27_raw (p : Pr β) (n : Nat) (a0 a1 : AV) (H : Heap) (k : AV → Heap → Option β) : evalBody ti0 p n ⟨c27, 42, Go.Proofs.Try.f27.results.toList, o27⟩ [a0, a1] H k =
  p.call 3 (.fn 41 [] []) [a0, a1] H fun t10 H =>
  p.bin .eql t10 (.sc (.int .i64 (-1))) fun t12 =>
  p.cond t12
  (k a0 H)
  (p.bin .add t10 (.sc (.int .i64 1)) fun t15 =>
  f27_L0 p n  k n [(0, a0), (1, a1), (2, (.sc undef)), (3, (.sc undef)), (4, .nl), (5, t10), (6, t15), (7, (.sc undef)), (8, a0), (9, a1), (10, t10), (11, t10), (12, t12), (13, (.sc undef)), (14, t10), (15, t15), (16, (.sc undef)), (17, (.sc undef)), (18, (.sc undef)), (19, (.sc undef)), (20, (.sc undef)), (21, (.sc undef)), (22, (.sc undef)), (23, (.sc undef)), (24, (.sc undef)), (25, (.sc undef)), (26, (.sc undef)), (27, (.sc undef)), (28, (.sc undef)), (29, (.sc undef)), (30, (.sc undef)), (31, (.sc undef)), (32, (.sc undef)), (33, (.sc undef)), (34, (.sc undef)), (35, (.sc undef)), (36, (.sc undef)), (37, (.sc undef)), (38, (.sc undef)), (39, (.sc undef)), (40, (.sc undef)), (41, (.sc undef))] H) := by kernel_rfl
theorem f27_body (p : Pr β) (n : Nat) (a0 a1 : AV) (H : Heap) (k : AV → Heap → Option β) : evalBody ti0 p n ⟨c27, 42, Go.Proofs.Try.f27.results.toList, o27⟩ [a0, a1] H k = f27 p n a0 a1 H k := by
  rw [f27_raw]
  simp only [f27_l0_eq]
  rfl

/-! 16 loop.example/g00480/impl.DropSess -/
noncomputable def f16 (p : Pr β) (n : Nat) (a0 a1 : AV) (H : Heap) (k : AV → Heap → Option β) : Option β :=
  p.box a0 H fun t2 H =>
  p.box a1 H fun t3 H =>
  p.new [(.sc (.int .i64 0)), .nl] H fun t4 H =>
  p.load true 2 t2 H fun t6 =>
  p.call 28 (.fn 21 [] []) [t6] H fun t7 H =>
  p.new [(.sc (.int .i64 0)), .nl] H fun t5 H =>
  p.store 2 t5 t7 H fun H =>
  p.fadr 1 t5 fun t8 =>
  p.load false 1 t8 H fun t9 =>
  p.call 26 (.fn 27 [] []) [t9, (.fn 28 [] [t3])] H fun t11 H =>
  p.fadr 1 t5 fun t12 =>
  p.store 1 t12 t11 H fun H =>
  p.load true 2 t5 H fun t13 =>
  p.store 2 t4 t13 H fun H =>
  p.load true 2 t4 H fun r0 =>
  k r0 H
theorem f16_body (p : Pr β) (n : Nat) (a0 a1 : AV) (H : Heap) (k : AV → Heap → Option β) : evalBody ti0 p n ⟨c16, 14, Go.Proofs.Try.f16.results.toList, o16⟩ [a0, a1] H k = f16 p n a0 a1 H k := by kernel_rfl

/-! 71 loop.example/g00480/laws.eqByteS -/
noncomputable def f71_l0 (p : Pr β) (n : Nat)  (k : AV → Heap → Option β) : Nat → AV → AV → AV → Heap → Option β
  | 0, _, _, _, _ => none
  | m + 1, t0, t1, t5, H => p.len t0 fun t13 =>
      p.bin .lss t5 t13 fun t14 =>
      p.cond t14
      (p.iadr 1 t0 t5 fun t19 =>
      p.load false 1 t19 H fun t20 =>
      p.iadr 1 t1 t5 fun t23 =>
      p.load false 1 t23 H fun t24 =>
      p.bin .neq t20 t24 fun t25 =>
      p.cond t25
      (k (.sc (.bool false)) H)
      (p.bin .add t5 (.sc (.int .i64 1)) fun t16 =>
      f71_l0 p n  k m t0 t1 t16 H))
      (k (.sc (.bool true)) H)
noncomputable def f71 (p : Pr β) (n : Nat) (a0 a1 : AV) (H : Heap) (k : AV → Heap → Option β) : Option β :=
  p.len a0 fun t7 =>
  p.len a1 fun t9 =>
  p.bin .neq t7 t9 fun t10 =>
  p.cond t10
  (k (.sc (.bool false)) H)
  (f71_l0 p n  k n a0 a1 (.sc (.int .i64 0)) H)
noncomputable def f71_L0 (p : Pr β) (n : Nat)  (k : AV → Heap → Option β) (m : Nat) (tm : Tm) (H : Heap) : Option β :=
  iterC 26 (fun tm H k => evalCode ti0 p o71 26 n (cd c71 [1, 1, 0, 1, 0, 0]) tm H k) (blkK 0 (seqK (fun tm H => evalCode ti0 p o71 26 n (cd c71 [1, 1, 1]) tm H (endK ti0 p Go.Proofs.Try.f71.results.toList k)) (endK ti0 p Go.Proofs.Try.f71.results.toList k))) m tm H
theorem f71_L0_step (p : Pr β) (n : Nat)  (k : AV → Heap → Option β) (m0 : Nat) (t0 t1 t2 t3 t4 t5 t6 t7 t8 t9 t10 t11 t12 t13 t14 t15 t16 t17 t18 t19 t20 t21 t22 t23 t24 t25 : AV) (H : Heap) : f71_L0 p n  k (m0 + 1) [(0, t0), (1, t1), (2, t2), (3, t3), (4, t4), (5, t5), (6, t6), (7, t7), (8, t8), (9, t9), (10, t10), (11, t11), (12, t12), (13, t13), (14, t14), (15, t15), (16, t16), (17, t17), (18, t18), (19, t19), (20, t20), (21, t21), (22, t22), (23, t23), (24, t24), (25, t25)] H =
  p.len t0 fun t13 =>
  p.bin .lss t5 t13 fun t14 =>
  p.cond t14
  (p.iadr 1 t0 t5 fun t19 =>
  p.load false 1 t19 H fun t20 =>
  p.iadr 1 t1 t5 fun t23 =>
  p.load false 1 t23 H fun t24 =>
  p.bin .neq t20 t24 fun t25 =>
  p.cond t25
  (k (.sc (.bool false)) H)
  (p.bin .add t5 (.sc (.int .i64 1)) fun t16 =>
  f71_L0 p n  k m0 [(0, t0), (1, t1), (2, t2), (3, t3), (4, t4), (5, t16), (6, t6), (7, t7), (8, t8), (9, t9), (10, t10), (11, t5), (12, t0), (13, t13), (14, t14), (15, t5), (16, t16), (17, t0), (18, t5), (19, t19), (20, t20), (21, t1), (22, t5), (23, t23), (24, t24), (25, t25)] H))
  (k (.sc (.bool true)) H) := by kernel_rfl
theorem f71_l0_eq (p : Pr β) (n : Nat)  (k : AV → Heap → Option β)   (m0 : Nat) : ∀ (t0 t1 t2 t3 t4 t5 t6 t7 t8 t9 t10 t11 t12 t13 t14 t15 t16 t17 t18 t19 t20 t21 t22 t23 t24 t25 : AV) (H : Heap), f71_L0 p n  k m0 [(0, t0), (1, t1), (2, t2), (3, t3), (4, t4), (5, t5), (6, t6), (7, t7), (8, t8), (9, t9), (10, t10), (11, t11), (12, t12), (13, t13), (14, t14), (15, t15), (16, t16), (17, t17), (18, t18), (19, t19), (20, t20), (21, t21), (22, t22), (23, t23), (24, t24), (25, t25)] H = f71_l0 p n  k m0 t0 t1 t5 H := by
  induction m0 with
  | zero => intros; rfl
  | succ m0 ih =>
    intro t0 t1 t2 t3 t4 t5 t6 t7 t8 t9 t10 t11 t12 t13 t14 t15 t16 t17 t18 t19 t20 t21 t22 t23 t24 t25 H
    rw [f71_L0_step]
    simp only [ih]
    rfl
theorem f71_raw (p : Pr β) (n : Nat) (a0 a1 : AV) (H : Heap) (k : AV → Heap → Option β) : evalBody ti0 p n ⟨c71, 26, Go.Proofs.Try.f71.results.toList, o71⟩ [a0, a1] H k =
  p.len a0 fun t7 =>
  p.len a1 fun t9 =>
  p.bin .neq t7 t9 fun t10 =>
  p.cond t10
  (k (.sc (.bool false)) H)
  (f71_L0 p n  k n [(0, a0), (1, a1), (2, (.sc undef)), (3, (.sc undef)), (4, (.sc (.bool false))), (5, (.sc (.int .i64 0))), (6, a0), (7, t7), (8, a1), (9, t9), (10, t10), (11, (.sc undef)), (12, (.sc undef)), (13, (.sc undef)), (14, (.sc undef)), (15, (.sc undef)), (16, (.sc undef)), (17, (.sc undef)), (18, (.sc undef)), (19, (.sc undef)), (20, (.sc undef)), (21, (.sc undef)), (22, (.sc undef)), (23, (.sc undef)), (24, (.sc undef)), (25, (.sc undef))] H) := by kernel_rfl
theorem f71_body (p : Pr β) (n : Nat) (a0 a1 : AV) (H : Heap) (k : AV → Heap → Option β) : evalBody ti0 p n ⟨c71, 26, Go.Proofs.Try.f71.results.toList, o71⟩ [a0, a1] H k = f71 p n a0 a1 H k := by
  rw [f71_raw]
  simp only [f71_l0_eq]
  rfl

/-! 68 loop.example/g00480/laws.eqMsg -/
noncomputable def f68 (p : Pr β) (n : Nat) (a0 a1 : AV) (H : Heap) (k : AV → Heap → Option β) : Option β :=
  p.box a0 H fun t2 H =>
  p.box a1 H fun t3 H =>
  p.fadr 0 t2 fun t5 =>
  p.load false 1 t5 H fun t6 =>
  p.fadr 0 t3 fun t7 =>
  p.load false 1 t7 H fun t8 =>
  p.bin .neq t6 t8 fun t9 =>
  p.cond t9
  (k (.sc (.bool false)) H)
  (p.fadr 1 t2 fun t10 =>
  p.load false 1 t10 H fun t11 =>
  p.fadr 1 t3 fun t12 =>
  p.load false 1 t12 H fun t13 =>
  p.call 4 (.fn 71 [] []) [t11, t13] H fun t14 H =>
  p.un .not t14 fun t15 =>
  p.cond t15
  (k (.sc (.bool false)) H)
  (p.fadr 2 t2 fun t16 =>
  p.load false 1 t16 H fun t17 =>
  p.fadr 2 t3 fun t18 =>
  p.load false 1 t18 H fun t19 =>
  p.bin .neq t17 t19 fun t20 =>
  p.cond t20
  (k (.sc (.bool false)) H)
  (p.fadr 3 t2 fun t21 =>
  p.load false 1 t21 H fun t22 =>
  p.fadr 3 t3 fun t23 =>
  p.load false 1 t23 H fun t24 =>
  p.binB .neq t22 t24 fun t25 =>
  p.cond t25
  (k (.sc (.bool false)) H)
  (k (.sc (.bool true)) H))))
theorem f68_body (p : Pr β) (n : Nat) (a0 a1 : AV) (H : Heap) (k : AV → Heap → Option β) : evalBody ti0 p n ⟨c68, 26, Go.Proofs.Try.f68.results.toList, o68⟩ [a0, a1] H k = f68 p n a0 a1 H k := by kernel_rfl

/-! 67 loop.example/g00480/laws.eqFlight -/
noncomputable def f67 (p : Pr β) (n : Nat) (a0 a1 : AV) (H : Heap) (k : AV → Heap → Option β) : Option β :=
  p.box a0 H fun t2 H =>
  p.box a1 H fun t3 H =>
  p.fadr 0 t2 fun t5 =>
  p.load false 1 t5 H fun t6 =>
  p.fadr 0 t3 fun t7 =>
  p.load false 1 t7 H fun t8 =>
  p.bin .neq t6 t8 fun t9 =>
  p.cond t9
  (k (.sc (.bool false)) H)
  (p.fadr 1 t2 fun t10 =>
  p.load true 4 t10 H fun t11 =>
  p.fadr 1 t3 fun t12 =>
  p.load true 4 t12 H fun t13 =>
  p.call 4 (.fn 68 [] []) [t11, t13] H fun t14 H =>
  p.un .not t14 fun t15 =>
  p.cond t15
  (k (.sc (.bool false)) H)
  (p.fadr 5 t2 fun t16 =>
  p.load false 1 t16 H fun t17 =>
  p.fadr 5 t3 fun t18 =>
  p.load false 1 t18 H fun t19 =>
  p.bin .neq t17 t19 fun t20 =>
  p.cond t20
  (k (.sc (.bool false)) H)
  (k (.sc (.bool true)) H)))
theorem f67_body (p : Pr β) (n : Nat) (a0 a1 : AV) (H : Heap) (k : AV → Heap → Option β) : evalBody ti0 p n ⟨c67, 21, Go.Proofs.Try.f67.results.toList, o67⟩ [a0, a1] H k = f67 p n a0 a1 H k := by kernel_rfl

/-! 60 loop.example/g00480/laws.eqFlightS -/
noncomputable def f60_l0 (p : Pr β) (n : Nat)  (k : AV → Heap → Option β) : Nat → AV → AV → AV → Heap → Option β
  | 0, _, _, _, _ => none
  | m + 1, t0, t1, t5, H => p.len t0 fun t13 =>
      p.bin .lss t5 t13 fun t14 =>
      p.cond t14
      (p.iadr 6 t0 t5 fun t19 =>
      p.load true 6 t19 H fun t20 =>
      p.iadr 6 t1 t5 fun t23 =>
      p.load true 6 t23 H fun t24 =>
      p.call 4 (.fn 67 [] []) [t20, t24] H fun t25 H =>
      p.un .not t25 fun t26 =>
      p.cond t26
      (k (.sc (.bool false)) H)
      (p.bin .add t5 (.sc (.int .i64 1)) fun t16 =>
      f60_l0 p n  k m t0 t1 t16 H))
      (k (.sc (.bool true)) H)
noncomputable def f60 (p : Pr β) (n : Nat) (a0 a1 : AV) (H : Heap) (k : AV → Heap → Option β) : Option β :=
  p.len a0 fun t7 =>
  p.len a1 fun t9 =>
  p.bin .neq t7 t9 fun t10 =>
  p.cond t10
  (k (.sc (.bool false)) H)
  (f60_l0 p n  k n a0 a1 (.sc (.int .i64 0)) H)
noncomputable def f60_L0 (p : Pr β) (n : Nat)  (k : AV → Heap → Option β) (m : Nat) (tm : Tm) (H : Heap) : Option β :=
  iterC 27 (fun tm H k => evalCode ti0 p o60 27 n (cd c60 [1, 1, 0, 1, 0, 0]) tm H k) (blkK 0 (seqK (fun tm H => evalCode ti0 p o60 27 n (cd c60 [1, 1, 1]) tm H (endK ti0 p Go.Proofs.Try.f60.results.toList k)) (endK ti0 p Go.Proofs.Try.f60.results.toList k))) m tm H
theorem f60_L0_step (p : Pr β) (n : Nat)  (k : AV → Heap → Option β) (m0 : Nat) (t0 t1 t2 t3 t4 t5 t6 t7 t8 t9 t10 t11 t12 t13 t14 t15 t16 t17 t18 t19 t20 t21 t22 t23 t24 t25 t26 : AV) (H : Heap) : f60_L0 p n  k (m0 + 1) [(0, t0), (1, t1), (2, t2), (3, t3), (4, t4), (5, t5), (6, t6), (7, t7), (8, t8), (9, t9), (10, t10), (11, t11), (12, t12), (13, t13), (14, t14), (15, t15), (16, t16), (17, t17), (18, t18), (19, t19), (20, t20), (21, t21), (22, t22), (23, t23), (24, t24), (25, t25), (26, t26)] H =
  p.len t0 fun t13 =>
  p.bin .lss t5 t13 fun t14 =>
  p.cond t14
  (p.iadr 6 t0 t5 fun t19 =>
  p.load true 6 t19 H fun t20 =>
  p.iadr 6 t1 t5 fun t23 =>
  p.load true 6 t23 H fun t24 =>
  p.call 4 (.fn 67 [] []) [t20, t24] H fun t25 H =>
  p.un .not t25 fun t26 =>
  p.cond t26
  (k (.sc (.bool false)) H)
  (p.bin .add t5 (.sc (.int .i64 1)) fun t16 =>
  f60_L0 p n  k m0 [(0, t0), (1, t1), (2, t2), (3, t3), (4, t4), (5, t16), (6, t6), (7, t7), (8, t8), (9, t9), (10, t10), (11, t5), (12, t0), (13, t13), (14, t14), (15, t5), (16, t16), (17, t0), (18, t5), (19, t19), (20, t20), (21, t1), (22, t5), (23, t23), (24, t24), (25, t25), (26, t26)] H))
  (k (.sc (.bool true)) H) := by kernel_rfl
theorem f60_l0_eq (p : Pr β) (n : Nat)  (k : AV → Heap → Option β)   (m0 : Nat) : ∀ (t0 t1 t2 t3 t4 t5 t6 t7 t8 t9 t10 t11 t12 t13 t14 t15 t16 t17 t18 t19 t20 t21 t22 t23 t24 t25 t26 : AV) (H : Heap), f60_L0 p n  k m0 [(0, t0), (1, t1), (2, t2), (3, t3), (4, t4), (5, t5), (6, t6), (7, t7), (8, t8), (9, t9), (10, t10), (11, t11), (12, t12), (13, t13), (14, t14), (15, t15), (16, t16), (17, t17), (18, t18), (19, t19), (20, t20), (21, t21), (22, t22), (23, t23), (24, t24), (25, t25), (26, t26)] H = f60_l0 p n  k m0 t0 t1 t5 H := by
  induction m0 with
  | zero => intros; rfl
  | succ m0 ih =>
    intro t0 t1 t2 t3 t4 t5 t6 t7 t8 t9 t10 t11 t12 t13 t14 t15 t16 t17 t18 t19 t20 t21 t22 t23 t24 t25 t26 H
    rw [f60_L0_step]
    simp only [ih]
    rfl
theorem f60_raw (p : Pr β) (n : Nat) (a0 a1 : AV) (H : Heap) (k : AV → Heap → Option β) : evalBody ti0 p n ⟨c60, 27, Go.Proofs.Try.f60.results.toList, o60⟩ [a0, a1] H k =
  p.len a0 fun t7 =>
  p.len a1 fun t9 =>
  p.bin .neq t7 t9 fun t10 =>
  p.cond t10
  (k (.sc (.bool false)) H)
  (f60_L0 p n  k n [(0, a0), (1, a1), (2, (.sc undef)), (3, (.sc undef)), (4, (.sc (.bool false))), (5, (.sc (.int .i64 0))), (6, a0), (7, t7), (8, a1), (9, t9), (10, t10), (11, (.sc undef)), (12, (.sc undef)), (13, (.sc undef)), (14, (.sc undef)), (15, (.sc undef)), (16, (.sc undef)), (17, (.sc undef)), (18, (.sc undef)), (19, (.sc undef)), (20, (.sc undef)), (21, (.sc undef)), (22, (.sc undef)), (23, (.sc undef)), (24, (.sc undef)), (25, (.sc undef)), (26, (.sc undef))] H) := by kernel_rfl
theorem f60_body (p : Pr β) (n : Nat) (a0 a1 : AV) (H : Heap) (k : AV → Heap → Option β) : evalBody ti0 p n ⟨c60, 27, Go.Proofs.Try.f60.results.toList, o60⟩ [a0, a1] H k = f60 p n a0 a1 H k := by
  rw [f60_raw]
  simp only [f60_l0_eq]
  rfl

/-! 61 loop.example/g00480/laws.eqMsgS -/
noncomputable def f61_l0 (p : Pr β) (n : Nat)  (k : AV → Heap → Option β) : Nat → AV → AV → AV → Heap → Option β
  | 0, _, _, _, _ => none
  | m + 1, t0, t1, t5, H => p.len t0 fun t13 =>
      p.bin .lss t5 t13 fun t14 =>
      p.cond t14
      (p.iadr 4 t0 t5 fun t19 =>
      p.load true 4 t19 H fun t20 =>
      p.iadr 4 t1 t5 fun t23 =>
      p.load true 4 t23 H fun t24 =>
      p.call 4 (.fn 68 [] []) [t20, t24] H fun t25 H =>
      p.un .not t25 fun t26 =>
      p.cond t26
      (k (.sc (.bool false)) H)
      (p.bin .add t5 (.sc (.int .i64 1)) fun t16 =>
      f61_l0 p n  k m t0 t1 t16 H))
      (k (.sc (.bool true)) H)
noncomputable def f61 (p : Pr β) (n : Nat) (a0 a1 : AV) (H : Heap) (k : AV → Heap → Option β) : Option β :=
  p.len a0 fun t7 =>
  p.len a1 fun t9 =>
  p.bin .neq t7 t9 fun t10 =>
  p.cond t10
  (k (.sc (.bool false)) H)
  (f61_l0 p n  k n a0 a1 (.sc (.int .i64 0)) H)
noncomputable def f61_L0 (p : Pr β) (n : Nat)  (k : AV → Heap → Option β) (m : Nat) (tm : Tm) (H : Heap) : Option β :=
  iterC 27 (fun tm H k => evalCode ti0 p o61 27 n (cd c61 [1, 1, 0, 1, 0, 0]) tm H k) (blkK 0 (seqK (fun tm H => evalCode ti0 p o61 27 n (cd c61 [1, 1, 1]) tm H (endK ti0 p Go.Proofs.Try.f61.results.toList k)) (endK ti0 p Go.Proofs.Try.f61.results.toList k))) m tm H
theorem f61_L0_step (p : Pr β) (n : Nat)  (k : AV → Heap → Option β) (m0 : Nat) (t0 t1 t2 t3 t4 t5 t6 t7 t8 t9 t10 t11 t12 t13 t14 t15 t16 t17 t18 t19 t20 t21 t22 t23 t24 t25 t26 : AV) (H : Heap) : f61_L0 p n  k (m0 + 1) [(0, t0), (1, t1), (2, t2), (3, t3), (4, t4), (5, t5), (6, t6), (7, t7), (8, t8), (9, t9), (10, t10), (11, t11), (12, t12), (13, t13), (14, t14), (15, t15), (16, t16), (17, t17), (18, t18), (19, t19), (20, t20), (21, t21), (22, t22), (23, t23), (24, t24), (25, t25), (26, t26)] H =
  p.len t0 fun t13 =>
  p.bin .lss t5 t13 fun t14 =>
  p.cond t14
  (p.iadr 4 t0 t5 fun t19 =>
  p.load true 4 t19 H fun t20 =>
  p.iadr 4 t1 t5 fun t23 =>
  p.load true 4 t23 H fun t24 =>
  p.call 4 (.fn 68 [] []) [t20, t24] H fun t25 H =>
  p.un .not t25 fun t26 =>
  p.cond t26
  (k (.sc (.bool false)) H)
  (p.bin .add t5 (.sc (.int .i64 1)) fun t16 =>
  f61_L0 p n  k m0 [(0, t0), (1, t1), (2, t2), (3, t3), (4, t4), (5, t16), (6, t6), (7, t7), (8, t8), (9, t9), (10, t10), (11, t5), (12, t0), (13, t13), (14, t14), (15, t5), (16, t16), (17, t0), (18, t5), (19, t19), (20, t20), (21, t1), (22, t5), (23, t23), (24, t24), (25, t25), (26, t26)] H))
  (k (.sc (.bool true)) H) := by kernel_rfl
theorem f61_l0_eq (p : Pr β) (n : Nat)  (k : AV → Heap → Option β)   (m0 : Nat) : ∀ (t0 t1 t2 t3 t4 t5 t6 t7 t8 t9 t10 t11 t12 t13 t14 t15 t16 t17 t18 t19 t20 t21 t22 t23 t24 t25 t26 : AV) (H : Heap), f61_L0 p n  k m0 [(0, t0), (1, t1), (2, t2), (3, t3), (4, t4), (5, t5), (6, t6), (7, t7), (8, t8), (9, t9), (10, t10), (11, t11), (12, t12), (13, t13), (14, t14), (15, t15), (16, t16), (17, t17), (18, t18), (19, t19), (20, t20), (21, t21), (22, t22), (23, t23), (24, t24), (25, t25), (26, t26)] H = f61_l0 p n  k m0 t0 t1 t5 H := by
  induction m0 with
  | zero => intros; rfl
  | succ m0 ih =>
    intro t0 t1 t2 t3 t4 t5 t6 t7 t8 t9 t10 t11 t12 t13 t14 t15 t16 t17 t18 t19 t20 t21 t22 t23 t24 t25 t26 H
    rw [f61_L0_step]
    simp only [ih]
    rfl
theorem f61_raw (p : Pr β) (n : Nat) (a0 a1 : AV) (H : Heap) (k : AV → Heap → Option β) : evalBody ti0 p n ⟨c61, 27, Go.Proofs.Try.f61.results.toList, o61⟩ [a0, a1] H k =
  p.len a0 fun t7 =>
  p.len a1 fun t9 =>
  p.bin .neq t7 t9 fun t10 =>
  p.cond t10
  (k (.sc (.bool false)) H)
  (f61_L0 p n  k n [(0, a0), (1, a1), (2, (.sc undef)), (3, (.sc undef)), (4, (.sc (.bool false))), (5, (.sc (.int .i64 0))), (6, a0), (7, t7), (8, a1), (9, t9), (10, t10), (11, (.sc undef)), (12, (.sc undef)), (13, (.sc undef)), (14, (.sc undef)), (15, (.sc undef)), (16, (.sc undef)), (17, (.sc undef)), (18, (.sc undef)), (19, (.sc undef)), (20, (.sc undef)), (21, (.sc undef)), (22, (.sc undef)), (23, (.sc undef)), (24, (.sc undef)), (25, (.sc undef)), (26, (.sc undef))] H) := by kernel_rfl
theorem f61_body (p : Pr β) (n : Nat) (a0 a1 : AV) (H : Heap) (k : AV → Heap → Option β) : evalBody ti0 p n ⟨c61, 27, Go.Proofs.Try.f61.results.toList, o61⟩ [a0, a1] H k = f61 p n a0 a1 H k := by
  rw [f61_raw]
  simp only [f61_l0_eq]
  rfl

/-! 48 loop.example/g00480/laws.eqOut -/
noncomputable def f48 (p : Pr β) (n : Nat) (a0 a1 : AV) (H : Heap) (k : AV → Heap → Option β) : Option β :=
  p.box a0 H fun t2 H =>
  p.box a1 H fun t3 H =>
  p.fadr 0 t2 fun t5 =>
  p.load false 1 t5 H fun t6 =>
  p.fadr 0 t3 fun t7 =>
  p.load false 1 t7 H fun t8 =>
  p.bin .neq t6 t8 fun t9 =>
  p.cond t9
  (k (.sc (.bool false)) H)
  (p.fadr 1 t2 fun t10 =>
  p.load false 1 t10 H fun t11 =>
  p.fadr 1 t3 fun t12 =>
  p.load false 1 t12 H fun t13 =>
  p.call 4 (.fn 60 [] []) [t11, t13] H fun t14 H =>
  p.un .not t14 fun t15 =>
  p.cond t15
  (k (.sc (.bool false)) H)
  (p.fadr 2 t2 fun t16 =>
  p.load false 1 t16 H fun t17 =>
  p.fadr 2 t3 fun t18 =>
  p.load false 1 t18 H fun t19 =>
  p.call 4 (.fn 61 [] []) [t17, t19] H fun t20 H =>
  p.un .not t20 fun t21 =>
  p.cond t21
  (k (.sc (.bool false)) H)
  (k (.sc (.bool true)) H)))
theorem f48_body (p : Pr β) (n : Nat) (a0 a1 : AV) (H : Heap) (k : AV → Heap → Option β) : evalBody ti0 p n ⟨c48, 22, Go.Proofs.Try.f48.results.toList, o48⟩ [a0, a1] H k = f48 p n a0 a1 H k := by kernel_rfl

/-! 49 loop.example/g00480/laws.eqIntS -/
noncomputable def f49_l0 (p : Pr β) (n : Nat)  (k : AV → Heap → Option β) : Nat → AV → AV → AV → Heap → Option β
  | 0, _, _, _, _ => none
  | m + 1, t0, t1, t5, H => p.len t0 fun t13 =>
      p.bin .lss t5 t13 fun t14 =>
      p.cond t14
      (p.iadr 1 t0 t5 fun t19 =>
      p.load false 1 t19 H fun t20 =>
      p.iadr 1 t1 t5 fun t23 =>
      p.load false 1 t23 H fun t24 =>
      p.bin .neq t20 t24 fun t25 =>
      p.cond t25
      (k (.sc (.bool false)) H)
      (p.bin .add t5 (.sc (.int .i64 1)) fun t16 =>
      f49_l0 p n  k m t0 t1 t16 H))
      (k (.sc (.bool true)) H)
noncomputable def f49 (p : Pr β) (n : Nat) (a0 a1 : AV) (H : Heap) (k : AV → Heap → Option β) : Option β :=
  p.len a0 fun t7 =>
  p.len a1 fun t9 =>
  p.bin .neq t7 t9 fun t10 =>
  p.cond t10
  (k (.sc (.bool false)) H)
  (f49_l0 p n  k n a0 a1 (.sc (.int .i64 0)) H)
noncomputable def f49_L0 (p : Pr β) (n : Nat)  (k : AV → Heap → Option β) (m : Nat) (tm : Tm) (H : Heap) : Option β :=
  iterC 26 (fun tm H k => evalCode ti0 p o49 26 n (cd c49 [1, 1, 0, 1, 0, 0]) tm H k) (blkK 0 (seqK (fun tm H => evalCode ti0 p o49 26 n (cd c49 [1, 1, 1]) tm H (endK ti0 p Go.Proofs.Try.f49.results.toList k)) (endK ti0 p Go.Proofs.Try.f49.results.toList k))) m tm H
theorem f49_L0_step (p : Pr β) (n : Nat)  (k : AV → Heap → Option β) (m0 : Nat) (t0 t1 t2 t3 t4 t5 t6 t7 t8 t9 t10 t11 t12 t13 t14 t15 t16 t17 t18 t19 t20 t21 t22 t23 t24 t25 : AV) (H : Heap) : f49_L0 p n  k (m0 + 1) [(0, t0), (1, t1), (2, t2), (3, t3), (4, t4), (5, t5), (6, t6), (7, t7), (8, t8), (9, t9), (10, t10), (11, t11), (12, t12), (13, t13), (14, t14), (15, t15), (16, t16), (17, t17), (18, t18), (19, t19), (20, t20), (21, t21), (22, t22), (23, t23), (24, t24), (25, t25)] H =
  p.len t0 fun t13 =>
  p.bin .lss t5 t13 fun t14 =>
  p.cond t14
  (p.iadr 1 t0 t5 fun t19 =>
  p.load false 1 t19 H fun t20 =>
  p.iadr 1 t1 t5 fun t23 =>
  p.load false 1 t23 H fun t24 =>
  p.bin .neq t20 t24 fun t25 =>
  p.cond t25
  (k (.sc (.bool false)) H)
  (p.bin .add t5 (.sc (.int .i64 1)) fun t16 =>
  f49_L0 p n  k m0 [(0, t0), (1, t1), (2, t2), (3, t3), (4, t4), (5, t16), (6, t6), (7, t7), (8, t8), (9, t9), (10, t10), (11, t5), (12, t0), (13, t13), (14, t14), (15, t5), (16, t16), (17, t0), (18, t5), (19, t19), (20, t20), (21, t1), (22, t5), (23, t23), (24, t24), (25, t25)] H))
  (k (.sc (.bool true)) H) := by kernel_rfl
theorem f49_l0_eq (p : Pr β) (n : Nat)  (k : AV → Heap → Option β)   (m0 : Nat) : ∀ (t0 t1 t2 t3 t4 t5 t6 t7 t8 t9 t10 t11 t12 t13 t14 t15 t16 t17 t18 t19 t20 t21 t22 t23 t24 t25 : AV) (H : Heap), f49_L0 p n  k m0 [(0, t0), (1, t1), (2, t2), (3, t3), (4, t4), (5, t5), (6, t6), (7, t7), (8, t8), (9, t9), (10, t10), (11, t11), (12, t12), (13, t13), (14, t14), (15, t15), (16, t16), (17, t17), (18, t18), (19, t19), (20, t20), (21, t21), (22, t22), (23, t23), (24, t24), (25, t25)] H = f49_l0 p n  k m0 t0 t1 t5 H := by
  induction m0 with
  | zero => intros; rfl
  | succ m0 ih =>
    intro t0 t1 t2 t3 t4 t5 t6 t7 t8 t9 t10 t11 t12 t13 t14 t15 t16 t17 t18 t19 t20 t21 t22 t23 t24 t25 H
    rw [f49_L0_step]
    simp only [ih]
    rfl
theorem f49_raw (p : Pr β) (n : Nat) (a0 a1 : AV) (H : Heap) (k : AV → Heap → Option β) : evalBody ti0 p n ⟨c49, 26, Go.Proofs.Try.f49.results.toList, o49⟩ [a0, a1] H k =
  p.len a0 fun t7 =>
  p.len a1 fun t9 =>
  p.bin .neq t7 t9 fun t10 =>
  p.cond t10
  (k (.sc (.bool false)) H)
  (f49_L0 p n  k n [(0, a0), (1, a1), (2, (.sc undef)), (3, (.sc undef)), (4, (.sc (.bool false))), (5, (.sc (.int .i64 0))), (6, a0), (7, t7), (8, a1), (9, t9), (10, t10), (11, (.sc undef)), (12, (.sc undef)), (13, (.sc undef)), (14, (.sc undef)), (15, (.sc undef)), (16, (.sc undef)), (17, (.sc undef)), (18, (.sc undef)), (19, (.sc undef)), (20, (.sc undef)), (21, (.sc undef)), (22, (.sc undef)), (23, (.sc undef)), (24, (.sc undef)), (25, (.sc undef))] H) := by kernel_rfl
theorem f49_body (p : Pr β) (n : Nat) (a0 a1 : AV) (H : Heap) (k : AV → Heap → Option β) : evalBody ti0 p n ⟨c49, 26, Go.Proofs.Try.f49.results.toList, o49⟩ [a0, a1] H k = f49 p n a0 a1 H k := by
  rw [f49_raw]
  simp only [f49_l0_eq]
  rfl

/-! 32 loop.example/g00480/laws.eqSess -/
noncomputable def f32 (p : Pr β) (n : Nat) (a0 a1 : AV) (H : Heap) (k : AV → Heap → Option β) : Option β :=
  p.box a0 H fun t2 H =>
  p.box a1 H fun t3 H =>
  p.fadr 0 t2 fun t5 =>
  p.load false 1 t5 H fun t6 =>
  p.fadr 0 t3 fun t7 =>
  p.load false 1 t7 H fun t8 =>
  p.bin .neq t6 t8 fun t9 =>
  p.cond t9
  (k (.sc (.bool false)) H)
  (p.fadr 1 t2 fun t10 =>
  p.load false 1 t10 H fun t11 =>
  p.fadr 1 t3 fun t12 =>
  p.load false 1 t12 H fun t13 =>
  p.bin .neq t11 t13 fun t14 =>
  p.cond t14
  (k (.sc (.bool false)) H)
  (p.fadr 2 t2 fun t15 =>
  p.load false 1 t15 H fun t16 =>
  p.fadr 2 t3 fun t17 =>
  p.load false 1 t17 H fun t18 =>
  p.binB .neq t16 t18 fun t19 =>
  p.cond t19
  (k (.sc (.bool false)) H)
  (p.fadr 3 t2 fun t20 =>
  p.load false 1 t20 H fun t21 =>
  p.fadr 3 t3 fun t22 =>
  p.load false 1 t22 H fun t23 =>
  p.bin .neq t21 t23 fun t24 =>
  p.cond t24
  (k (.sc (.bool false)) H)
  (p.fadr 4 t2 fun t25 =>
  p.load false 1 t25 H fun t26 =>
  p.fadr 4 t3 fun t27 =>
  p.load false 1 t27 H fun t28 =>
  p.bin .neq t26 t28 fun t29 =>
  p.cond t29
  (k (.sc (.bool false)) H)
  (p.fadr 5 t2 fun t30 =>
  p.load true 3 t30 H fun t31 =>
  p.fadr 5 t3 fun t32 =>
  p.load true 3 t32 H fun t33 =>
  p.call 4 (.fn 48 [] []) [t31, t33] H fun t34 H =>
  p.un .not t34 fun t35 =>
  p.cond t35
  (k (.sc (.bool false)) H)
  (p.fadr 8 t2 fun t36 =>
  p.load false 1 t36 H fun t37 =>
  p.fadr 8 t3 fun t38 =>
  p.load false 1 t38 H fun t39 =>
  p.call 4 (.fn 49 [] []) [t37, t39] H fun t40 H =>
  p.un .not t40 fun t41 =>
  p.cond t41
  (k (.sc (.bool false)) H)
  (k (.sc (.bool true)) H)))))))
theorem f32_body (p : Pr β) (n : Nat) (a0 a1 : AV) (H : Heap) (k : AV → Heap → Option β) : evalBody ti0 p n ⟨c32, 42, Go.Proofs.Try.f32.results.toList, o32⟩ [a0, a1] H k = f32 p n a0 a1 H k := by kernel_rfl

/-! 23 loop.example/g00480/laws.eqSessS -/
noncomputable def f23_l0 (p : Pr β) (n : Nat)  (k : AV → Heap → Option β) : Nat → AV → AV → AV → Heap → Option β
  | 0, _, _, _, _ => none
  | m + 1, t0, t1, t5, H => p.len t0 fun t13 =>
      p.bin .lss t5 t13 fun t14 =>
      p.cond t14
      (p.iadr 9 t0 t5 fun t19 =>
      p.load true 9 t19 H fun t20 =>
      p.iadr 9 t1 t5 fun t23 =>
      p.load true 9 t23 H fun t24 =>
      p.call 4 (.fn 32 [] []) [t20, t24] H fun t25 H =>
      p.un .not t25 fun t26 =>
      p.cond t26
      (k (.sc (.bool false)) H)
      (p.bin .add t5 (.sc (.int .i64 1)) fun t16 =>
      f23_l0 p n  k m t0 t1 t16 H))
      (k (.sc (.bool true)) H)
noncomputable def f23 (p : Pr β) (n : Nat) (a0 a1 : AV) (H : Heap) (k : AV → Heap → Option β) : Option β :=
  p.len a0 fun t7 =>
  p.len a1 fun t9 =>
  p.bin .neq t7 t9 fun t10 =>
  p.cond t10
  (k (.sc (.bool false)) H)
  (f23_l0 p n  k n a0 a1 (.sc (.int .i64 0)) H)
noncomputable def f23_L0 (p : Pr β) (n : Nat)  (k : AV → Heap → Option β) (m : Nat) (tm : Tm) (H : Heap) : Option β :=
  iterC 27 (fun tm H k => evalCode ti0 p o23 27 n (cd c23 [1, 1, 0, 1, 0, 0]) tm H k) (blkK 0 (seqK (fun tm H => evalCode ti0 p o23 27 n (cd c23 [1, 1, 1]) tm H (endK ti0 p Go.Proofs.Try.f23.results.toList k)) (endK ti0 p Go.Proofs.Try.f23.results.toList k))) m tm H
theorem f23_L0_step (p : Pr β) (n : Nat)  (k : AV → Heap → Option β) (m0 : Nat) (t0 t1 t2 t3 t4 t5 t6 t7 t8 t9 t10 t11 t12 t13 t14 t15 t16 t17 t18 t19 t20 t21 t22 t23 t24 t25 t26 : AV) (H : Heap) : f23_L0 p n  k (m0 + 1) [(0, t0), (1, t1), (2, t2), (3, t3), (4, t4), (5, t5), (6, t6), (7, t7), (8, t8), (9, t9), (10, t10), (11, t11), (12, t12), (13, t13), (14, t14), (15, t15), (16, t16), (17, t17), (18, t18), (19, t19), (20, t20), (21, t21), (22, t22), (23, t23), (24, t24), (25, t25), (26, t26)] H =
  p.len t0 fun t13 =>
  p.bin .lss t5 t13 fun t14 =>
  p.cond t14
  (p.iadr 9 t0 t5 fun t19 =>
  p.load true 9 t19 H fun t20 =>
  p.iadr 9 t1 t5 fun t23 =>
  p.load true 9 t23 H fun t24 =>
  p.call 4 (.fn 32 [] []) [t20, t24] H fun t25 H =>
  p.un .not t25 fun t26 =>
  p.cond t26
  (k (.sc (.bool false)) H)
  (p.bin .add t5 (.sc (.int .i64 1)) fun t16 =>
  f23_L0 p n  k m0 [(0, t0), (1, t1), (2, t2), (3, t3), (4, t4), (5, t16), (6, t6), (7, t7), (8, t8), (9, t9), (10, t10), (11, t5), (12, t0), (13, t13), (14, t14), (15, t5), (16, t16), (17, t0), (18, t5), (19, t19), (20, t20), (21, t1), (22, t5), (23, t23), (24, t24), (25, t25), (26, t26)] H))
  (k (.sc (.bool true)) H) := by kernel_rfl
theorem f23_l0_eq (p : Pr β) (n : Nat)  (k : AV → Heap → Option β)   (m0 : Nat) : ∀ (t0 t1 t2 t3 t4 t5 t6 t7 t8 t9 t10 t11 t12 t13 t14 t15 t16 t17 t18 t19 t20 t21 t22 t23 t24 t25 t26 : AV) (H : Heap), f23_L0 p n  k m0 [(0, t0), (1, t1), (2, t2), (3, t3), (4, t4), (5, t5), (6, t6), (7, t7), (8, t8), (9, t9), (10, t10), (11, t11), (12, t12), (13, t13), (14, t14), (15, t15), (16, t16), (17, t17), (18, t18), (19, t19), (20, t20), (21, t21), (22, t22), (23, t23), (24, t24), (25, t25), (26, t26)] H = f23_l0 p n  k m0 t0 t1 t5 H := by
  induction m0 with
  | zero => intros; rfl
  | succ m0 ih =>
    intro t0 t1 t2 t3 t4 t5 t6 t7 t8 t9 t10 t11 t12 t13 t14 t15 t16 t17 t18 t19 t20 t21 t22 t23 t24 t25 t26 H
    rw [f23_L0_step]
    simp only [ih]
    rfl
theorem f23_raw (p : Pr β) (n : Nat) (a0 a1 : AV) (H : Heap) (k : AV → Heap → Option β) : evalBody ti0 p n ⟨c23, 27, Go.Proofs.Try.f23.results.toList, o23⟩ [a0, a1] H k =
  p.len a0 fun t7 =>
  p.len a1 fun t9 =>
  p.bin .neq t7 t9 fun t10 =>
  p.cond t10
  (k (.sc (.bool false)) H)
  (f23_L0 p n  k n [(0, a0), (1, a1), (2, (.sc undef)), (3, (.sc undef)), (4, (.sc (.bool false))), (5, (.sc (.int .i64 0))), (6, a0), (7, t7), (8, a1), (9, t9), (10, t10), (11, (.sc undef)), (12, (.sc undef)), (13, (.sc undef)), (14, (.sc undef)), (15, (.sc undef)), (16, (.sc undef)), (17, (.sc undef)), (18, (.sc undef)), (19, (.sc undef)), (20, (.sc undef)), (21, (.sc undef)), (22, (.sc undef)), (23, (.sc undef)), (24, (.sc undef)), (25, (.sc undef)), (26, (.sc undef))] H) := by kernel_rfl
theorem f23_body (p : Pr β) (n : Nat) (a0 a1 : AV) (H : Heap) (k : AV → Heap → Option β) : evalBody ti0 p n ⟨c23, 27, Go.Proofs.Try.f23.results.toList, o23⟩ [a0, a1] H k = f23 p n a0 a1 H k := by
  rw [f23_raw]
  simp only [f23_l0_eq]
  rfl

/-! 10 loop.example/g00480/laws.eqStripe -/
noncomputable def f10 (p : Pr β) (n : Nat) (a0 a1 : AV) (H : Heap) (k : AV → Heap → Option β) : Option β :=
  p.box a0 H fun t2 H =>
  p.box a1 H fun t3 H =>
  p.fadr 0 t2 fun t5 =>
  p.load false 1 t5 H fun t6 =>
  p.fadr 0 t3 fun t7 =>
  p.load false 1 t7 H fun t8 =>
  p.bin .neq t6 t8 fun t9 =>
  p.cond t9
  (k (.sc (.bool false)) H)
  (p.fadr 1 t2 fun t10 =>
  p.load false 1 t10 H fun t11 =>
  p.fadr 1 t3 fun t12 =>
  p.load false 1 t12 H fun t13 =>
  p.call 4 (.fn 23 [] []) [t11, t13] H fun t14 H =>
  p.un .not t14 fun t15 =>
  p.cond t15
  (k (.sc (.bool false)) H)
  (k (.sc (.bool true)) H))
theorem f10_body (p : Pr β) (n : Nat) (a0 a1 : AV) (H : Heap) (k : AV → Heap → Option β) : evalBody ti0 p n ⟨c10, 16, Go.Proofs.Try.f10.results.toList, o10⟩ [a0, a1] H k = f10 p n a0 a1 H k := by kernel_rfl

/-! 33 loop.example/g00480/laws.markText -/
noncomputable def f33_l0 (p : Pr β) (n : Nat)  (k : AV → Heap → Option β) : Nat → AV → AV → Heap → Option β
  | 0, _, _, _ => none
  | m + 1, t0, t3, H => p.bin .gtr t0 (.sc (.int .i64 0)) fun t7 =>
      p.cond t7
      (p.bin .rem t0 (.sc (.int .i64 10)) fun t9 =>
      p.bin .add (.sc (.int .i64 48)) t9 fun t10 =>
      p.cvI .u8 t10 fun t11 =>
      p.fill [(.sc (.int .u8 0))] [(0, 1, t11)] fun ct12 => p.newSl 1 1 ct12 true H fun t12 H =>
      p.cvBS t12 H fun t13 =>
      p.bin .add t13 t3 fun t15 =>
      p.bin .quo t0 (.sc (.int .i64 10)) fun t17 =>
      f33_l0 p n  k m t17 t15 H)
      (p.bin .add (.sc (.string ⟨#[109]⟩)) t3 fun t19 =>
      k t19 H)
noncomputable def f33 (p : Pr β) (n : Nat) (a0 : AV) (H : Heap) (k : AV → Heap → Option β) : Option β :=
  p.bin .leq a0 (.sc (.int .i64 0)) fun t5 =>
  p.cond t5
  (k (.sc (.string ⟨#[109, 48]⟩)) H)
  (f33_l0 p n  k n a0 (.sc (.string ⟨#[]⟩)) H)
noncomputable def f33_L0 (p : Pr β) (n : Nat)  (k : AV → Heap → Option β) (m : Nat) (tm : Tm) (H : Heap) : Option β :=
  iterC 20 (fun tm H k => evalCode ti0 p o33 20 n (cd c33 [1, 1, 1, 0, 0, 0]) tm H k) (blkK 0 (seqK (fun tm H => evalCode ti0 p o33 20 n (cd c33 [1, 1, 1, 1]) tm H (endK ti0 p Go.Proofs.Try.f33.results.toList k)) (endK ti0 p Go.Proofs.Try.f33.results.toList k))) m tm H
theorem f33_L0_step (p : Pr β) (n : Nat)  (k : AV → Heap → Option β) (m0 : Nat) (t0 t1 t2 t3 t4 t5 t6 t7 t8 t9 t10 t11 t12 t13 t14 t15 t16 t17 t18 t19 : AV) (H : Heap) : f33_L0 p n  k (m0 + 1) [(0, t0), (1, t1), (2, t2), (3, t3), (4, t4), (5, t5), (6, t6), (7, t7), (8, t8), (9, t9), (10, t10), (11, t11), (12, t12), (13, t13), (14, t14), (15, t15), (16, t16), (17, t17), (18, t18), (19, t19)] H =
  p.bin .gtr t0 (.sc (.int .i64 0)) fun t7 =>
  p.cond t7
  (p.bin .rem t0 (.sc (.int .i64 10)) fun t9 =>
  p.bin .add (.sc (.int .i64 48)) t9 fun t10 =>
  p.cvI .u8 t10 fun t11 =>
  p.fill [(.sc (.int .u8 0))] [(0, 1, t11)] fun ct12 => p.newSl 1 1 ct12 true H fun t12 H =>
  p.cvBS t12 H fun t13 =>
  p.bin .add t13 t3 fun t15 =>
  p.bin .quo t0 (.sc (.int .i64 10)) fun t17 =>
  f33_L0 p n  k m0 [(0, t17), (1, t1), (2, t2), (3, t15), (4, t4), (5, t5), (6, t0), (7, t7), (8, t0), (9, t9), (10, t10), (11, t11), (12, t12), (13, t13), (14, t3), (15, t15), (16, t0), (17, t17), (18, t18), (19, t19)] H)
  (p.bin .add (.sc (.string ⟨#[109]⟩)) t3 fun t19 =>
  k t19 H) := by kernel_rfl
theorem f33_l0_eq (p : Pr β) (n : Nat)  (k : AV → Heap → Option β)   (m0 : Nat) : ∀ (t0 t1 t2 t3 t4 t5 t6 t7 t8 t9 t10 t11 t12 t13 t14 t15 t16 t17 t18 t19 : AV) (H : Heap), f33_L0 p n  k m0 [(0, t0), (1, t1), (2, t2), (3, t3), (4, t4), (5, t5), (6, t6), (7, t7), (8, t8), (9, t9), (10, t10), (11, t11), (12, t12), (13, t13), (14, t14), (15, t15), (16, t16), (17, t17), (18, t18), (19, t19)] H = f33_l0 p n  k m0 t0 t3 H := by
  induction m0 with
  | zero => intros; rfl
  | succ m0 ih =>
    intro t0 t1 t2 t3 t4 t5 t6 t7 t8 t9 t10 t11 t12 t13 t14 t15 t16 t17 t18 t19 H
    rw [f33_L0_step]
    simp only [ih]
    rfl
theorem f33_raw (p : Pr β) (n : Nat) (a0 : AV) (H : Heap) (k : AV → Heap → Option β) : evalBody ti0 p n ⟨c33, 20, Go.Proofs.Try.f33.results.toList, o33⟩ [a0] H k =
  p.bin .leq a0 (.sc (.int .i64 0)) fun t5 =>
  p.cond t5
  (k (.sc (.string ⟨#[109, 48]⟩)) H)
  (f33_L0 p n  k n [(0, a0), (1, (.sc undef)), (2, (.sc (.string ⟨#[]⟩))), (3, (.sc (.string ⟨#[]⟩))), (4, a0), (5, t5), (6, (.sc undef)), (7, (.sc undef)), (8, (.sc undef)), (9, (.sc undef)), (10, (.sc undef)), (11, (.sc undef)), (12, (.sc undef)), (13, (.sc undef)), (14, (.sc undef)), (15, (.sc undef)), (16, (.sc undef)), (17, (.sc undef)), (18, (.sc undef)), (19, (.sc undef))] H) := by kernel_rfl
theorem f33_body (p : Pr β) (n : Nat) (a0 : AV) (H : Heap) (k : AV → Heap → Option β) : evalBody ti0 p n ⟨c33, 20, Go.Proofs.Try.f33.results.toList, o33⟩ [a0] H k = f33 p n a0 H k := by
  rw [f33_raw]
  simp only [f33_l0_eq]
  rfl

/-! 50 loop.example/g00480/laws.markByteS -/
noncomputable def f50_l0 (p : Pr β) (n : Nat)  (k : AV → Heap → Option β) : Nat → AV → AV → AV → Heap → Option β
  | 0, _, _, _, _ => none
  | m + 1, t0, t1, t5, H => p.len t0 fun t8 =>
      p.bin .lss t5 t8 fun t9 =>
      p.cond t9
      (p.cvI .u8 t1 fun t15 =>
      p.iadr 1 t0 t5 fun t16 =>
      p.store 1 t16 t15 H fun H =>
      p.bin .add t1 (.sc (.int .i64 1)) fun t18 =>
      p.bin .add t5 (.sc (.int .i64 1)) fun t11 =>
      f50_l0 p n  k m t0 t18 t11 H)
      (k t1 H)
noncomputable def f50 (p : Pr β) (n : Nat) (a0 a1 : AV) (H : Heap) (k : AV → Heap → Option β) : Option β :=
  f50_l0 p n  k n a0 a1 (.sc (.int .i64 0)) H
noncomputable def f50_L0 (p : Pr β) (n : Nat)  (k : AV → Heap → Option β) (m : Nat) (tm : Tm) (H : Heap) : Option β :=
  iterC 20 (fun tm H k => evalCode ti0 p o50 20 n (cd c50 [1, 0, 1, 0, 0]) tm H k) (blkK 0 (seqK (fun tm H => evalCode ti0 p o50 20 n (cd c50 [1, 1]) tm H (endK ti0 p Go.Proofs.Try.f50.results.toList k)) (endK ti0 p Go.Proofs.Try.f50.results.toList k))) m tm H
theorem f50_L0_step (p : Pr β) (n : Nat)  (k : AV → Heap → Option β) (m0 : Nat) (t0 t1 t2 t3 t4 t5 t6 t7 t8 t9 t10 t11 t12 t13 t14 t15 t16 t17 t18 t19 : AV) (H : Heap) : f50_L0 p n  k (m0 + 1) [(0, t0), (1, t1), (2, t2), (3, t3), (4, t4), (5, t5), (6, t6), (7, t7), (8, t8), (9, t9), (10, t10), (11, t11), (12, t12), (13, t13), (14, t14), (15, t15), (16, t16), (17, t17), (18, t18), (19, t19)] H =
  p.len t0 fun t8 =>
  p.bin .lss t5 t8 fun t9 =>
  p.cond t9
  (p.cvI .u8 t1 fun t15 =>
  p.iadr 1 t0 t5 fun t16 =>
  p.store 1 t16 t15 H fun H =>
  p.bin .add t1 (.sc (.int .i64 1)) fun t18 =>
  p.bin .add t5 (.sc (.int .i64 1)) fun t11 =>
  f50_L0 p n  k m0 [(0, t0), (1, t18), (2, t2), (3, t3), (4, t4), (5, t11), (6, t5), (7, t0), (8, t8), (9, t9), (10, t5), (11, t11), (12, t0), (13, t5), (14, t1), (15, t15), (16, t16), (17, t1), (18, t18), (19, t19)] H)
  (k t1 H) := by kernel_rfl
theorem f50_l0_eq (p : Pr β) (n : Nat)  (k : AV → Heap → Option β)   (m0 : Nat) : ∀ (t0 t1 t2 t3 t4 t5 t6 t7 t8 t9 t10 t11 t12 t13 t14 t15 t16 t17 t18 t19 : AV) (H : Heap), f50_L0 p n  k m0 [(0, t0), (1, t1), (2, t2), (3, t3), (4, t4), (5, t5), (6, t6), (7, t7), (8, t8), (9, t9), (10, t10), (11, t11), (12, t12), (13, t13), (14, t14), (15, t15), (16, t16), (17, t17), (18, t18), (19, t19)] H = f50_l0 p n  k m0 t0 t1 t5 H := by
  induction m0 with
  | zero => intros; rfl
  | succ m0 ih =>
    intro t0 t1 t2 t3 t4 t5 t6 t7 t8 t9 t10 t11 t12 t13 t14 t15 t16 t17 t18 t19 H
    rw [f50_L0_step]
    simp only [ih]
    rfl
theorem f50_raw (p : Pr β) (n : Nat) (a0 a1 : AV) (H : Heap) (k : AV → Heap → Option β) : evalBody ti0 p n ⟨c50, 20, Go.Proofs.Try.f50.results.toList, o50⟩ [a0, a1] H k =
  f50_L0 p n  k n [(0, a0), (1, a1), (2, (.sc undef)), (3, (.sc undef)), (4, (.sc (.int .i64 0))), (5, (.sc (.int .i64 0))), (6, (.sc undef)), (7, (.sc undef)), (8, (.sc undef)), (9, (.sc undef)), (10, (.sc undef)), (11, (.sc undef)), (12, (.sc undef)), (13, (.sc undef)), (14, (.sc undef)), (15, (.sc undef)), (16, (.sc undef)), (17, (.sc undef)), (18, (.sc undef)), (19, (.sc undef))] H := by kernel_rfl
theorem f50_body (p : Pr β) (n : Nat) (a0 a1 : AV) (H : Heap) (k : AV → Heap → Option β) : evalBody ti0 p n ⟨c50, 20, Go.Proofs.Try.f50.results.toList, o50⟩ [a0, a1] H k = f50 p n a0 a1 H k := by
  rw [f50_raw]
  simp only [f50_l0_eq]
  rfl

/-! 34 loop.example/g00480/laws.markFlightS -/
noncomputable def f34_l0 (p : Pr β) (n : Nat)  (k : AV → Heap → Option β) : Nat → AV → AV → AV → Heap → Option β
  | 0, _, _, _, _ => none
  | m + 1, t0, t1, t5, H => p.len t0 fun t8 =>
      p.bin .lss t5 t8 fun t9 =>
      p.cond t9
      (p.iadr 6 t0 t5 fun t15 =>
      p.fadr 0 t15 fun t16 =>
      p.store 1 t16 t1 H fun H =>
      p.bin .add t1 (.sc (.int .i64 1)) fun t18 =>
      p.call 9 (.fn 33 [] []) [t18] H fun t22 H =>
      p.iadr 6 t0 t5 fun t23 =>
      p.fadr 1 t23 fun t24 =>
      p.fadr 0 t24 fun t25 =>
      p.store 1 t25 t22 H fun H =>
      p.bin .add t18 (.sc (.int .i64 1)) fun t27 =>
      p.iadr 6 t0 t5 fun t30 =>
      p.fadr 1 t30 fun t31 =>
      p.fadr 1 t31 fun t32 =>
      p.load false 1 t32 H fun t33 =>
      p.call 3 (.fn 50 [] []) [t33, t27] H fun t35 H =>
      p.iadr 6 t0 t5 fun t39 =>
      p.fadr 1 t39 fun t40 =>
      p.fadr 2 t40 fun t41 =>
      p.store 1 t41 t35 H fun H =>
      p.bin .add t35 (.sc (.int .i64 1)) fun t43 =>
      p.bin .rem t43 (.sc (.int .i64 3)) fun t47 =>
      p.bin .eql t47 (.sc (.int .i64 0)) fun t48 =>
      p.iadr 6 t0 t5 fun t49 =>
      p.fadr 1 t49 fun t50 =>
      p.fadr 3 t50 fun t51 =>
      p.store 1 t51 t48 H fun H =>
      p.bin .add t43 (.sc (.int .i64 1)) fun t53 =>
      p.iadr 6 t0 t5 fun t57 =>
      p.fadr 5 t57 fun t58 =>
      p.store 1 t58 t53 H fun H =>
      p.bin .add t53 (.sc (.int .i64 1)) fun t60 =>
      p.bin .add t5 (.sc (.int .i64 1)) fun t11 =>
      f34_l0 p n  k m t0 t60 t11 H)
      (k t1 H)
noncomputable def f34 (p : Pr β) (n : Nat) (a0 a1 : AV) (H : Heap) (k : AV → Heap → Option β) : Option β :=
  f34_l0 p n  k n a0 a1 (.sc (.int .i64 0)) H
noncomputable def f34_L0 (p : Pr β) (n : Nat)  (k : AV → Heap → Option β) (m : Nat) (tm : Tm) (H : Heap) : Option β :=
  iterC 62 (fun tm H k => evalCode ti0 p o34 62 n (cd c34 [1, 0, 1, 0, 0]) tm H k) (blkK 0 (seqK (fun tm H => evalCode ti0 p o34 62 n (cd c34 [1, 1]) tm H (endK ti0 p Go.Proofs.Try.f34.results.toList k)) (endK ti0 p Go.Proofs.Try.f34.results.toList k))) m tm H
theorem f34_L0_step (p : Pr β) (n : Nat)  (k : AV → Heap → Option β) (m0 : Nat) (t0 t1 t2 t3 t4 t5 t6 t7 t8 t9 t10 t11 t12 t13 t14 t15 t16 t17 t18 t19 t20 t21 t22 t23 t24 t25 t26 t27 t28 t29 t30 t31 t32 t33 t34 t35 t36 t37 t38 t39 t40 t41 t42 t43 t44 t45 t46 t47 t48 t49 t50 t51 t52 t53 t54 t55 t56 t57 t58 t59 t60 t61 : AV) (H : Heap) : f34_L0 p n  k (m0 + 1) [(0, t0), (1, t1), (2, t2), (3, t3), (4, t4), (5, t5), (6, t6), (7, t7), (8, t8), (9, t9), (10, t10), (11, t11), (12, t12), (13, t13), (14, t14), (15, t15), (16, t16), (17, t17), (18, t18), (19, t19), (20, t20), (21, t21), (22, t22), (23, t23), (24, t24), (25, t25), (26, t26), (27, t27), (28, t28), (29, t29), (30, t30), (31, t31), (32, t32), (33, t33), (34, t34), (35, t35), (36, t36), (37, t37), (38, t38), (39, t39), (40, t40), (41, t41), (42, t42), (43, t43), (44, t44), (45, t45), (46, t46), (47, t47), (48, t48), (49, t49), (50, t50), (51, t51), (52, t52), (53, t53), (54, t54), (55, t55), (56, t56), (57, t57), (58, t58), (59, t59), (60, t60), (61, t61)] H =
  p.len t0 fun t8 =>
  p.bin .lss t5 t8 fun t9 =>
  p.cond t9
  (p.iadr 6 t0 t5 fun t15 =>
  p.fadr 0 t15 fun t16 =>
  p.store 1 t16 t1 H fun H =>
  p.bin .add t1 (.sc (.int .i64 1)) fun t18 =>
  p.call 9 (.fn 33 [] []) [t18] H fun t22 H =>
  p.iadr 6 t0 t5 fun t23 =>
  p.fadr 1 t23 fun t24 =>
  p.fadr 0 t24 fun t25 =>
  p.store 1 t25 t22 H fun H =>
  p.bin .add t18 (.sc (.int .i64 1)) fun t27 =>
  p.iadr 6 t0 t5 fun t30 =>
  p.fadr 1 t30 fun t31 =>
  p.fadr 1 t31 fun t32 =>
  p.load false 1 t32 H fun t33 =>
  p.call 3 (.fn 50 [] []) [t33, t27] H fun t35 H =>
  p.iadr 6 t0 t5 fun t39 =>
  p.fadr 1 t39 fun t40 =>
  p.fadr 2 t40 fun t41 =>
  p.store 1 t41 t35 H fun H =>
  p.bin .add t35 (.sc (.int .i64 1)) fun t43 =>
  p.bin .rem t43 (.sc (.int .i64 3)) fun t47 =>
  p.bin .eql t47 (.sc (.int .i64 0)) fun t48 =>
  p.iadr 6 t0 t5 fun t49 =>
  p.fadr 1 t49 fun t50 =>
  p.fadr 3 t50 fun t51 =>
  p.store 1 t51 t48 H fun H =>
  p.bin .add t43 (.sc (.int .i64 1)) fun t53 =>
  p.iadr 6 t0 t5 fun t57 =>
  p.fadr 5 t57 fun t58 =>
  p.store 1 t58 t53 H fun H =>
  p.bin .add t53 (.sc (.int .i64 1)) fun t60 =>
  p.bin .add t5 (.sc (.int .i64 1)) fun t11 =>
  f34_L0 p n  k m0 [(0, t0), (1, t60), (2, t2), (3, t3), (4, t4), (5, t11), (6, t5), (7, t0), (8, t8), (9, t9), (10, t5), (11, t11), (12, t0), (13, t5), (14, t1), (15, t15), (16, t16), (17, t1), (18, t18), (19, t0), (20, t5), (21, t18), (22, t22), (23, t23), (24, t24), (25, t25), (26, t18), (27, t27), (28, t0), (29, t5), (30, t30), (31, t31), (32, t32), (33, t33), (34, t27), (35, t35), (36, t0), (37, t5), (38, t35), (39, t39), (40, t40), (41, t41), (42, t35), (43, t43), (44, t0), (45, t5), (46, t43), (47, t47), (48, t48), (49, t49), (50, t50), (51, t51), (52, t43), (53, t53), (54, t0), (55, t5), (56, t53), (57, t57), (58, t58), (59, t53), (60, t60), (61, t61)] H)
  (k t1 H) := by kernel_rfl
theorem f34_l0_eq (p : Pr β) (n : Nat)  (k : AV → Heap → Option β)   (m0 : Nat) : ∀ (t0 t1 t2 t3 t4 t5 t6 t7 t8 t9 t10 t11 t12 t13 t14 t15 t16 t17 t18 t19 t20 t21 t22 t23 t24 t25 t26 t27 t28 t29 t30 t31 t32 t33 t34 t35 t36 t37 t38 t39 t40 t41 t42 t43 t44 t45 t46 t47 t48 t49 t50 t51 t52 t53 t54 t55 t56 t57 t58 t59 t60 t61 : AV) (H : Heap), f34_L0 p n  k m0 [(0, t0), (1, t1), (2, t2), (3, t3), (4, t4), (5, t5), (6, t6), (7, t7), (8, t8), (9, t9), (10, t10), (11, t11), (12, t12), (13, t13), (14, t14), (15, t15), (16, t16), (17, t17), (18, t18), (19, t19), (20, t20), (21, t21), (22, t22), (23, t23), (24, t24), (25, t25), (26, t26), (27, t27), (28, t28), (29, t29), (30, t30), (31, t31), (32, t32), (33, t33), (34, t34), (35, t35), (36, t36), (37, t37), (38, t38), (39, t39), (40, t40), (41, t41), (42, t42), (43, t43), (44, t44), (45, t45), (46, t46), (47, t47), (48, t48), (49, t49), (50, t50), (51, t51), (52, t52), (53, t53), (54, t54), (55, t55), (56, t56), (57, t57), (58, t58), (59, t59), (60, t60), (61, t61)] H = f34_l0 p n  k m0 t0 t1 t5 H := by
  induction m0 with
  | zero => intros; rfl
  | succ m0 ih =>
    intro t0 t1 t2 t3 t4 t5 t6 t7 t8 t9 t10 t11 t12 t13 t14 t15 t16 t17 t18 t19 t20 t21 t22 t23 t24 t25 t26 t27 t28 t29 t30 t31 t32 t33 t34 t35 t36 t37 t38 t39 t40 t41 t42 t43 t44 t45 t46 t47 t48 t49 t50 t51 t52 t53 t54 t55 t56 t57 t58 t59 t60 t61 H
    rw [f34_L0_step]
    simp only [ih]
    rfl
theorem f34_raw (p : Pr β) (n : Nat) (a0 a1 : AV) (H : Heap) (k : AV → Heap → Option β) : evalBody ti0 p n ⟨c34, 62, Go.Proofs.Try.f34.results.toList, o34⟩ [a0, a1] H k =
  f34_L0 p n  k n [(0, a0), (1, a1), (2, (.sc undef)), (3, (.sc undef)), (4, (.sc (.int .i64 0))), (5, (.sc (.int .i64 0))), (6, (.sc undef)), (7, (.sc undef)), (8, (.sc undef)), (9, (.sc undef)), (10, (.sc undef)), (11, (.sc undef)), (12, (.sc undef)), (13, (.sc undef)), (14, (.sc undef)), (15, (.sc undef)), (16, (.sc undef)), (17, (.sc undef)), (18, (.sc undef)), (19, (.sc undef)), (20, (.sc undef)), (21, (.sc undef)), (22, (.sc undef)), (23, (.sc undef)), (24, (.sc undef)), (25, (.sc undef)), (26, (.sc undef)), (27, (.sc undef)), (28, (.sc undef)), (29, (.sc undef)), (30, (.sc undef)), (31, (.sc undef)), (32, (.sc undef)), (33, (.sc undef)), (34, (.sc undef)), (35, (.sc undef)), (36, (.sc undef)), (37, (.sc undef)), (38, (.sc undef)), (39, (.sc undef)), (40, (.sc undef)), (41, (.sc undef)), (42, (.sc undef)), (43, (.sc undef)), (44, (.sc undef)), (45, (.sc undef)), (46, (.sc undef)), (47, (.sc undef)), (48, (.sc undef)), (49, (.sc undef)), (50, (.sc undef)), (51, (.sc undef)), (52, (.sc undef)), (53, (.sc undef)), (54, (.sc undef)), (55, (.sc undef)), (56, (.sc undef)), (57, (.sc undef)), (58, (.sc undef)), (59, (.sc undef)), (60, (.sc undef)), (61, (.sc undef))] H := by kernel_rfl
theorem f34_body (p : Pr β) (n : Nat) (a0 a1 : AV) (H : Heap) (k : AV → Heap → Option β) : evalBody ti0 p n ⟨c34, 62, Go.Proofs.Try.f34.results.toList, o34⟩ [a0, a1] H k = f34 p n a0 a1 H k := by
  rw [f34_raw]
  simp only [f34_l0_eq]
  rfl

/-! 35 loop.example/g00480/laws.markMsgS -/
noncomputable def f35_l0 (p : Pr β) (n : Nat)  (k : AV → Heap → Option β) : Nat → AV → AV → AV → Heap → Option β
  | 0, _, _, _, _ => none
  | m + 1, t0, t1, t5, H => p.len t0 fun t8 =>
      p.bin .lss t5 t8 fun t9 =>
      p.cond t9
      (p.call 9 (.fn 33 [] []) [t1] H fun t15 H =>
      p.iadr 4 t0 t5 fun t16 =>
      p.fadr 0 t16 fun t17 =>
      p.store 1 t17 t15 H fun H =>
      p.bin .add t1 (.sc (.int .i64 1)) fun t19 =>
      p.iadr 4 t0 t5 fun t22 =>
      p.fadr 1 t22 fun t23 =>
      p.load false 1 t23 H fun t24 =>
      p.call 3 (.fn 50 [] []) [t24, t19] H fun t26 H =>
      p.iadr 4 t0 t5 fun t30 =>
      p.fadr 2 t30 fun t31 =>
      p.store 1 t31 t26 H fun H =>
      p.bin .add t26 (.sc (.int .i64 1)) fun t33 =>
      p.bin .rem t33 (.sc (.int .i64 3)) fun t37 =>
      p.bin .eql t37 (.sc (.int .i64 0)) fun t38 =>
      p.iadr 4 t0 t5 fun t39 =>
      p.fadr 3 t39 fun t40 =>
      p.store 1 t40 t38 H fun H =>
      p.bin .add t33 (.sc (.int .i64 1)) fun t42 =>
      p.bin .add t5 (.sc (.int .i64 1)) fun t11 =>
      f35_l0 p n  k m t0 t42 t11 H)
      (k t1 H)
noncomputable def f35 (p : Pr β) (n : Nat) (a0 a1 : AV) (H : Heap) (k : AV → Heap → Option β) : Option β :=
  f35_l0 p n  k n a0 a1 (.sc (.int .i64 0)) H
noncomputable def f35_L0 (p : Pr β) (n : Nat)  (k : AV → Heap → Option β) (m : Nat) (tm : Tm) (H : Heap) : Option β :=
  iterC 44 (fun tm H k => evalCode ti0 p o35 44 n (cd c35 [1, 0, 1, 0, 0]) tm H k) (blkK 0 (seqK (fun tm H => evalCode ti0 p o35 44 n (cd c35 [1, 1]) tm H (endK ti0 p Go.Proofs.Try.f35.results.toList k)) (endK ti0 p Go.Proofs.Try.f35.results.toList k))) m tm H
theorem f35_L0_step (p : Pr β) (n : Nat)  (k : AV → Heap → Option β) (m0 : Nat) (t0 t1 t2 t3 t4 t5 t6 t7 t8 t9 t10 t11 t12 t13 t14 t15 t16 t17 t18 t19 t20 t21 t22 t23 t24 t25 t26 t27 t28 t29 t30 t31 t32 t33 t34 t35 t36 t37 t38 t39 t40 t41 t42 t43 : AV) (H : Heap) : f35_L0 p n  k (m0 + 1) [(0, t0), (1, t1), (2, t2), (3, t3), (4, t4), (5, t5), (6, t6), (7, t7), (8, t8), (9, t9), (10, t10), (11, t11), (12, t12), (13, t13), (14, t14), (15, t15), (16, t16), (17, t17), (18, t18), (19, t19), (20, t20), (21, t21), (22, t22), (23, t23), (24, t24), (25, t25), (26, t26), (27, t27), (28, t28), (29, t29), (30, t30), (31, t31), (32, t32), (33, t33), (34, t34), (35, t35), (36, t36), (37, t37), (38, t38), (39, t39), (40, t40), (41, t41), (42, t42), (43, t43)] H =
  p.len t0 fun t8 =>
  p.bin .lss t5 t8 fun t9 =>
  p.cond t9
  (p.call 9 (.fn 33 [] []) [t1] H fun t15 H =>
  p.iadr 4 t0 t5 fun t16 =>
  p.fadr 0 t16 fun t17 =>
  p.store 1 t17 t15 H fun H =>
  p.bin .add t1 (.sc (.int .i64 1)) fun t19 =>
  p.iadr 4 t0 t5 fun t22 =>
  p.fadr 1 t22 fun t23 =>
  p.load false 1 t23 H fun t24 =>
  p.call 3 (.fn 50 [] []) [t24, t19] H fun t26 H =>
  p.iadr 4 t0 t5 fun t30 =>
  p.fadr 2 t30 fun t31 =>
  p.store 1 t31 t26 H fun H =>
  p.bin .add t26 (.sc (.int .i64 1)) fun t33 =>
  p.bin .rem t33 (.sc (.int .i64 3)) fun t37 =>
  p.bin .eql t37 (.sc (.int .i64 0)) fun t38 =>
  p.iadr 4 t0 t5 fun t39 =>
  p.fadr 3 t39 fun t40 =>
  p.store 1 t40 t38 H fun H =>
  p.bin .add t33 (.sc (.int .i64 1)) fun t42 =>
  p.bin .add t5 (.sc (.int .i64 1)) fun t11 =>
  f35_L0 p n  k m0 [(0, t0), (1, t42), (2, t2), (3, t3), (4, t4), (5, t11), (6, t5), (7, t0), (8, t8), (9, t9), (10, t5), (11, t11), (12, t0), (13, t5), (14, t1), (15, t15), (16, t16), (17, t17), (18, t1), (19, t19), (20, t0), (21, t5), (22, t22), (23, t23), (24, t24), (25, t19), (26, t26), (27, t0), (28, t5), (29, t26), (30, t30), (31, t31), (32, t26), (33, t33), (34, t0), (35, t5), (36, t33), (37, t37), (38, t38), (39, t39), (40, t40), (41, t33), (42, t42), (43, t43)] H)
  (k t1 H) := by kernel_rfl
theorem f35_l0_eq (p : Pr β) (n : Nat)  (k : AV → Heap → Option β)   (m0 : Nat) : ∀ (t0 t1 t2 t3 t4 t5 t6 t7 t8 t9 t10 t11 t12 t13 t14 t15 t16 t17 t18 t19 t20 t21 t22 t23 t24 t25 t26 t27 t28 t29 t30 t31 t32 t33 t34 t35 t36 t37 t38 t39 t40 t41 t42 t43 : AV) (H : Heap), f35_L0 p n  k m0 [(0, t0), (1, t1), (2, t2), (3, t3), (4, t4), (5, t5), (6, t6), (7, t7), (8, t8), (9, t9), (10, t10), (11, t11), (12, t12), (13, t13), (14, t14), (15, t15), (16, t16), (17, t17), (18, t18), (19, t19), (20, t20), (21, t21), (22, t22), (23, t23), (24, t24), (25, t25), (26, t26), (27, t27), (28, t28), (29, t29), (30, t30), (31, t31), (32, t32), (33, t33), (34, t34), (35, t35), (36, t36), (37, t37), (38, t38), (39, t39), (40, t40), (41, t41), (42, t42), (43, t43)] H = f35_l0 p n  k m0 t0 t1 t5 H := by
  induction m0 with
  | zero => intros; rfl
  | succ m0 ih =>
    intro t0 t1 t2 t3 t4 t5 t6 t7 t8 t9 t10 t11 t12 t13 t14 t15 t16 t17 t18 t19 t20 t21 t22 t23 t24 t25 t26 t27 t28 t29 t30 t31 t32 t33 t34 t35 t36 t37 t38 t39 t40 t41 t42 t43 H
    rw [f35_L0_step]
    simp only [ih]
    rfl
theorem f35_raw (p : Pr β) (n : Nat) (a0 a1 : AV) (H : Heap) (k : AV → Heap → Option β) : evalBody ti0 p n ⟨c35, 44, Go.Proofs.Try.f35.results.toList, o35⟩ [a0, a1] H k =
  f35_L0 p n  k n [(0, a0), (1, a1), (2, (.sc undef)), (3, (.sc undef)), (4, (.sc (.int .i64 0))), (5, (.sc (.int .i64 0))), (6, (.sc undef)), (7, (.sc undef)), (8, (.sc undef)), (9, (.sc undef)), (10, (.sc undef)), (11, (.sc undef)), (12, (.sc undef)), (13, (.sc undef)), (14, (.sc undef)), (15, (.sc undef)), (16, (.sc undef)), (17, (.sc undef)), (18, (.sc undef)), (19, (.sc undef)), (20, (.sc undef)), (21, (.sc undef)), (22, (.sc undef)), (23, (.sc undef)), (24, (.sc undef)), (25, (.sc undef)), (26, (.sc undef)), (27, (.sc undef)), (28, (.sc undef)), (29, (.sc undef)), (30, (.sc undef)), (31, (.sc undef)), (32, (.sc undef)), (33, (.sc undef)), (34, (.sc undef)), (35, (.sc undef)), (36, (.sc undef)), (37, (.sc undef)), (38, (.sc undef)), (39, (.sc undef)), (40, (.sc undef)), (41, (.sc undef)), (42, (.sc undef)), (43, (.sc undef))] H := by kernel_rfl
theorem f35_body (p : Pr β) (n : Nat) (a0 a1 : AV) (H : Heap) (k : AV → Heap → Option β) : evalBody ti0 p n ⟨c35, 44, Go.Proofs.Try.f35.results.toList, o35⟩ [a0, a1] H k = f35 p n a0 a1 H k := by
  rw [f35_raw]
  simp only [f35_l0_eq]
  rfl

/-! 36 loop.example/g00480/laws.markIntS -/
noncomputable def f36_l0 (p : Pr β) (n : Nat)  (k : AV → Heap → Option β) : Nat → AV → AV → AV → Heap → Option β
  | 0, _, _, _, _ => none
  | m + 1, t0, t1, t5, H => p.len t0 fun t8 =>
      p.bin .lss t5 t8 fun t9 =>
      p.cond t9
      (p.iadr 1 t0 t5 fun t15 =>
      p.store 1 t15 t1 H fun H =>
      p.bin .add t1 (.sc (.int .i64 1)) fun t17 =>
      p.bin .add t5 (.sc (.int .i64 1)) fun t11 =>
      f36_l0 p n  k m t0 t17 t11 H)
      (k t1 H)
noncomputable def f36 (p : Pr β) (n : Nat) (a0 a1 : AV) (H : Heap) (k : AV → Heap → Option β) : Option β :=
  f36_l0 p n  k n a0 a1 (.sc (.int .i64 0)) H
noncomputable def f36_L0 (p : Pr β) (n : Nat)  (k : AV → Heap → Option β) (m : Nat) (tm : Tm) (H : Heap) : Option β :=
  iterC 19 (fun tm H k => evalCode ti0 p o36 19 n (cd c36 [1, 0, 1, 0, 0]) tm H k) (blkK 0 (seqK (fun tm H => evalCode ti0 p o36 19 n (cd c36 [1, 1]) tm H (endK ti0 p Go.Proofs.Try.f36.results.toList k)) (endK ti0 p Go.Proofs.Try.f36.results.toList k))) m tm H
theorem f36_L0_step (p : Pr β) (n : Nat)  (k : AV → Heap → Option β) (m0 : Nat) (t0 t1 t2 t3 t4 t5 t6 t7 t8 t9 t10 t11 t12 t13 t14 t15 t16 t17 t18 : AV) (H : Heap) : f36_L0 p n  k (m0 + 1) [(0, t0), (1, t1), (2, t2), (3, t3), (4, t4), (5, t5), (6, t6), (7, t7), (8, t8), (9, t9), (10, t10), (11, t11), (12, t12), (13, t13), (14, t14), (15, t15), (16, t16), (17, t17), (18, t18)] H =
  p.len t0 fun t8 =>
  p.bin .lss t5 t8 fun t9 =>
  p.cond t9
  (p.iadr 1 t0 t5 fun t15 =>
  p.store 1 t15 t1 H fun H =>
  p.bin .add t1 (.sc (.int .i64 1)) fun t17 =>
  p.bin .add t5 (.sc (.int .i64 1)) fun t11 =>
  f36_L0 p n  k m0 [(0, t0), (1, t17), (2, t2), (3, t3), (4, t4), (5, t11), (6, t5), (7, t0), (8, t8), (9, t9), (10, t5), (11, t11), (12, t0), (13, t5), (14, t1), (15, t15), (16, t1), (17, t17), (18, t18)] H)
  (k t1 H) := by kernel_rfl
theorem f36_l0_eq (p : Pr β) (n : Nat)  (k : AV → Heap → Option β)   (m0 : Nat) : ∀ (t0 t1 t2 t3 t4 t5 t6 t7 t8 t9 t10 t11 t12 t13 t14 t15 t16 t17 t18 : AV) (H : Heap), f36_L0 p n  k m0 [(0, t0), (1, t1), (2, t2), (3, t3), (4, t4), (5, t5), (6, t6), (7, t7), (8, t8), (9, t9), (10, t10), (11, t11), (12, t12), (13, t13), (14, t14), (15, t15), (16, t16), (17, t17), (18, t18)] H = f36_l0 p n  k m0 t0 t1 t5 H := by
  induction m0 with
  | zero => intros; rfl
  | succ m0 ih =>
    intro t0 t1 t2 t3 t4 t5 t6 t7 t8 t9 t10 t11 t12 t13 t14 t15 t16 t17 t18 H
    rw [f36_L0_step]
    simp only [ih]
    rfl
theorem f36_raw (p : Pr β) (n : Nat) (a0 a1 : AV) (H : Heap) (k : AV → Heap → Option β) : evalBody ti0 p n ⟨c36, 19, Go.Proofs.Try.f36.results.toList, o36⟩ [a0, a1] H k =
  f36_L0 p n  k n [(0, a0), (1, a1), (2, (.sc undef)), (3, (.sc undef)), (4, (.sc (.int .i64 0))), (5, (.sc (.int .i64 0))), (6, (.sc undef)), (7, (.sc undef)), (8, (.sc undef)), (9, (.sc undef)), (10, (.sc undef)), (11, (.sc undef)), (12, (.sc undef)), (13, (.sc undef)), (14, (.sc undef)), (15, (.sc undef)), (16, (.sc undef)), (17, (.sc undef)), (18, (.sc undef))] H := by kernel_rfl
theorem f36_body (p : Pr β) (n : Nat) (a0 a1 : AV) (H : Heap) (k : AV → Heap → Option β) : evalBody ti0 p n ⟨c36, 19, Go.Proofs.Try.f36.results.toList, o36⟩ [a0, a1] H k = f36 p n a0 a1 H k := by
  rw [f36_raw]
  simp only [f36_l0_eq]
  rfl

/-! 24 loop.example/g00480/laws.markSessS -/
noncomputable def f24_l0 (p : Pr β) (n : Nat)  (k : AV → Heap → Option β) : Nat → AV → AV → AV → Heap → Option β
  | 0, _, _, _, _ => none
  | m + 1, t0, t1, t5, H => p.len t0 fun t8 =>
      p.bin .lss t5 t8 fun t9 =>
      p.cond t9
      (p.call 9 (.fn 33 [] []) [t1] H fun t15 H =>
      p.iadr 9 t0 t5 fun t16 =>
      p.fadr 0 t16 fun t17 =>
      p.store 1 t17 t15 H fun H =>
      p.bin .add t1 (.sc (.int .i64 1)) fun t19 =>
      p.iadr 9 t0 t5 fun t23 =>
      p.fadr 1 t23 fun t24 =>
      p.store 1 t24 t19 H fun H =>
      p.bin .add t19 (.sc (.int .i64 1)) fun t26 =>
      p.bin .rem t26 (.sc (.int .i64 3)) fun t30 =>
      p.bin .eql t30 (.sc (.int .i64 0)) fun t31 =>
      p.iadr 9 t0 t5 fun t32 =>
      p.fadr 2 t32 fun t33 =>
      p.store 1 t33 t31 H fun H =>
      p.bin .add t26 (.sc (.int .i64 1)) fun t35 =>
      p.iadr 9 t0 t5 fun t39 =>
      p.fadr 3 t39 fun t40 =>
      p.store 1 t40 t35 H fun H =>
      p.bin .add t35 (.sc (.int .i64 1)) fun t42 =>
      p.iadr 9 t0 t5 fun t46 =>
      p.fadr 4 t46 fun t47 =>
      p.store 1 t47 t42 H fun H =>
      p.bin .add t42 (.sc (.int .i64 1)) fun t49 =>
      p.iadr 9 t0 t5 fun t53 =>
      p.fadr 5 t53 fun t54 =>
      p.fadr 0 t54 fun t55 =>
      p.store 1 t55 t49 H fun H =>
      p.bin .add t49 (.sc (.int .i64 1)) fun t57 =>
      p.iadr 9 t0 t5 fun t60 =>
      p.fadr 5 t60 fun t61 =>
      p.fadr 1 t61 fun t62 =>
      p.load false 1 t62 H fun t63 =>
      p.call 3 (.fn 34 [] []) [t63, t57] H fun t65 H =>
      p.iadr 9 t0 t5 fun t68 =>
      p.fadr 5 t68 fun t69 =>
      p.fadr 2 t69 fun t70 =>
      p.load false 1 t70 H fun t71 =>
      p.call 3 (.fn 35 [] []) [t71, t65] H fun t73 H =>
      p.iadr 9 t0 t5 fun t76 =>
      p.fadr 8 t76 fun t77 =>
      p.load false 1 t77 H fun t78 =>
      p.call 3 (.fn 36 [] []) [t78, t73] H fun t80 H =>
      p.bin .add t5 (.sc (.int .i64 1)) fun t11 =>
      f24_l0 p n  k m t0 t80 t11 H)
      (k t1 H)
noncomputable def f24 (p : Pr β) (n : Nat) (a0 a1 : AV) (H : Heap) (k : AV → Heap → Option β) : Option β :=
  f24_l0 p n  k n a0 a1 (.sc (.int .i64 0)) H
noncomputable def f24_L0 (p : Pr β) (n : Nat)  (k : AV → Heap → Option β) (m : Nat) (tm : Tm) (H : Heap) : Option β :=
  iterC 82 (fun tm H k => evalCode ti0 p o24 82 n (cd c24 [1, 0, 1, 0, 0]) tm H k) (blkK 0 (seqK (fun tm H => evalCode ti0 p o24 82 n (cd c24 [1, 1]) tm H (endK ti0 p Go.Proofs.Try.f24.results.toList k)) (endK ti0 p Go.Proofs.Try.f24.results.toList k))) m tm H
theorem f24_L0_step (p : Pr β) (n : Nat)  (k : AV → Heap → Option β) (m0 : Nat) (t0 t1 t2 t3 t4 t5 t6 t7 t8 t9 t10 t11 t12 t13 t14 t15 t16 t17 t18 t19 t20 t21 t22 t23 t24 t25 t26 t27 t28 t29 t30 t31 t32 t33 t34 t35 t36 t37 t38 t39 t40 t41 t42 t43 t44 t45 t46 t47 t48 t49 t50 t51 t52 t53 t54 t55 t56 t57 t58 t59 t60 t61 t62 t63 t64 t65 t66 t67 t68 t69 t70 t71 t72 t73 t74 t75 t76 t77 t78 t79 t80 t81 : AV) (H : Heap) : f24_L0 p n  k (m0 + 1) [(0, t0), (1, t1), (2, t2), (3, t3), (4, t4), (5, t5), (6, t6), (7, t7), (8, t8), (9, t9), (10, t10), (11, t11), (12, t12), (13, t13), (14, t14), (15, t15), (16, t16), (17, t17), (18, t18), (19, t19), (20, t20), (21, t21), (22, t22), (23, t23), (24, t24), (25, t25), (26, t26), (27, t27), (28, t28), (29, t29), (30, t30), (31, t31), (32, t32), (33, t33), (34, t34), (35, t35), (36, t36), (37, t37), (38, t38), (39, t39), (40, t40), (41, t41), (42, t42), (43, t43), (44, t44), (45, t45), (46, t46), (47, t47), (48, t48), (49, t49), (50, t50), (51, t51), (52, t52), (53, t53), (54, t54), (55, t55), (56, t56), (57, t57), (58, t58), (59, t59), (60, t60), (61, t61), (62, t62), (63, t63), (64, t64), (65, t65), (66, t66), (67, t67), (68, t68), (69, t69), (70, t70), (71, t71), (72, t72), (73, t73), (74, t74), (75, t75), (76, t76), (77, t77), (78, t78), (79, t79), (80, t80), (81, t81)] H =
  p.len t0 fun t8 =>
  p.bin .lss t5 t8 fun t9 =>
  p.cond t9
  (p.call 9 (.fn 33 [] []) [t1] H fun t15 H =>
  p.iadr 9 t0 t5 fun t16 =>
  p.fadr 0 t16 fun t17 =>
  p.store 1 t17 t15 H fun H =>
  p.bin .add t1 (.sc (.int .i64 1)) fun t19 =>
  p.iadr 9 t0 t5 fun t23 =>
  p.fadr 1 t23 fun t24 =>
  p.store 1 t24 t19 H fun H =>
  p.bin .add t19 (.sc (.int .i64 1)) fun t26 =>
  p.bin .rem t26 (.sc (.int .i64 3)) fun t30 =>
  p.bin .eql t30 (.sc (.int .i64 0)) fun t31 =>
  p.iadr 9 t0 t5 fun t32 =>
  p.fadr 2 t32 fun t33 =>
  p.store 1 t33 t31 H fun H =>
  p.bin .add t26 (.sc (.int .i64 1)) fun t35 =>
  p.iadr 9 t0 t5 fun t39 =>
  p.fadr 3 t39 fun t40 =>
  p.store 1 t40 t35 H fun H =>
  p.bin .add t35 (.sc (.int .i64 1)) fun t42 =>
  p.iadr 9 t0 t5 fun t46 =>
  p.fadr 4 t46 fun t47 =>
  p.store 1 t47 t42 H fun H =>
  p.bin .add t42 (.sc (.int .i64 1)) fun t49 =>
  p.iadr 9 t0 t5 fun t53 =>
  p.fadr 5 t53 fun t54 =>
  p.fadr 0 t54 fun t55 =>
  p.store 1 t55 t49 H fun H =>
  p.bin .add t49 (.sc (.int .i64 1)) fun t57 =>
  p.iadr 9 t0 t5 fun t60 =>
  p.fadr 5 t60 fun t61 =>
  p.fadr 1 t61 fun t62 =>
  p.load false 1 t62 H fun t63 =>
  p.call 3 (.fn 34 [] []) [t63, t57] H fun t65 H =>
  p.iadr 9 t0 t5 fun t68 =>
  p.fadr 5 t68 fun t69 =>
  p.fadr 2 t69 fun t70 =>
  p.load false 1 t70 H fun t71 =>
  p.call 3 (.fn 35 [] []) [t71, t65] H fun t73 H =>
  p.iadr 9 t0 t5 fun t76 =>
  p.fadr 8 t76 fun t77 =>
  p.load false 1 t77 H fun t78 =>
  p.call 3 (.fn 36 [] []) [t78, t73] H fun t80 H =>
  p.bin .add t5 (.sc (.int .i64 1)) fun t11 =>
  f24_L0 p n  k m0 [(0, t0), (1, t80), (2, t2), (3, t3), (4, t4), (5, t11), (6, t5), (7, t0), (8, t8), (9, t9), (10, t5), (11, t11), (12, t0), (13, t5), (14, t1), (15, t15), (16, t16), (17, t17), (18, t1), (19, t19), (20, t0), (21, t5), (22, t19), (23, t23), (24, t24), (25, t19), (26, t26), (27, t0), (28, t5), (29, t26), (30, t30), (31, t31), (32, t32), (33, t33), (34, t26), (35, t35), (36, t0), (37, t5), (38, t35), (39, t39), (40, t40), (41, t35), (42, t42), (43, t0), (44, t5), (45, t42), (46, t46), (47, t47), (48, t42), (49, t49), (50, t0), (51, t5), (52, t49), (53, t53), (54, t54), (55, t55), (56, t49), (57, t57), (58, t0), (59, t5), (60, t60), (61, t61), (62, t62), (63, t63), (64, t57), (65, t65), (66, t0), (67, t5), (68, t68), (69, t69), (70, t70), (71, t71), (72, t65), (73, t73), (74, t0), (75, t5), (76, t76), (77, t77), (78, t78), (79, t73), (80, t80), (81, t81)] H)
  (k t1 H) := by kernel_rfl
theorem f24_l0_eq (p : Pr β) (n : Nat)  (k : AV → Heap → Option β)   (m0 : Nat) : ∀ (t0 t1 t2 t3 t4 t5 t6 t7 t8 t9 t10 t11 t12 t13 t14 t15 t16 t17 t18 t19 t20 t21 t22 t23 t24 t25 t26 t27 t28 t29 t30 t31 t32 t33 t34 t35 t36 t37 t38 t39 t40 t41 t42 t43 t44 t45 t46 t47 t48 t49 t50 t51 t52 t53 t54 t55 t56 t57 t58 t59 t60 t61 t62 t63 t64 t65 t66 t67 t68 t69 t70 t71 t72 t73 t74 t75 t76 t77 t78 t79 t80 t81 : AV) (H : Heap), f24_L0 p n  k m0 [(0, t0), (1, t1), (2, t2), (3, t3), (4, t4), (5, t5), (6, t6), (7, t7), (8, t8), (9, t9), (10, t10), (11, t11), (12, t12), (13, t13), (14, t14), (15, t15), (16, t16), (17, t17), (18, t18), (19, t19), (20, t20), (21, t21), (22, t22), (23, t23), (24, t24), (25, t25), (26, t26), (27, t27), (28, t28), (29, t29), (30, t30), (31, t31), (32, t32), (33, t33), (34, t34), (35, t35), (36, t36), (37, t37), (38, t38), (39, t39), (40, t40), (41, t41), (42, t42), (43, t43), (44, t44), (45, t45), (46, t46), (47, t47), (48, t48), (49, t49), (50, t50), (51, t51), (52, t52), (53, t53), (54, t54), (55, t55), (56, t56), (57, t57), (58, t58), (59, t59), (60, t60), (61, t61), (62, t62), (63, t63), (64, t64), (65, t65), (66, t66), (67, t67), (68, t68), (69, t69), (70, t70), (71, t71), (72, t72), (73, t73), (74, t74), (75, t75), (76, t76), (77, t77), (78, t78), (79, t79), (80, t80), (81, t81)] H = f24_l0 p n  k m0 t0 t1 t5 H := by
  induction m0 with
  | zero => intros; rfl
  | succ m0 ih =>
    intro t0 t1 t2 t3 t4 t5 t6 t7 t8 t9 t10 t11 t12 t13 t14 t15 t16 t17 t18 t19 t20 t21 t22 t23 t24 t25 t26 t27 t28 t29 t30 t31 t32 t33 t34 t35 t36 t37 t38 t39 t40 t41 t42 t43 t44 t45 t46 t47 t48 t49 t50 t51 t52 t53 t54 t55 t56 t57 t58 t59 t60 t61 t62 t63 t64 t65 t66 t67 t68 t69 t70 t71 t72 t73 t74 t75 t76 t77 t78 t79 t80 t81 H
    rw [f24_L0_step]
    simp only [ih]
    rfl
theorem f24_raw (p : Pr β) (n : Nat) (a0 a1 : AV) (H : Heap) (k : AV → Heap → Option β) : evalBody ti0 p n ⟨c24, 82, Go.Proofs.Try.f24.results.toList, o24⟩ [a0, a1] H k =
  f24_L0 p n  k n [(0, a0), (1, a1), (2, (.sc undef)), (3, (.sc undef)), (4, (.sc (.int .i64 0))), (5, (.sc (.int .i64 0))), (6, (.sc undef)), (7, (.sc undef)), (8, (.sc undef)), (9, (.sc undef)), (10, (.sc undef)), (11, (.sc undef)), (12, (.sc undef)), (13, (.sc undef)), (14, (.sc undef)), (15, (.sc undef)), (16, (.sc undef)), (17, (.sc undef)), (18, (.sc undef)), (19, (.sc undef)), (20, (.sc undef)), (21, (.sc undef)), (22, (.sc undef)), (23, (.sc undef)), (24, (.sc undef)), (25, (.sc undef)), (26, (.sc undef)), (27, (.sc undef)), (28, (.sc undef)), (29, (.sc undef)), (30, (.sc undef)), (31, (.sc undef)), (32, (.sc undef)), (33, (.sc undef)), (34, (.sc undef)), (35, (.sc undef)), (36, (.sc undef)), (37, (.sc undef)), (38, (.sc undef)), (39, (.sc undef)), (40, (.sc undef)), (41, (.sc undef)), (42, (.sc undef)), (43, (.sc undef)), (44, (.sc undef)), (45, (.sc undef)), (46, (.sc undef)), (47, (.sc undef)), (48, (.sc undef)), (49, (.sc undef)), (50, (.sc undef)), (51, (.sc undef)), (52, (.sc undef)), (53, (.sc undef)), (54, (.sc undef)), (55, (.sc undef)), (56, (.sc undef)), (57, (.sc undef)), (58, (.sc undef)), (59, (.sc undef)), (60, (.sc undef)), (61, (.sc undef)), (62, (.sc undef)), (63, (.sc undef)), (64, (.sc undef)), (65, (.sc undef)), (66, (.sc undef)), (67, (.sc undef)), (68, (.sc undef)), (69, (.sc undef)), (70, (.sc undef)), (71, (.sc undef)), (72, (.sc undef)), (73, (.sc undef)), (74, (.sc undef)), (75, (.sc undef)), (76, (.sc undef)), (77, (.sc undef)), (78, (.sc undef)), (79, (.sc undef)), (80, (.sc undef)), (81, (.sc undef))] H := by kernel_rfl
theorem f24_body (p : Pr β) (n : Nat) (a0 a1 : AV) (H : Heap) (k : AV → Heap → Option β) : evalBody ti0 p n ⟨c24, 82, Go.Proofs.Try.f24.results.toList, o24⟩ [a0, a1] H k = f24 p n a0 a1 H k := by
  rw [f24_raw]
  simp only [f24_l0_eq]
  rfl

/-! 11 loop.example/g00480/laws.markStripe -/
noncomputable def f11 (p : Pr β) (n : Nat) (a0 a1 : AV) (H : Heap) (k : AV → Heap → Option β) : Option β :=
  p.box a0 H fun t2 H =>
  p.fadr 1 t2 fun t5 =>
  p.load false 1 t5 H fun t6 =>
  p.call 3 (.fn 24 [] []) [t6, a1] H fun t8 H =>
  k t8 H
theorem f11_body (p : Pr β) (n : Nat) (a0 a1 : AV) (H : Heap) (k : AV → Heap → Option β) : evalBody ti0 p n ⟨c11, 10, Go.Proofs.Try.f11.results.toList, o11⟩ [a0, a1] H k = f11 p n a0 a1 H k := by kernel_rfl

/-! 51 loop.example/g00480/laws.heldByteS -/
noncomputable def f51_l0 (p : Pr β) (n : Nat)  (k : AV → Heap → Option β) : Nat → AV → AV → AV → Heap → Option β
  | 0, _, _, _, _ => none
  | m + 1, t0, t1, t5, H => p.len t0 fun t8 =>
      p.bin .lss t5 t8 fun t9 =>
      p.cond t9
      (p.iadr 1 t0 t5 fun t14 =>
      p.load false 1 t14 H fun t15 =>
      p.cvI .u8 t1 fun t17 =>
      p.bin .neq t15 t17 fun t18 =>
      p.cond t18
      (k (.sc (.int .i64 (-1))) H)
      (p.bin .add t1 (.sc (.int .i64 1)) fun t20 =>
      p.bin .add t5 (.sc (.int .i64 1)) fun t11 =>
      f51_l0 p n  k m t0 t20 t11 H))
      (k t1 H)
noncomputable def f51 (p : Pr β) (n : Nat) (a0 a1 : AV) (H : Heap) (k : AV → Heap → Option β) : Option β :=
  f51_l0 p n  k n a0 a1 (.sc (.int .i64 0)) H
noncomputable def f51_L0 (p : Pr β) (n : Nat)  (k : AV → Heap → Option β) (m : Nat) (tm : Tm) (H : Heap) : Option β :=
  iterC 22 (fun tm H k => evalCode ti0 p o51 22 n (cd c51 [1, 0, 1, 0, 0]) tm H k) (blkK 0 (seqK (fun tm H => evalCode ti0 p o51 22 n (cd c51 [1, 1]) tm H (endK ti0 p Go.Proofs.Try.f51.results.toList k)) (endK ti0 p Go.Proofs.Try.f51.results.toList k))) m tm H
theorem f51_L0_step (p : Pr β) (n : Nat)  (k : AV → Heap → Option β) (m0 : Nat) (t0 t1 t2 t3 t4 t5 t6 t7 t8 t9 t10 t11 t12 t13 t14 t15 t16 t17 t18 t19 t20 t21 : AV) (H : Heap) : f51_L0 p n  k (m0 + 1) [(0, t0), (1, t1), (2, t2), (3, t3), (4, t4), (5, t5), (6, t6), (7, t7), (8, t8), (9, t9), (10, t10), (11, t11), (12, t12), (13, t13), (14, t14), (15, t15), (16, t16), (17, t17), (18, t18), (19, t19), (20, t20), (21, t21)] H =
  p.len t0 fun t8 =>
  p.bin .lss t5 t8 fun t9 =>
  p.cond t9
  (p.iadr 1 t0 t5 fun t14 =>
  p.load false 1 t14 H fun t15 =>
  p.cvI .u8 t1 fun t17 =>
  p.bin .neq t15 t17 fun t18 =>
  p.cond t18
  (k (.sc (.int .i64 (-1))) H)
  (p.bin .add t1 (.sc (.int .i64 1)) fun t20 =>
  p.bin .add t5 (.sc (.int .i64 1)) fun t11 =>
  f51_L0 p n  k m0 [(0, t0), (1, t20), (2, t2), (3, t3), (4, t4), (5, t11), (6, t5), (7, t0), (8, t8), (9, t9), (10, t5), (11, t11), (12, t0), (13, t5), (14, t14), (15, t15), (16, t1), (17, t17), (18, t18), (19, t1), (20, t20), (21, t21)] H))
  (k t1 H) := by kernel_rfl
theorem f51_l0_eq (p : Pr β) (n : Nat)  (k : AV → Heap → Option β)   (m0 : Nat) : ∀ (t0 t1 t2 t3 t4 t5 t6 t7 t8 t9 t10 t11 t12 t13 t14 t15 t16 t17 t18 t19 t20 t21 : AV) (H : Heap), f51_L0 p n  k m0 [(0, t0), (1, t1), (2, t2), (3, t3), (4, t4), (5, t5), (6, t6), (7, t7), (8, t8), (9, t9), (10, t10), (11, t11), (12, t12), (13, t13), (14, t14), (15, t15), (16, t16), (17, t17), (18, t18), (19, t19), (20, t20), (21, t21)] H = f51_l0 p n  k m0 t0 t1 t5 H := by
  induction m0 with
  | zero => intros; rfl
  | succ m0 ih =>
    intro t0 t1 t2 t3 t4 t5 t6 t7 t8 t9 t10 t11 t12 t13 t14 t15 t16 t17 t18 t19 t20 t21 H
    rw [f51_L0_step]
    simp only [ih]
    rfl
theorem f51_raw (p : Pr β) (n : Nat) (a0 a1 : AV) (H : Heap) (k : AV → Heap → Option β) : evalBody ti0 p n ⟨c51, 22, Go.Proofs.Try.f51.results.toList, o51⟩ [a0, a1] H k =
  f51_L0 p n  k n [(0, a0), (1, a1), (2, (.sc undef)), (3, (.sc undef)), (4, (.sc (.int .i64 0))), (5, (.sc (.int .i64 0))), (6, (.sc undef)), (7, (.sc undef)), (8, (.sc undef)), (9, (.sc undef)), (10, (.sc undef)), (11, (.sc undef)), (12, (.sc undef)), (13, (.sc undef)), (14, (.sc undef)), (15, (.sc undef)), (16, (.sc undef)), (17, (.sc undef)), (18, (.sc undef)), (19, (.sc undef)), (20, (.sc undef)), (21, (.sc undef))] H := by kernel_rfl
theorem f51_body (p : Pr β) (n : Nat) (a0 a1 : AV) (H : Heap) (k : AV → Heap → Option β) : evalBody ti0 p n ⟨c51, 22, Go.Proofs.Try.f51.results.toList, o51⟩ [a0, a1] H k = f51 p n a0 a1 H k := by
  rw [f51_raw]
  simp only [f51_l0_eq]
  rfl

/-! 37 loop.example/g00480/laws.heldFlightS -/
noncomputable def f37_l0 (p : Pr β) (n : Nat)  (k : AV → Heap → Option β) : Nat → AV → AV → AV → Heap → Option β
  | 0, _, _, _, _ => none
  | m + 1, t0, t1, t5, H => p.len t0 fun t8 =>
      p.bin .lss t5 t8 fun t9 =>
      p.cond t9
      (p.iadr 6 t0 t5 fun t14 =>
      p.fadr 0 t14 fun t15 =>
      p.load false 1 t15 H fun t16 =>
      p.bin .neq t16 t1 fun t18 =>
      p.cond t18
      (k (.sc (.int .i64 (-1))) H)
      (p.bin .add t1 (.sc (.int .i64 1)) fun t20 =>
      p.iadr 6 t0 t5 fun t23 =>
      p.fadr 1 t23 fun t24 =>
      p.fadr 0 t24 fun t25 =>
      p.load false 1 t25 H fun t26 =>
      p.call 9 (.fn 33 [] []) [t20] H fun t28 H =>
      p.bin .neq t26 t28 fun t29 =>
      p.cond t29
      (k (.sc (.int .i64 (-1))) H)
      (p.bin .add t20 (.sc (.int .i64 1)) fun t31 =>
      p.iadr 6 t0 t5 fun t34 =>
      p.fadr 1 t34 fun t35 =>
      p.fadr 1 t35 fun t36 =>
      p.load false 1 t36 H fun t37 =>
      p.call 3 (.fn 51 [] []) [t37, t31] H fun t39 H =>
      p.bin .lss t39 (.sc (.int .i64 0)) fun t41 =>
      p.cond t41
      (k (.sc (.int .i64 (-1))) H)
      (p.iadr 6 t0 t5 fun t44 =>
      p.fadr 1 t44 fun t45 =>
      p.fadr 2 t45 fun t46 =>
      p.load false 1 t46 H fun t47 =>
      p.bin .neq t47 t39 fun t49 =>
      p.cond t49
      (k (.sc (.int .i64 (-1))) H)
      (p.bin .add t39 (.sc (.int .i64 1)) fun t51 =>
      p.iadr 6 t0 t5 fun t54 =>
      p.fadr 1 t54 fun t55 =>
      p.fadr 3 t55 fun t56 =>
      p.load false 1 t56 H fun t57 =>
      p.bin .rem t51 (.sc (.int .i64 3)) fun t59 =>
      p.bin .eql t59 (.sc (.int .i64 0)) fun t60 =>
      p.binB .neq t57 t60 fun t61 =>
      p.cond t61
      (k (.sc (.int .i64 (-1))) H)
      (p.bin .add t51 (.sc (.int .i64 1)) fun t63 =>
      p.iadr 6 t0 t5 fun t66 =>
      p.fadr 5 t66 fun t67 =>
      p.load false 1 t67 H fun t68 =>
      p.bin .neq t68 t63 fun t70 =>
      p.cond t70
      (k (.sc (.int .i64 (-1))) H)
      (p.bin .add t63 (.sc (.int .i64 1)) fun t72 =>
      p.bin .add t5 (.sc (.int .i64 1)) fun t11 =>
      f37_l0 p n  k m t0 t72 t11 H)))))))
      (k t1 H)
noncomputable def f37 (p : Pr β) (n : Nat) (a0 a1 : AV) (H : Heap) (k : AV → Heap → Option β) : Option β :=
  f37_l0 p n  k n a0 a1 (.sc (.int .i64 0)) H
noncomputable def f37_L0 (p : Pr β) (n : Nat)  (k : AV → Heap → Option β) (m : Nat) (tm : Tm) (H : Heap) : Option β :=
  iterC 74 (fun tm H k => evalCode ti0 p o37 74 n (cd c37 [1, 0, 1, 0, 0]) tm H k) (blkK 0 (seqK (fun tm H => evalCode ti0 p o37 74 n (cd c37 [1, 1]) tm H (endK ti0 p Go.Proofs.Try.f37.results.toList k)) (endK ti0 p Go.Proofs.Try.f37.results.toList k))) m tm H
theorem f37_L0_step (p : Pr β) (n : Nat)  (k : AV → Heap → Option β) (m0 : Nat) (t0 t1 t2 t3 t4 t5 t6 t7 t8 t9 t10 t11 t12 t13 t14 t15 t16 t17 t18 t19 t20 t21 t22 t23 t24 t25 t26 t27 t28 t29 t30 t31 t32 t33 t34 t35 t36 t37 t38 t39 t40 t41 t42 t43 t44 t45 t46 t47 t48 t49 t50 t51 t52 t53 t54 t55 t56 t57 t58 t59 t60 t61 t62 t63 t64 t65 t66 t67 t68 t69 t70 t71 t72 t73 : AV) (H : Heap) : f37_L0 p n  k (m0 + 1) [(0, t0), (1, t1), (2, t2), (3, t3), (4, t4), (5, t5), (6, t6), (7, t7), (8, t8), (9, t9), (10, t10), (11, t11), (12, t12), (13, t13), (14, t14), (15, t15), (16, t16), (17, t17), (18, t18), (19, t19), (20, t20), (21, t21), (22, t22), (23, t23), (24, t24), (25, t25), (26, t26), (27, t27), (28, t28), (29, t29), (30, t30), (31, t31), (32, t32), (33, t33), (34, t34), (35, t35), (36, t36), (37, t37), (38, t38), (39, t39), (40, t40), (41, t41), (42, t42), (43, t43), (44, t44), (45, t45), (46, t46), (47, t47), (48, t48), (49, t49), (50, t50), (51, t51), (52, t52), (53, t53), (54, t54), (55, t55), (56, t56), (57, t57), (58, t58), (59, t59), (60, t60), (61, t61), (62, t62), (63, t63), (64, t64), (65, t65), (66, t66), (67, t67), (68, t68), (69, t69), (70, t70), (71, t71), (72, t72), (73, t73)] H =
  p.len t0 fun t8 =>
  p.bin .lss t5 t8 fun t9 =>
  p.cond t9
  (p.iadr 6 t0 t5 fun t14 =>
  p.fadr 0 t14 fun t15 =>
  p.load false 1 t15 H fun t16 =>
  p.bin .neq t16 t1 fun t18 =>
  p.cond t18
  (k (.sc (.int .i64 (-1))) H)
  (p.bin .add t1 (.sc (.int .i64 1)) fun t20 =>
  p.iadr 6 t0 t5 fun t23 =>
  p.fadr 1 t23 fun t24 =>
  p.fadr 0 t24 fun t25 =>
  p.load false 1 t25 H fun t26 =>
  p.call 9 (.fn 33 [] []) [t20] H fun t28 H =>
  p.bin .neq t26 t28 fun t29 =>
  p.cond t29
  (k (.sc (.int .i64 (-1))) H)
  (p.bin .add t20 (.sc (.int .i64 1)) fun t31 =>
  p.iadr 6 t0 t5 fun t34 =>
  p.fadr 1 t34 fun t35 =>
  p.fadr 1 t35 fun t36 =>
  p.load false 1 t36 H fun t37 =>
  p.call 3 (.fn 51 [] []) [t37, t31] H fun t39 H =>
  p.bin .lss t39 (.sc (.int .i64 0)) fun t41 =>
  p.cond t41
  (k (.sc (.int .i64 (-1))) H)
  (p.iadr 6 t0 t5 fun t44 =>
  p.fadr 1 t44 fun t45 =>
  p.fadr 2 t45 fun t46 =>
  p.load false 1 t46 H fun t47 =>
  p.bin .neq t47 t39 fun t49 =>
  p.cond t49
  (k (.sc (.int .i64 (-1))) H)
  (p.bin .add t39 (.sc (.int .i64 1)) fun t51 =>
  p.iadr 6 t0 t5 fun t54 =>
  p.fadr 1 t54 fun t55 =>
  p.fadr 3 t55 fun t56 =>
  p.load false 1 t56 H fun t57 =>
  p.bin .rem t51 (.sc (.int .i64 3)) fun t59 =>
  p.bin .eql t59 (.sc (.int .i64 0)) fun t60 =>
  p.binB .neq t57 t60 fun t61 =>
  p.cond t61
  (k (.sc (.int .i64 (-1))) H)
  (p.bin .add t51 (.sc (.int .i64 1)) fun t63 =>
  p.iadr 6 t0 t5 fun t66 =>
  p.fadr 5 t66 fun t67 =>
  p.load false 1 t67 H fun t68 =>
  p.bin .neq t68 t63 fun t70 =>
  p.cond t70
  (k (.sc (.int .i64 (-1))) H)
  (p.bin .add t63 (.sc (.int .i64 1)) fun t72 =>
  p.bin .add t5 (.sc (.int .i64 1)) fun t11 =>
  f37_L0 p n  k m0 [(0, t0), (1, t72), (2, t2), (3, t3), (4, t4), (5, t11), (6, t5), (7, t0), (8, t8), (9, t9), (10, t5), (11, t11), (12, t0), (13, t5), (14, t14), (15, t15), (16, t16), (17, t1), (18, t18), (19, t1), (20, t20), (21, t0), (22, t5), (23, t23), (24, t24), (25, t25), (26, t26), (27, t20), (28, t28), (29, t29), (30, t20), (31, t31), (32, t0), (33, t5), (34, t34), (35, t35), (36, t36), (37, t37), (38, t31), (39, t39), (40, t39), (41, t41), (42, t0), (43, t5), (44, t44), (45, t45), (46, t46), (47, t47), (48, t39), (49, t49), (50, t39), (51, t51), (52, t0), (53, t5), (54, t54), (55, t55), (56, t56), (57, t57), (58, t51), (59, t59), (60, t60), (61, t61), (62, t51), (63, t63), (64, t0), (65, t5), (66, t66), (67, t67), (68, t68), (69, t63), (70, t70), (71, t63), (72, t72), (73, t73)] H)))))))
  (k t1 H) := by kernel_rfl
theorem f37_l0_eq (p : Pr β) (n : Nat)  (k : AV → Heap → Option β)   (m0 : Nat) : ∀ (t0 t1 t2 t3 t4 t5 t6 t7 t8 t9 t10 t11 t12 t13 t14 t15 t16 t17 t18 t19 t20 t21 t22 t23 t24 t25 t26 t27 t28 t29 t30 t31 t32 t33 t34 t35 t36 t37 t38 t39 t40 t41 t42 t43 t44 t45 t46 t47 t48 t49 t50 t51 t52 t53 t54 t55 t56 t57 t58 t59 t60 t61 t62 t63 t64 t65 t66 t67 t68 t69 t70 t71 t72 t73 : AV) (H : Heap), f37_L0 p n  k m0 [(0, t0), (1, t1), (2, t2), (3, t3), (4, t4), (5, t5), (6, t6), (7, t7), (8, t8), (9, t9), (10, t10), (11, t11), (12, t12), (13, t13), (14, t14), (15, t15), (16, t16), (17, t17), (18, t18), (19, t19), (20, t20), (21, t21), (22, t22), (23, t23), (24, t24), (25, t25), (26, t26), (27, t27), (28, t28), (29, t29), (30, t30), (31, t31), (32, t32), (33, t33), (34, t34), (35, t35), (36, t36), (37, t37), (38, t38), (39, t39), (40, t40), (41, t41), (42, t42), (43, t43), (44, t44), (45, t45), (46, t46), (47, t47), (48, t48), (49, t49), (50, t50), (51, t51), (52, t52), (53, t53), (54, t54), (55, t55), (56, t56), (57, t57), (58, t58), (59, t59), (60, t60), (61, t61), (62, t62), (63, t63), (64, t64), (65, t65), (66, t66), (67, t67), (68, t68), (69, t69), (70, t70), (71, t71), (72, t72), (73, t73)] H = f37_l0 p n  k m0 t0 t1 t5 H := by
  induction m0 with
  | zero => intros; rfl
  | succ m0 ih =>
    intro t0 t1 t2 t3 t4 t5 t6 t7 t8 t9 t10 t11 t12 t13 t14 t15 t16 t17 t18 t19 t20 t21 t22 t23 t24 t25 t26 t27 t28 t29 t30 t31 t32 t33 t34 t35 t36 t37 t38 t39 t40 t41 t42 t43 t44 t45 t46 t47 t48 t49 t50 t51 t52 t53 t54 t55 t56 t57 t58 t59 t60 t61 t62 t63 t64 t65 t66 t67 t68 t69 t70 t71 t72 t73 H
    rw [f37_L0_step]
    simp only [ih]
    rfl
theorem f37_raw (p : Pr β) (n : Nat) (a0 a1 : AV) (H : Heap) (k : AV → Heap → Option β) : evalBody ti0 p n ⟨c37, 74, Go.Proofs.Try.f37.results.toList, o37⟩ [a0, a1] H k =
  f37_L0 p n  k n [(0, a0), (1, a1), (2, (.sc undef)), (3, (.sc undef)), (4, (.sc (.int .i64 0))), (5, (.sc (.int .i64 0))), (6, (.sc undef)), (7, (.sc undef)), (8, (.sc undef)), (9, (.sc undef)), (10, (.sc undef)), (11, (.sc undef)), (12, (.sc undef)), (13, (.sc undef)), (14, (.sc undef)), (15, (.sc undef)), (16, (.sc undef)), (17, (.sc undef)), (18, (.sc undef)), (19, (.sc undef)), (20, (.sc undef)), (21, (.sc undef)), (22, (.sc undef)), (23, (.sc undef)), (24, (.sc undef)), (25, (.sc undef)), (26, (.sc undef)), (27, (.sc undef)), (28, (.sc undef)), (29, (.sc undef)), (30, (.sc undef)), (31, (.sc undef)), (32, (.sc undef)), (33, (.sc undef)), (34, (.sc undef)), (35, (.sc undef)), (36, (.sc undef)), (37, (.sc undef)), (38, (.sc undef)), (39, (.sc undef)), (40, (.sc undef)), (41, (.sc undef)), (42, (.sc undef)), (43, (.sc undef)), (44, (.sc undef)), (45, (.sc undef)), (46, (.sc undef)), (47, (.sc undef)), (48, (.sc undef)), (49, (.sc undef)), (50, (.sc undef)), (51, (.sc undef)), (52, (.sc undef)), (53, (.sc undef)), (54, (.sc undef)), (55, (.sc undef)), (56, (.sc undef)), (57, (.sc undef)), (58, (.sc undef)), (59, (.sc undef)), (60, (.sc undef)), (61, (.sc undef)), (62, (.sc undef)), (63, (.sc undef)), (64, (.sc undef)), (65, (.sc undef)), (66, (.sc undef)), (67, (.sc undef)), (68, (.sc undef)), (69, (.sc undef)), (70, (.sc undef)), (71, (.sc undef)), (72, (.sc undef)), (73, (.sc undef))] H := by kernel_rfl
theorem f37_body (p : Pr β) (n : Nat) (a0 a1 : AV) (H : Heap) (k : AV → Heap → Option β) : evalBody ti0 p n ⟨c37, 74, Go.Proofs.Try.f37.results.toList, o37⟩ [a0, a1] H k = f37 p n a0 a1 H k := by
  rw [f37_raw]
  simp only [f37_l0_eq]
  rfl

/-! 38 loop.example/g00480/laws.heldMsgS -/
noncomputable def f38_l0 (p : Pr β) (n : Nat)  (k : AV → Heap → Option β) : Nat → AV → AV → AV → Heap → Option β
  | 0, _, _, _, _ => none
  | m + 1, t0, t1, t5, H => p.len t0 fun t8 =>
      p.bin .lss t5 t8 fun t9 =>
      p.cond t9
      (p.iadr 4 t0 t5 fun t14 =>
      p.fadr 0 t14 fun t15 =>
      p.load false 1 t15 H fun t16 =>
      p.call 9 (.fn 33 [] []) [t1] H fun t18 H =>
      p.bin .neq t16 t18 fun t19 =>
      p.cond t19
      (k (.sc (.int .i64 (-1))) H)
      (p.bin .add t1 (.sc (.int .i64 1)) fun t21 =>
      p.iadr 4 t0 t5 fun t24 =>
      p.fadr 1 t24 fun t25 =>
      p.load false 1 t25 H fun t26 =>
      p.call 3 (.fn 51 [] []) [t26, t21] H fun t28 H =>
      p.bin .lss t28 (.sc (.int .i64 0)) fun t30 =>
      p.cond t30
      (k (.sc (.int .i64 (-1))) H)
      (p.iadr 4 t0 t5 fun t33 =>
      p.fadr 2 t33 fun t34 =>
      p.load false 1 t34 H fun t35 =>
      p.bin .neq t35 t28 fun t37 =>
      p.cond t37
      (k (.sc (.int .i64 (-1))) H)
      (p.bin .add t28 (.sc (.int .i64 1)) fun t39 =>
      p.iadr 4 t0 t5 fun t42 =>
      p.fadr 3 t42 fun t43 =>
      p.load false 1 t43 H fun t44 =>
      p.bin .rem t39 (.sc (.int .i64 3)) fun t46 =>
      p.bin .eql t46 (.sc (.int .i64 0)) fun t47 =>
      p.binB .neq t44 t47 fun t48 =>
      p.cond t48
      (k (.sc (.int .i64 (-1))) H)
      (p.bin .add t39 (.sc (.int .i64 1)) fun t50 =>
      p.bin .add t5 (.sc (.int .i64 1)) fun t11 =>
      f38_l0 p n  k m t0 t50 t11 H)))))
      (k t1 H)
noncomputable def f38 (p : Pr β) (n : Nat) (a0 a1 : AV) (H : Heap) (k : AV → Heap → Option β) : Option β :=
  f38_l0 p n  k n a0 a1 (.sc (.int .i64 0)) H
noncomputable def f38_L0 (p : Pr β) (n : Nat)  (k : AV → Heap → Option β) (m : Nat) (tm : Tm) (H : Heap) : Option β :=
  iterC 52 (fun tm H k => evalCode ti0 p o38 52 n (cd c38 [1, 0, 1, 0, 0]) tm H k) (blkK 0 (seqK (fun tm H => evalCode ti0 p o38 52 n (cd c38 [1, 1]) tm H (endK ti0 p Go.Proofs.Try.f38.results.toList k)) (endK ti0 p Go.Proofs.Try.f38.results.toList k))) m tm H
theorem f38_L0_step (p : Pr β) (n : Nat)  (k : AV → Heap → Option β) (m0 : Nat) (t0 t1 t2 t3 t4 t5 t6 t7 t8 t9 t10 t11 t12 t13 t14 t15 t16 t17 t18 t19 t20 t21 t22 t23 t24 t25 t26 t27 t28 t29 t30 t31 t32 t33 t34 t35 t36 t37 t38 t39 t40 t41 t42 t43 t44 t45 t46 t47 t48 t49 t50 t51 : AV) (H : Heap) : f38_L0 p n  k (m0 + 1) [(0, t0), (1, t1), (2, t2), (3, t3), (4, t4), (5, t5), (6, t6), (7, t7), (8, t8), (9, t9), (10, t10), (11, t11), (12, t12), (13, t13), (14, t14), (15, t15), (16, t16), (17, t17), (18, t18), (19, t19), (20, t20), (21, t21), (22, t22), (23, t23), (24, t24), (25, t25), (26, t26), (27, t27), (28, t28), (29, t29), (30, t30), (31, t31), (32, t32), (33, t33), (34, t34), (35, t35), (36, t36), (37, t37), (38, t38), (39, t39), (40, t40), (41, t41), (42, t42), (43, t43), (44, t44), (45, t45), (46, t46), (47, t47), (48, t48), (49, t49), (50, t50), (51, t51)] H =
  p.len t0 fun t8 =>
  p.bin .lss t5 t8 fun t9 =>
  p.cond t9
  (p.iadr 4 t0 t5 fun t14 =>
  p.fadr 0 t14 fun t15 =>
  p.load false 1 t15 H fun t16 =>
  p.call 9 (.fn 33 [] []) [t1] H fun t18 H =>
  p.bin .neq t16 t18 fun t19 =>
  p.cond t19
  (k (.sc (.int .i64 (-1))) H)
  (p.bin .add t1 (.sc (.int .i64 1)) fun t21 =>
  p.iadr 4 t0 t5 fun t24 =>
  p.fadr 1 t24 fun t25 =>
  p.load false 1 t25 H fun t26 =>
  p.call 3 (.fn 51 [] []) [t26, t21] H fun t28 H =>
  p.bin .lss t28 (.sc (.int .i64 0)) fun t30 =>
  p.cond t30
  (k (.sc (.int .i64 (-1))) H)
  (p.iadr 4 t0 t5 fun t33 =>
  p.fadr 2 t33 fun t34 =>
  p.load false 1 t34 H fun t35 =>
  p.bin .neq t35 t28 fun t37 =>
  p.cond t37
  (k (.sc (.int .i64 (-1))) H)
  (p.bin .add t28 (.sc (.int .i64 1)) fun t39 =>
  p.iadr 4 t0 t5 fun t42 =>
  p.fadr 3 t42 fun t43 =>
  p.load false 1 t43 H fun t44 =>
  p.bin .rem t39 (.sc (.int .i64 3)) fun t46 =>
  p.bin .eql t46 (.sc (.int .i64 0)) fun t47 =>
  p.binB .neq t44 t47 fun t48 =>
  p.cond t48
  (k (.sc (.int .i64 (-1))) H)
  (p.bin .add t39 (.sc (.int .i64 1)) fun t50 =>
  p.bin .add t5 (.sc (.int .i64 1)) fun t11 =>
  f38_L0 p n  k m0 [(0, t0), (1, t50), (2, t2), (3, t3), (4, t4), (5, t11), (6, t5), (7, t0), (8, t8), (9, t9), (10, t5), (11, t11), (12, t0), (13, t5), (14, t14), (15, t15), (16, t16), (17, t1), (18, t18), (19, t19), (20, t1), (21, t21), (22, t0), (23, t5), (24, t24), (25, t25), (26, t26), (27, t21), (28, t28), (29, t28), (30, t30), (31, t0), (32, t5), (33, t33), (34, t34), (35, t35), (36, t28), (37, t37), (38, t28), (39, t39), (40, t0), (41, t5), (42, t42), (43, t43), (44, t44), (45, t39), (46, t46), (47, t47), (48, t48), (49, t39), (50, t50), (51, t51)] H)))))
  (k t1 H) := by kernel_rfl
theorem f38_l0_eq (p : Pr β) (n : Nat)  (k : AV → Heap → Option β)   (m0 : Nat) : ∀ (t0 t1 t2 t3 t4 t5 t6 t7 t8 t9 t10 t11 t12 t13 t14 t15 t16 t17 t18 t19 t20 t21 t22 t23 t24 t25 t26 t27 t28 t29 t30 t31 t32 t33 t34 t35 t36 t37 t38 t39 t40 t41 t42 t43 t44 t45 t46 t47 t48 t49 t50 t51 : AV) (H : Heap), f38_L0 p n  k m0 [(0, t0), (1, t1), (2, t2), (3, t3), (4, t4), (5, t5), (6, t6), (7, t7), (8, t8), (9, t9), (10, t10), (11, t11), (12, t12), (13, t13), (14, t14), (15, t15), (16, t16), (17, t17), (18, t18), (19, t19), (20, t20), (21, t21), (22, t22), (23, t23), (24, t24), (25, t25), (26, t26), (27, t27), (28, t28), (29, t29), (30, t30), (31, t31), (32, t32), (33, t33), (34, t34), (35, t35), (36, t36), (37, t37), (38, t38), (39, t39), (40, t40), (41, t41), (42, t42), (43, t43), (44, t44), (45, t45), (46, t46), (47, t47), (48, t48), (49, t49), (50, t50), (51, t51)] H = f38_l0 p n  k m0 t0 t1 t5 H := by
  induction m0 with
  | zero => intros; rfl
  | succ m0 ih =>
    intro t0 t1 t2 t3 t4 t5 t6 t7 t8 t9 t10 t11 t12 t13 t14 t15 t16 t17 t18 t19 t20 t21 t22 t23 t24 t25 t26 t27 t28 t29 t30 t31 t32 t33 t34 t35 t36 t37 t38 t39 t40 t41 t42 t43 t44 t45 t46 t47 t48 t49 t50 t51 H
    rw [f38_L0_step]
    simp only [ih]
    rfl
theorem f38_raw (p : Pr β) (n : Nat) (a0 a1 : AV) (H : Heap) (k : AV → Heap → Option β) : evalBody ti0 p n ⟨c38, 52, Go.Proofs.Try.f38.results.toList, o38⟩ [a0, a1] H k =
  f38_L0 p n  k n [(0, a0), (1, a1), (2, (.sc undef)), (3, (.sc undef)), (4, (.sc (.int .i64 0))), (5, (.sc (.int .i64 0))), (6, (.sc undef)), (7, (.sc undef)), (8, (.sc undef)), (9, (.sc undef)), (10, (.sc undef)), (11, (.sc undef)), (12, (.sc undef)), (13, (.sc undef)), (14, (.sc undef)), (15, (.sc undef)), (16, (.sc undef)), (17, (.sc undef)), (18, (.sc undef)), (19, (.sc undef)), (20, (.sc undef)), (21, (.sc undef)), (22, (.sc undef)), (23, (.sc undef)), (24, (.sc undef)), (25, (.sc undef)), (26, (.sc undef)), (27, (.sc undef)), (28, (.sc undef)), (29, (.sc undef)), (30, (.sc undef)), (31, (.sc undef)), (32, (.sc undef)), (33, (.sc undef)), (34, (.sc undef)), (35, (.sc undef)), (36, (.sc undef)), (37, (.sc undef)), (38, (.sc undef)), (39, (.sc undef)), (40, (.sc undef)), (41, (.sc undef)), (42, (.sc undef)), (43, (.sc undef)), (44, (.sc undef)), (45, (.sc undef)), (46, (.sc undef)), (47, (.sc undef)), (48, (.sc undef)), (49, (.sc undef)), (50, (.sc undef)), (51, (.sc undef))] H := by kernel_rfl
theorem f38_body (p : Pr β) (n : Nat) (a0 a1 : AV) (H : Heap) (k : AV → Heap → Option β) : evalBody ti0 p n ⟨c38, 52, Go.Proofs.Try.f38.results.toList, o38⟩ [a0, a1] H k = f38 p n a0 a1 H k := by
  rw [f38_raw]
  simp only [f38_l0_eq]
  rfl

/-! 39 loop.example/g00480/laws.heldIntS -/
noncomputable def f39_l0 (p : Pr β) (n : Nat)  (k : AV → Heap → Option β) : Nat → AV → AV → AV → Heap → Option β
  | 0, _, _, _, _ => none
  | m + 1, t0, t1, t5, H => p.len t0 fun t8 =>
      p.bin .lss t5 t8 fun t9 =>
      p.cond t9
      (p.iadr 1 t0 t5 fun t14 =>
      p.load false 1 t14 H fun t15 =>
      p.bin .neq t15 t1 fun t17 =>
      p.cond t17
      (k (.sc (.int .i64 (-1))) H)
      (p.bin .add t1 (.sc (.int .i64 1)) fun t19 =>
      p.bin .add t5 (.sc (.int .i64 1)) fun t11 =>
      f39_l0 p n  k m t0 t19 t11 H))
      (k t1 H)
noncomputable def f39 (p : Pr β) (n : Nat) (a0 a1 : AV) (H : Heap) (k : AV → Heap → Option β) : Option β :=
  f39_l0 p n  k n a0 a1 (.sc (.int .i64 0)) H
noncomputable def f39_L0 (p : Pr β) (n : Nat)  (k : AV → Heap → Option β) (m : Nat) (tm : Tm) (H : Heap) : Option β :=
  iterC 21 (fun tm H k => evalCode ti0 p o39 21 n (cd c39 [1, 0, 1, 0, 0]) tm H k) (blkK 0 (seqK (fun tm H => evalCode ti0 p o39 21 n (cd c39 [1, 1]) tm H (endK ti0 p Go.Proofs.Try.f39.results.toList k)) (endK ti0 p Go.Proofs.Try.f39.results.toList k))) m tm H
theorem f39_L0_step (p : Pr β) (n : Nat)  (k : AV → Heap → Option β) (m0 : Nat) (t0 t1 t2 t3 t4 t5 t6 t7 t8 t9 t10 t11 t12 t13 t14 t15 t16 t17 t18 t19 t20 : AV) (H : Heap) : f39_L0 p n  k (m0 + 1) [(0, t0), (1, t1), (2, t2), (3, t3), (4, t4), (5, t5), (6, t6), (7, t7), (8, t8), (9, t9), (10, t10), (11, t11), (12, t12), (13, t13), (14, t14), (15, t15), (16, t16), (17, t17), (18, t18), (19, t19), (20, t20)] H =
  p.len t0 fun t8 =>
  p.bin .lss t5 t8 fun t9 =>
  p.cond t9
  (p.iadr 1 t0 t5 fun t14 =>
  p.load false 1 t14 H fun t15 =>
  p.bin .neq t15 t1 fun t17 =>
  p.cond t17
  (k (.sc (.int .i64 (-1))) H)
  (p.bin .add t1 (.sc (.int .i64 1)) fun t19 =>
  p.bin .add t5 (.sc (.int .i64 1)) fun t11 =>
  f39_L0 p n  k m0 [(0, t0), (1, t19), (2, t2), (3, t3), (4, t4), (5, t11), (6, t5), (7, t0), (8, t8), (9, t9), (10, t5), (11, t11), (12, t0), (13, t5), (14, t14), (15, t15), (16, t1), (17, t17), (18, t1), (19, t19), (20, t20)] H))
  (k t1 H) := by kernel_rfl
theorem f39_l0_eq (p : Pr β) (n : Nat)  (k : AV → Heap → Option β)   (m0 : Nat) : ∀ (t0 t1 t2 t3 t4 t5 t6 t7 t8 t9 t10 t11 t12 t13 t14 t15 t16 t17 t18 t19 t20 : AV) (H : Heap), f39_L0 p n  k m0 [(0, t0), (1, t1), (2, t2), (3, t3), (4, t4), (5, t5), (6, t6), (7, t7), (8, t8), (9, t9), (10, t10), (11, t11), (12, t12), (13, t13), (14, t14), (15, t15), (16, t16), (17, t17), (18, t18), (19, t19), (20, t20)] H = f39_l0 p n  k m0 t0 t1 t5 H := by
  induction m0 with
  | zero => intros; rfl
  | succ m0 ih =>
    intro t0 t1 t2 t3 t4 t5 t6 t7 t8 t9 t10 t11 t12 t13 t14 t15 t16 t17 t18 t19 t20 H
    rw [f39_L0_step]
    simp only [ih]
    rfl
theorem f39_raw (p : Pr β) (n : Nat) (a0 a1 : AV) (H : Heap) (k : AV → Heap → Option β) : evalBody ti0 p n ⟨c39, 21, Go.Proofs.Try.f39.results.toList, o39⟩ [a0, a1] H k =
  f39_L0 p n  k n [(0, a0), (1, a1), (2, (.sc undef)), (3, (.sc undef)), (4, (.sc (.int .i64 0))), (5, (.sc (.int .i64 0))), (6, (.sc undef)), (7, (.sc undef)), (8, (.sc undef)), (9, (.sc undef)), (10, (.sc undef)), (11, (.sc undef)), (12, (.sc undef)), (13, (.sc undef)), (14, (.sc undef)), (15, (.sc undef)), (16, (.sc undef)), (17, (.sc undef)), (18, (.sc undef)), (19, (.sc undef)), (20, (.sc undef))] H := by kernel_rfl
theorem f39_body (p : Pr β) (n : Nat) (a0 a1 : AV) (H : Heap) (k : AV → Heap → Option β) : evalBody ti0 p n ⟨c39, 21, Go.Proofs.Try.f39.results.toList, o39⟩ [a0, a1] H k = f39 p n a0 a1 H k := by
  rw [f39_raw]
  simp only [f39_l0_eq]
  rfl

/-! 25 loop.example/g00480/laws.heldSessS -/
noncomputable def f25_l0 (p : Pr β) (n : Nat)  (k : AV → Heap → Option β) : Nat → AV → AV → AV → Heap → Option β
  | 0, _, _, _, _ => none
  | m + 1, t0, t1, t5, H => p.len t0 fun t8 =>
      p.bin .lss t5 t8 fun t9 =>
      p.cond t9
      (p.iadr 9 t0 t5 fun t14 =>
      p.fadr 0 t14 fun t15 =>
      p.load false 1 t15 H fun t16 =>
      p.call 9 (.fn 33 [] []) [t1] H fun t18 H =>
      p.bin .neq t16 t18 fun t19 =>
      p.cond t19
      (k (.sc (.int .i64 (-1))) H)
      (p.bin .add t1 (.sc (.int .i64 1)) fun t21 =>
      p.iadr 9 t0 t5 fun t24 =>
      p.fadr 1 t24 fun t25 =>
      p.load false 1 t25 H fun t26 =>
      p.bin .neq t26 t21 fun t28 =>
      p.cond t28
      (k (.sc (.int .i64 (-1))) H)
      (p.bin .add t21 (.sc (.int .i64 1)) fun t30 =>
      p.iadr 9 t0 t5 fun t33 =>
      p.fadr 2 t33 fun t34 =>
      p.load false 1 t34 H fun t35 =>
      p.bin .rem t30 (.sc (.int .i64 3)) fun t37 =>
      p.bin .eql t37 (.sc (.int .i64 0)) fun t38 =>
      p.binB .neq t35 t38 fun t39 =>
      p.cond t39
      (k (.sc (.int .i64 (-1))) H)
      (p.bin .add t30 (.sc (.int .i64 1)) fun t41 =>
      p.iadr 9 t0 t5 fun t44 =>
      p.fadr 3 t44 fun t45 =>
      p.load false 1 t45 H fun t46 =>
      p.bin .neq t46 t41 fun t48 =>
      p.cond t48
      (k (.sc (.int .i64 (-1))) H)
      (p.bin .add t41 (.sc (.int .i64 1)) fun t50 =>
      p.iadr 9 t0 t5 fun t53 =>
      p.fadr 4 t53 fun t54 =>
      p.load false 1 t54 H fun t55 =>
      p.bin .neq t55 t50 fun t57 =>
      p.cond t57
      (k (.sc (.int .i64 (-1))) H)
      (p.bin .add t50 (.sc (.int .i64 1)) fun t59 =>
      p.iadr 9 t0 t5 fun t62 =>
      p.fadr 5 t62 fun t63 =>
      p.fadr 0 t63 fun t64 =>
      p.load false 1 t64 H fun t65 =>
      p.bin .neq t65 t59 fun t67 =>
      p.cond t67
      (k (.sc (.int .i64 (-1))) H)
      (p.bin .add t59 (.sc (.int .i64 1)) fun t69 =>
      p.iadr 9 t0 t5 fun t72 =>
      p.fadr 5 t72 fun t73 =>
      p.fadr 1 t73 fun t74 =>
      p.load false 1 t74 H fun t75 =>
      p.call 3 (.fn 37 [] []) [t75, t69] H fun t77 H =>
      p.bin .lss t77 (.sc (.int .i64 0)) fun t79 =>
      p.cond t79
      (k (.sc (.int .i64 (-1))) H)
      (p.iadr 9 t0 t5 fun t82 =>
      p.fadr 5 t82 fun t83 =>
      p.fadr 2 t83 fun t84 =>
      p.load false 1 t84 H fun t85 =>
      p.call 3 (.fn 38 [] []) [t85, t77] H fun t87 H =>
      p.bin .lss t87 (.sc (.int .i64 0)) fun t89 =>
      p.cond t89
      (k (.sc (.int .i64 (-1))) H)
      (p.iadr 9 t0 t5 fun t92 =>
      p.fadr 8 t92 fun t93 =>
      p.load false 1 t93 H fun t94 =>
      p.call 3 (.fn 39 [] []) [t94, t87] H fun t96 H =>
      p.bin .lss t96 (.sc (.int .i64 0)) fun t98 =>
      p.cond t98
      (k (.sc (.int .i64 (-1))) H)
      (p.bin .add t5 (.sc (.int .i64 1)) fun t11 =>
      f25_l0 p n  k m t0 t96 t11 H))))))))))
      (k t1 H)
noncomputable def f25 (p : Pr β) (n : Nat) (a0 a1 : AV) (H : Heap) (k : AV → Heap → Option β) : Option β :=
  f25_l0 p n  k n a0 a1 (.sc (.int .i64 0)) H
noncomputable def f25_L0 (p : Pr β) (n : Nat)  (k : AV → Heap → Option β) (m : Nat) (tm : Tm) (H : Heap) : Option β :=
  iterC 100 (fun tm H k => evalCode ti0 p o25 100 n (cd c25 [1, 0, 1, 0, 0]) tm H k) (blkK 0 (seqK (fun tm H => evalCode ti0 p o25 100 n (cd c25 [1, 1]) tm H (endK ti0 p Go.Proofs.Try.f25.results.toList k)) (endK ti0 p Go.Proofs.Try.f25.results.toList k))) m tm H
theorem f25_L0_step (p : Pr β) (n : Nat)  (k : AV → Heap → Option β) (m0 : Nat) (t0 t1 t2 t3 t4 t5 t6 t7 t8 t9 t10 t11 t12 t13 t14 t15 t16 t17 t18 t19 t20 t21 t22 t23 t24 t25 t26 t27 t28 t29 t30 t31 t32 t33 t34 t35 t36 t37 t38 t39 t40 t41 t42 t43 t44 t45 t46 t47 t48 t49 t50 t51 t52 t53 t54 t55 t56 t57 t58 t59 t60 t61 t62 t63 t64 t65 t66 t67 t68 t69 t70 t71 t72 t73 t74 t75 t76 t77 t78 t79 t80 t81 t82 t83 t84 t85 t86 t87 t88 t89 t90 t91 t92 t93 t94 t95 t96 t97 t98 t99 : AV) (H : Heap) : f25_L0 p n  k (m0 + 1) [(0, t0), (1, t1), (2, t2), (3, t3), (4, t4), (5, t5), (6, t6), (7, t7), (8, t8), (9, t9), (10, t10), (11, t11), (12, t12), (13, t13), (14, t14), (15, t15), (16, t16), (17, t17), (18, t18), (19, t19), (20, t20), (21, t21), (22, t22), (23, t23), (24, t24), (25, t25), (26, t26), (27, t27), (28, t28), (29, t29), (30, t30), (31, t31), (32, t32), (33, t33), (34, t34), (35, t35), (36, t36), (37, t37), (38, t38), (39, t39), (40, t40), (41, t41), (42, t42), (43, t43), (44, t44), (45, t45), (46, t46), (47, t47), (48, t48), (49, t49), (50, t50), (51, t51), (52, t52), (53, t53), (54, t54), (55, t55), (56, t56), (57, t57), (58, t58), (59, t59), (60, t60), (61, t61), (62, t62), (63, t63), (64, t64), (65, t65), (66, t66), (67, t67), (68, t68), (69, t69), (70, t70), (71, t71), (72, t72), (73, t73), (74, t74), (75, t75), (76, t76), (77, t77), (78, t78), (79, t79), (80, t80), (81, t81), (82, t82), (83, t83), (84, t84), (85, t85), (86, t86), (87, t87), (88, t88), (89, t89), (90, t90), (91, t91), (92, t92), (93, t93), (94, t94), (95, t95), (96, t96), (97, t97), (98, t98), (99, t99)] H =
  p.len t0 fun t8 =>
  p.bin .lss t5 t8 fun t9 =>
  p.cond t9
  (p.iadr 9 t0 t5 fun t14 =>
  p.fadr 0 t14 fun t15 =>
  p.load false 1 t15 H fun t16 =>
  p.call 9 (.fn 33 [] []) [t1] H fun t18 H =>
  p.bin .neq t16 t18 fun t19 =>
  p.cond t19
  (k (.sc (.int .i64 (-1))) H)
  (p.bin .add t1 (.sc (.int .i64 1)) fun t21 =>
  p.iadr 9 t0 t5 fun t24 =>
  p.fadr 1 t24 fun t25 =>
  p.load false 1 t25 H fun t26 =>
  p.bin .neq t26 t21 fun t28 =>
  p.cond t28
  (k (.sc (.int .i64 (-1))) H)
  (p.bin .add t21 (.sc (.int .i64 1)) fun t30 =>
  p.iadr 9 t0 t5 fun t33 =>
  p.fadr 2 t33 fun t34 =>
  p.load false 1 t34 H fun t35 =>
  p.bin .rem t30 (.sc (.int .i64 3)) fun t37 =>
  p.bin .eql t37 (.sc (.int .i64 0)) fun t38 =>
  p.binB .neq t35 t38 fun t39 =>
  p.cond t39
  (k (.sc (.int .i64 (-1))) H)
  (p.bin .add t30 (.sc (.int .i64 1)) fun t41 =>
  p.iadr 9 t0 t5 fun t44 =>
  p.fadr 3 t44 fun t45 =>
  p.load false 1 t45 H fun t46 =>
  p.bin .neq t46 t41 fun t48 =>
  p.cond t48
  (k (.sc (.int .i64 (-1))) H)
  (p.bin .add t41 (.sc (.int .i64 1)) fun t50 =>
  p.iadr 9 t0 t5 fun t53 =>
  p.fadr 4 t53 fun t54 =>
  p.load false 1 t54 H fun t55 =>
  p.bin .neq t55 t50 fun t57 =>
  p.cond t57
  (k (.sc (.int .i64 (-1))) H)
  (p.bin .add t50 (.sc (.int .i64 1)) fun t59 =>
  p.iadr 9 t0 t5 fun t62 =>
  p.fadr 5 t62 fun t63 =>
  p.fadr 0 t63 fun t64 =>
  p.load false 1 t64 H fun t65 =>
  p.bin .neq t65 t59 fun t67 =>
  p.cond t67
  (k (.sc (.int .i64 (-1))) H)
  (p.bin .add t59 (.sc (.int .i64 1)) fun t69 =>
  p.iadr 9 t0 t5 fun t72 =>
  p.fadr 5 t72 fun t73 =>
  p.fadr 1 t73 fun t74 =>
  p.load false 1 t74 H fun t75 =>
  p.call 3 (.fn 37 [] []) [t75, t69] H fun t77 H =>
  p.bin .lss t77 (.sc (.int .i64 0)) fun t79 =>
  p.cond t79
  (k (.sc (.int .i64 (-1))) H)
  (p.iadr 9 t0 t5 fun t82 =>
  p.fadr 5 t82 fun t83 =>
  p.fadr 2 t83 fun t84 =>
  p.load false 1 t84 H fun t85 =>
  p.call 3 (.fn 38 [] []) [t85, t77] H fun t87 H =>
  p.bin .lss t87 (.sc (.int .i64 0)) fun t89 =>
  p.cond t89
  (k (.sc (.int .i64 (-1))) H)
  (p.iadr 9 t0 t5 fun t92 =>
  p.fadr 8 t92 fun t93 =>
  p.load false 1 t93 H fun t94 =>
  p.call 3 (.fn 39 [] []) [t94, t87] H fun t96 H =>
  p.bin .lss t96 (.sc (.int .i64 0)) fun t98 =>
  p.cond t98
  (k (.sc (.int .i64 (-1))) H)
  (p.bin .add t5 (.sc (.int .i64 1)) fun t11 =>
  f25_L0 p n  k m0 [(0, t0), (1, t96), (2, t2), (3, t3), (4, t4), (5, t11), (6, t5), (7, t0), (8, t8), (9, t9), (10, t5), (11, t11), (12, t0), (13, t5), (14, t14), (15, t15), (16, t16), (17, t1), (18, t18), (19, t19), (20, t1), (21, t21), (22, t0), (23, t5), (24, t24), (25, t25), (26, t26), (27, t21), (28, t28), (29, t21), (30, t30), (31, t0), (32, t5), (33, t33), (34, t34), (35, t35), (36, t30), (37, t37), (38, t38), (39, t39), (40, t30), (41, t41), (42, t0), (43, t5), (44, t44), (45, t45), (46, t46), (47, t41), (48, t48), (49, t41), (50, t50), (51, t0), (52, t5), (53, t53), (54, t54), (55, t55), (56, t50), (57, t57), (58, t50), (59, t59), (60, t0), (61, t5), (62, t62), (63, t63), (64, t64), (65, t65), (66, t59), (67, t67), (68, t59), (69, t69), (70, t0), (71, t5), (72, t72), (73, t73), (74, t74), (75, t75), (76, t69), (77, t77), (78, t77), (79, t79), (80, t0), (81, t5), (82, t82), (83, t83), (84, t84), (85, t85), (86, t77), (87, t87), (88, t87), (89, t89), (90, t0), (91, t5), (92, t92), (93, t93), (94, t94), (95, t87), (96, t96), (97, t96), (98, t98), (99, t99)] H))))))))))
  (k t1 H) := by kernel_rfl
theorem f25_l0_eq (p : Pr β) (n : Nat)  (k : AV → Heap → Option β)   (m0 : Nat) : ∀ (t0 t1 t2 t3 t4 t5 t6 t7 t8 t9 t10 t11 t12 t13 t14 t15 t16 t17 t18 t19 t20 t21 t22 t23 t24 t25 t26 t27 t28 t29 t30 t31 t32 t33 t34 t35 t36 t37 t38 t39 t40 t41 t42 t43 t44 t45 t46 t47 t48 t49 t50 t51 t52 t53 t54 t55 t56 t57 t58 t59 t60 t61 t62 t63 t64 t65 t66 t67 t68 t69 t70 t71 t72 t73 t74 t75 t76 t77 t78 t79 t80 t81 t82 t83 t84 t85 t86 t87 t88 t89 t90 t91 t92 t93 t94 t95 t96 t97 t98 t99 : AV) (H : Heap), f25_L0 p n  k m0 [(0, t0), (1, t1), (2, t2), (3, t3), (4, t4), (5, t5), (6, t6), (7, t7), (8, t8), (9, t9), (10, t10), (11, t11), (12, t12), (13, t13), (14, t14), (15, t15), (16, t16), (17, t17), (18, t18), (19, t19), (20, t20), (21, t21), (22, t22), (23, t23), (24, t24), (25, t25), (26, t26), (27, t27), (28, t28), (29, t29), (30, t30), (31, t31), (32, t32), (33, t33), (34, t34), (35, t35), (36, t36), (37, t37), (38, t38), (39, t39), (40, t40), (41, t41), (42, t42), (43, t43), (44, t44), (45, t45), (46, t46), (47, t47), (48, t48), (49, t49), (50, t50), (51, t51), (52, t52), (53, t53), (54, t54), (55, t55), (56, t56), (57, t57), (58, t58), (59, t59), (60, t60), (61, t61), (62, t62), (63, t63), (64, t64), (65, t65), (66, t66), (67, t67), (68, t68), (69, t69), (70, t70), (71, t71), (72, t72), (73, t73), (74, t74), (75, t75), (76, t76), (77, t77), (78, t78), (79, t79), (80, t80), (81, t81), (82, t82), (83, t83), (84, t84), (85, t85), (86, t86), (87, t87), (88, t88), (89, t89), (90, t90), (91, t91), (92, t92), (93, t93), (94, t94), (95, t95), (96, t96), (97, t97), (98, t98), (99, t99)] H = f25_l0 p n  k m0 t0 t1 t5 H := by
  induction m0 with
  | zero => intros; rfl
  | succ m0 ih =>
    intro t0 t1 t2 t3 t4 t5 t6 t7 t8 t9 t10 t11 t12 t13 t14 t15 t16 t17 t18 t19 t20 t21 t22 t23 t24 t25 t26 t27 t28 t29 t30 t31 t32 t33 t34 t35 t36 t37 t38 t39 t40 t41 t42 t43 t44 t45 t46 t47 t48 t49 t50 t51 t52 t53 t54 t55 t56 t57 t58 t59 t60 t61 t62 t63 t64 t65 t66 t67 t68 t69 t70 t71 t72 t73 t74 t75 t76 t77 t78 t79 t80 t81 t82 t83 t84 t85 t86 t87 t88 t89 t90 t91 t92 t93 t94 t95 t96 t97 t98 t99 H
    rw [f25_L0_step]
    simp only [ih]
    rfl
theorem f25_raw (p : Pr β) (n : Nat) (a0 a1 : AV) (H : Heap) (k : AV → Heap → Option β) : evalBody ti0 p n ⟨c25, 100, Go.Proofs.Try.f25.results.toList, o25⟩ [a0, a1] H k =
  f25_L0 p n  k n [(0, a0), (1, a1), (2, (.sc undef)), (3, (.sc undef)), (4, (.sc (.int .i64 0))), (5, (.sc (.int .i64 0))), (6, (.sc undef)), (7, (.sc undef)), (8, (.sc undef)), (9, (.sc undef)), (10, (.sc undef)), (11, (.sc undef)), (12, (.sc undef)), (13, (.sc undef)), (14, (.sc undef)), (15, (.sc undef)), (16, (.sc undef)), (17, (.sc undef)), (18, (.sc undef)), (19, (.sc undef)), (20, (.sc undef)), (21, (.sc undef)), (22, (.sc undef)), (23, (.sc undef)), (24, (.sc undef)), (25, (.sc undef)), (26, (.sc undef)), (27, (.sc undef)), (28, (.sc undef)), (29, (.sc undef)), (30, (.sc undef)), (31, (.sc undef)), (32, (.sc undef)), (33, (.sc undef)), (34, (.sc undef)), (35, (.sc undef)), (36, (.sc undef)), (37, (.sc undef)), (38, (.sc undef)), (39, (.sc undef)), (40, (.sc undef)), (41, (.sc undef)), (42, (.sc undef)), (43, (.sc undef)), (44, (.sc undef)), (45, (.sc undef)), (46, (.sc undef)), (47, (.sc undef)), (48, (.sc undef)), (49, (.sc undef)), (50, (.sc undef)), (51, (.sc undef)), (52, (.sc undef)), (53, (.sc undef)), (54, (.sc undef)), (55, (.sc undef)), (56, (.sc undef)), (57, (.sc undef)), (58, (.sc undef)), (59, (.sc undef)), (60, (.sc undef)), (61, (.sc undef)), (62, (.sc undef)), (63, (.sc undef)), (64, (.sc undef)), (65, (.sc undef)), (66, (.sc undef)), (67, (.sc undef)), (68, (.sc undef)), (69, (.sc undef)), (70, (.sc undef)), (71, (.sc undef)), (72, (.sc undef)), (73, (.sc undef)), (74, (.sc undef)), (75, (.sc undef)), (76, (.sc undef)), (77, (.sc undef)), (78, (.sc undef)), (79, (.sc undef)), (80, (.sc undef)), (81, (.sc undef)), (82, (.sc undef)), (83, (.sc undef)), (84, (.sc undef)), (85, (.sc undef)), (86, (.sc undef)), (87, (.sc undef)), (88, (.sc undef)), (89, (.sc undef)), (90, (.sc undef)), (91, (.sc undef)), (92, (.sc undef)), (93, (.sc undef)), (94, (.sc undef)), (95, (.sc undef)), (96, (.sc undef)), (97, (.sc undef)), (98, (.sc undef)), (99, (.sc undef))] H := by kernel_rfl
theorem f25_body (p : Pr β) (n : Nat) (a0 a1 : AV) (H : Heap) (k : AV → Heap → Option β) : evalBody ti0 p n ⟨c25, 100, Go.Proofs.Try.f25.results.toList, o25⟩ [a0, a1] H k = f25 p n a0 a1 H k := by
  rw [f25_raw]
  simp only [f25_l0_eq]
  rfl

/-! 12 loop.example/g00480/laws.heldStripe -/
noncomputable def f12 (p : Pr β) (n : Nat) (a0 a1 : AV) (H : Heap) (k : AV → Heap → Option β) : Option β :=
  p.box a0 H fun t2 H =>
  p.fadr 1 t2 fun t5 =>
  p.load false 1 t5 H fun t6 =>
  p.call 3 (.fn 25 [] []) [t6, a1] H fun t8 H =>
  p.bin .lss t8 (.sc (.int .i64 0)) fun t10 =>
  p.cond t10
  (k (.sc (.int .i64 (-1))) H)
  (k t8 H)
theorem f12_body (p : Pr β) (n : Nat) (a0 a1 : AV) (H : Heap) (k : AV → Heap → Option β) : evalBody ti0 p n ⟨c12, 12, Go.Proofs.Try.f12.results.toList, o12⟩ [a0, a1] H k = f12 p n a0 a1 H k := by kernel_rfl
end Go.Proofs.Ytfpmccedangjoaa.Abs
