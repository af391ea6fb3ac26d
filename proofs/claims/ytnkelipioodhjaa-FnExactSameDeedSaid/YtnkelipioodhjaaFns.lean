/- The program's functions as plain functions over abstract values, part 2 (written by gen.py). -/
import Derived.Test.YtnkelipioodhjaaFnsA
set_option linter.unusedVariables false
set_option linter.unusedSimpArgs false
set_option maxRecDepth 100000
namespace Go.Proofs.Ytnkelipioodhjaa.Abs
open Go
variable {β : Type}

/-! 40 loop.example/g00480/impl.SameDeed -/
noncomputable def f40 (p : Pr β) (n : Nat) (a0 a1 : AV) (H : Heap) (k : AV → Heap → Option β) : Option β :=
  p.box a0 H fun t2 H =>
  p.box a1 H fun t3 H =>
  p.fadr 0 t2 fun t7 =>
  p.load false 1 t7 H fun t8 =>
  p.fadr 0 t3 fun t9 =>
  p.load false 1 t9 H fun t10 =>
  p.bin .eql t8 t10 fun t11 =>
  p.guard t11 true H (fun k' => p.fadr 1 t2 fun t' => k' t' H) fun t13 H =>
  p.guard t11 true H (fun k' => p.load false 1 t13 H fun t' => k' t' H) fun t14 H =>
  p.guard t11 true H (fun k' => p.fadr 1 t3 fun t' => k' t' H) fun t15 H =>
  p.guard t11 true H (fun k' => p.load false 1 t15 H fun t' => k' t' H) fun t16 H =>
  p.guard t11 true H (fun k' => p.bin .eql t14 t16 fun t' => k' t' H) fun t17 H =>
  p.pick t11 t17 (.sc (.bool false)) fun t18 =>
  p.guard t18 true H (fun k' => p.fadr 2 t2 fun t' => k' t' H) fun t20 H =>
  p.guard t18 true H (fun k' => p.load false 1 t20 H fun t' => k' t' H) fun t21 H =>
  p.guard t18 true H (fun k' => p.fadr 2 t3 fun t' => k' t' H) fun t22 H =>
  p.guard t18 true H (fun k' => p.load false 1 t22 H fun t' => k' t' H) fun t23 H =>
  p.guard t18 true H (fun k' => p.bin .eql t21 t23 fun t' => k' t' H) fun t24 H =>
  p.pick t18 t24 (.sc (.bool false)) fun t25 =>
  p.guard t25 true H (fun k' => p.fadr 29 t2 fun t' => k' t' H) fun t27 H =>
  p.guard t25 true H (fun k' => p.load false 1 t27 H fun t' => k' t' H) fun t28 H =>
  p.guard t25 true H (fun k' => p.fadr 29 t3 fun t' => k' t' H) fun t29 H =>
  p.guard t25 true H (fun k' => p.load false 1 t29 H fun t' => k' t' H) fun t30 H =>
  p.guard t25 true H (fun k' => p.bin .eql t28 t30 fun t' => k' t' H) fun t31 H =>
  p.pick t25 t31 (.sc (.bool false)) fun t32 =>
  p.guard t32 true H (fun k' => p.fadr 30 t2 fun t' => k' t' H) fun t34 H =>
  p.guard t32 true H (fun k' => p.load false 1 t34 H fun t' => k' t' H) fun t35 H =>
  p.guard t32 true H (fun k' => p.fadr 30 t3 fun t' => k' t' H) fun t36 H =>
  p.guard t32 true H (fun k' => p.load false 1 t36 H fun t' => k' t' H) fun t37 H =>
  p.guard t32 true H (fun k' => p.bin .eql t35 t37 fun t' => k' t' H) fun t38 H =>
  p.pick t32 t38 (.sc (.bool false)) fun t39 =>
  p.guard t39 true H (fun k' => p.fadr 31 t2 fun t' => k' t' H) fun t41 H =>
  p.guard t39 true H (fun k' => p.load false 1 t41 H fun t' => k' t' H) fun t42 H =>
  p.guard t39 true H (fun k' => p.fadr 31 t3 fun t' => k' t' H) fun t43 H =>
  p.guard t39 true H (fun k' => p.load false 1 t43 H fun t' => k' t' H) fun t44 H =>
  p.guard t39 true H (fun k' => p.bin .eql t42 t44 fun t' => k' t' H) fun t45 H =>
  p.pick t39 t45 (.sc (.bool false)) fun t46 =>
  p.guard t46 true H (fun k' => p.fadr 33 t2 fun t' => k' t' H) fun t48 H =>
  p.guard t46 true H (fun k' => p.load false 1 t48 H fun t' => k' t' H) fun t49 H =>
  p.guard t46 true H (fun k' => p.fadr 33 t3 fun t' => k' t' H) fun t50 H =>
  p.guard t46 true H (fun k' => p.load false 1 t50 H fun t' => k' t' H) fun t51 H =>
  p.guard t46 true H (fun k' => p.bin .eql t49 t51 fun t' => k' t' H) fun t52 H =>
  p.pick t46 t52 (.sc (.bool false)) fun t53 =>
  p.guard t53 true H (fun k' => p.fadr 34 t2 fun t' => k' t' H) fun t55 H =>
  p.guard t53 true H (fun k' => p.load false 1 t55 H fun t' => k' t' H) fun t56 H =>
  p.guard t53 true H (fun k' => p.fadr 34 t3 fun t' => k' t' H) fun t57 H =>
  p.guard t53 true H (fun k' => p.load false 1 t57 H fun t' => k' t' H) fun t58 H =>
  p.guard t53 true H (fun k' => p.bin .eql t56 t58 fun t' => k' t' H) fun t59 H =>
  p.pick t53 t59 (.sc (.bool false)) fun t60 =>
  p.fadr 32 t2 fun t61 =>
  p.load false 1 t61 H fun t62 =>
  p.fadr 32 t3 fun t63 =>
  p.load false 1 t63 H fun t64 =>
  p.binB .eql t62 t64 fun t65 =>
  p.guard t65 true H (fun k' => p.fadr 35 t2 fun t' => k' t' H) fun t67 H =>
  p.guard t65 true H (fun k' => p.load false 1 t67 H fun t' => k' t' H) fun t68 H =>
  p.guard t65 true H (fun k' => p.fadr 35 t3 fun t' => k' t' H) fun t69 H =>
  p.guard t65 true H (fun k' => p.load false 1 t69 H fun t' => k' t' H) fun t70 H =>
  p.guard t65 true H (fun k' => p.binB .eql t68 t70 fun t' => k' t' H) fun t71 H =>
  p.pick t65 t71 (.sc (.bool false)) fun t72 =>
  p.guard t72 true H (fun k' => p.fadr 36 t2 fun t' => k' t' H) fun t74 H =>
  p.guard t72 true H (fun k' => p.load false 1 t74 H fun t' => k' t' H) fun t75 H =>
  p.guard t72 true H (fun k' => p.fadr 36 t3 fun t' => k' t' H) fun t76 H =>
  p.guard t72 true H (fun k' => p.load false 1 t76 H fun t' => k' t' H) fun t77 H =>
  p.guard t72 true H (fun k' => p.binB .eql t75 t77 fun t' => k' t' H) fun t78 H =>
  p.pick t72 t78 (.sc (.bool false)) fun t79 =>
  p.guard t60 true H (fun k' => k' t79 H) fun t82 H =>
  p.pick t60 t82 (.sc (.bool false)) fun t83 =>
  p.guard t83 true H (fun k' => p.fadr 3 t2 fun t' => k' t' H) fun t85 H =>
  p.guard t83 true H (fun k' => p.load false 1 t85 H fun t' => k' t' H) fun t86 H =>
  p.guard t83 true H (fun k' => p.fadr 3 t3 fun t' => k' t' H) fun t87 H =>
  p.guard t83 true H (fun k' => p.load false 1 t87 H fun t' => k' t' H) fun t88 H =>
  p.guard t83 true H (fun k' => p.bin .eql t86 t88 fun t' => k' t' H) fun t89 H =>
  p.pick t83 t89 (.sc (.bool false)) fun t90 =>
  p.guard t90 true H (fun k' => p.fadr 4 t2 fun t' => k' t' H) fun t92 H =>
  p.guard t90 true H (fun k' => p.load true 25 t92 H fun t' => k' t' H) fun t93 H =>
  p.guard t90 true H (fun k' => p.fadr 4 t3 fun t' => k' t' H) fun t94 H =>
  p.guard t90 true H (fun k' => p.load true 25 t94 H fun t' => k' t' H) fun t95 H =>
  p.guard t90 true H (fun k' => p.call 4 (.fn 82 [] []) [t93, t95] H fun t' H => k' t' H) fun t96 H =>
  p.pick t90 t96 (.sc (.bool false)) fun t97 =>
  p.guard t97 true H (fun k' => p.fadr 37 t2 fun t' => k' t' H) fun t99 H =>
  p.guard t97 true H (fun k' => p.load false 1 t99 H fun t' => k' t' H) fun t100 H =>
  p.guard t97 true H (fun k' => p.fadr 37 t3 fun t' => k' t' H) fun t101 H =>
  p.guard t97 true H (fun k' => p.load false 1 t101 H fun t' => k' t' H) fun t102 H =>
  p.guard t97 true H (fun k' => p.call 4 (.fn 83 [] []) [t100, t102] H fun t' H => k' t' H) fun t103 H =>
  p.pick t97 t103 (.sc (.bool false)) fun t104 =>
  p.guard t104 true H (fun k' => p.fadr 38 t2 fun t' => k' t' H) fun t106 H =>
  p.guard t104 true H (fun k' => p.load false 1 t106 H fun t' => k' t' H) fun t107 H =>
  p.guard t104 true H (fun k' => p.fadr 38 t3 fun t' => k' t' H) fun t108 H =>
  p.guard t104 true H (fun k' => p.load false 1 t108 H fun t' => k' t' H) fun t109 H =>
  p.guard t104 true H (fun k' => p.call 4 (.fn 84 [] []) [t107, t109] H fun t' H => k' t' H) fun t110 H =>
  p.pick t104 t110 (.sc (.bool false)) fun t111 =>
  p.guard t111 true H (fun k' => p.fadr 39 t2 fun t' => k' t' H) fun t113 H =>
  p.guard t111 true H (fun k' => p.load false 1 t113 H fun t' => k' t' H) fun t114 H =>
  p.guard t111 true H (fun k' => p.fadr 39 t3 fun t' => k' t' H) fun t115 H =>
  p.guard t111 true H (fun k' => p.load false 1 t115 H fun t' => k' t' H) fun t116 H =>
  p.guard t111 true H (fun k' => p.call 4 (.fn 85 [] []) [t114, t116] H fun t' H => k' t' H) fun t117 H =>
  p.pick t111 t117 (.sc (.bool false)) fun t118 =>
  k t118 H
theorem f40_body (p : Pr β) (n : Nat) (a0 a1 : AV) (H : Heap) (k : AV → Heap → Option β) : evalBody ti0 p n ⟨c40, 119, Go.Proofs.Try.f40.results.toList, o40⟩ [a0, a1] H k = f40 p n a0 a1 H k := by kernel_rfl

/-! 57 loop.example/g00480/laws.eqByteS -/
noncomputable def f57_l0 (p : Pr β) (n : Nat)  (k : AV → Heap → Option β) : Nat → AV → AV → AV → Heap → Option β
  | 0, _, _, _, _ => none
  | m + 1, t0, t1, t5, H => p.len t0 fun t13 =>
      p.bin .lss t5 t13 fun t14 =>
      p.cond t14
      (p.iadr 1 t0 t5 fun t19 =>
      p.load false 1 t19 H fun t20 =>
      p.iadr 1 t1 t5 fun t23 =>
      p.load false 1 t23 H fun t24 =>
      p.bin .neq t20 t24 fun t25 =>
      p.cond t25
      (k (.sc (.bool false)) H)
      (p.bin .add t5 (.sc (.int .i64 1)) fun t16 =>
      f57_l0 p n  k m t0 t1 t16 H))
      (k (.sc (.bool true)) H)
noncomputable def f57 (p : Pr β) (n : Nat) (a0 a1 : AV) (H : Heap) (k : AV → Heap → Option β) : Option β :=
  p.len a0 fun t7 =>
  p.len a1 fun t9 =>
  p.bin .neq t7 t9 fun t10 =>
  p.cond t10
  (k (.sc (.bool false)) H)
  (f57_l0 p n  k n a0 a1 (.sc (.int .i64 0)) H)
noncomputable def f57_L0 (p : Pr β) (n : Nat)  (k : AV → Heap → Option β) (m : Nat) (tm : Tm) (H : Heap) : Option β :=
  iterC 26 (fun tm H k => evalCode ti0 p o57 26 n (cd c57 [1, 1, 0, 1, 0, 0]) tm H k) (blkK 0 (seqK (fun tm H => evalCode ti0 p o57 26 n (cd c57 [1, 1, 1]) tm H (endK ti0 p Go.Proofs.Try.f57.results.toList k)) (endK ti0 p Go.Proofs.Try.f57.results.toList k))) m tm H
theorem f57_L0_step (p : Pr β) (n : Nat)  (k : AV → Heap → Option β) (m0 : Nat) (t0 t1 t2 t3 t4 t5 t6 t7 t8 t9 t10 t11 t12 t13 t14 t15 t16 t17 t18 t19 t20 t21 t22 t23 t24 t25 : AV) (H : Heap) : f57_L0 p n  k (m0 + 1) [(0, t0), (1, t1), (2, t2), (3, t3), (4, t4), (5, t5), (6, t6), (7, t7), (8, t8), (9, t9), (10, t10), (11, t11), (12, t12), (13, t13), (14, t14), (15, t15), (16, t16), (17, t17), (18, t18), (19, t19), (20, t20), (21, t21), (22, t22), (23, t23), (24, t24), (25, t25)] H =
  p.len t0 fun t13 =>
  p.bin .lss t5 t13 fun t14 =>
  p.cond t14
  (p.iadr 1 t0 t5 fun t19 =>
  p.load false 1 t19 H fun t20 =>
  p.iadr 1 t1 t5 fun t23 =>
  p.load false 1 t23 H fun t24 =>
  p.bin .neq t20 t24 fun t25 =>
  p.cond t25
  (k (.sc (.bool false)) H)
  (p.bin .add t5 (.sc (.int .i64 1)) fun t16 =>
  f57_L0 p n  k m0 [(0, t0), (1, t1), (2, t2), (3, t3), (4, t4), (5, t16), (6, t6), (7, t7), (8, t8), (9, t9), (10, t10), (11, t5), (12, t0), (13, t13), (14, t14), (15, t5), (16, t16), (17, t0), (18, t5), (19, t19), (20, t20), (21, t1), (22, t5), (23, t23), (24, t24), (25, t25)] H))
  (k (.sc (.bool true)) H) := by kernel_rfl
theorem f57_l0_eq (p : Pr β) (n : Nat)  (k : AV → Heap → Option β)   (m0 : Nat) : ∀ (t0 t1 t2 t3 t4 t5 t6 t7 t8 t9 t10 t11 t12 t13 t14 t15 t16 t17 t18 t19 t20 t21 t22 t23 t24 t25 : AV) (H : Heap), f57_L0 p n  k m0 [(0, t0), (1, t1), (2, t2), (3, t3), (4, t4), (5, t5), (6, t6), (7, t7), (8, t8), (9, t9), (10, t10), (11, t11), (12, t12), (13, t13), (14, t14), (15, t15), (16, t16), (17, t17), (18, t18), (19, t19), (20, t20), (21, t21), (22, t22), (23, t23), (24, t24), (25, t25)] H = f57_l0 p n  k m0 t0 t1 t5 H := by
  induction m0 with
  | zero => intros; rfl
  | succ m0 ih =>
    intro t0 t1 t2 t3 t4 t5 t6 t7 t8 t9 t10 t11 t12 t13 t14 t15 t16 t17 t18 t19 t20 t21 t22 t23 t24 t25 H
    rw [f57_L0_step]
    simp only [ih]
    rfl
theorem f57_raw (p : Pr β) (n : Nat) (a0 a1 : AV) (H : Heap) (k : AV → Heap → Option β) : evalBody ti0 p n ⟨c57, 26, Go.Proofs.Try.f57.results.toList, o57⟩ [a0, a1] H k =
  p.len a0 fun t7 =>
  p.len a1 fun t9 =>
  p.bin .neq t7 t9 fun t10 =>
  p.cond t10
  (k (.sc (.bool false)) H)
  (f57_L0 p n  k n [(0, a0), (1, a1), (2, (.sc undef)), (3, (.sc undef)), (4, (.sc (.bool false))), (5, (.sc (.int .i64 0))), (6, a0), (7, t7), (8, a1), (9, t9), (10, t10), (11, (.sc undef)), (12, (.sc undef)), (13, (.sc undef)), (14, (.sc undef)), (15, (.sc undef)), (16, (.sc undef)), (17, (.sc undef)), (18, (.sc undef)), (19, (.sc undef)), (20, (.sc undef)), (21, (.sc undef)), (22, (.sc undef)), (23, (.sc undef)), (24, (.sc undef)), (25, (.sc undef))] H) := by kernel_rfl
theorem f57_body (p : Pr β) (n : Nat) (a0 a1 : AV) (H : Heap) (k : AV → Heap → Option β) : evalBody ti0 p n ⟨c57, 26, Go.Proofs.Try.f57.results.toList, o57⟩ [a0, a1] H k = f57 p n a0 a1 H k := by
  rw [f57_raw]
  simp only [f57_l0_eq]
  rfl

/-! 119 loop.example/g00480/laws.eqWant -/
noncomputable def f119 (p : Pr β) (n : Nat) (a0 a1 : AV) (H : Heap) (k : AV → Heap → Option β) : Option β :=
  p.box a0 H fun t2 H =>
  p.box a1 H fun t3 H =>
  p.fadr 0 t2 fun t5 =>
  p.load false 1 t5 H fun t6 =>
  p.fadr 0 t3 fun t7 =>
  p.load false 1 t7 H fun t8 =>
  p.bin .neq t6 t8 fun t9 =>
  p.cond t9
  (k (.sc (.bool false)) H)
  (p.fadr 1 t2 fun t10 =>
  p.load false 1 t10 H fun t11 =>
  p.fadr 1 t3 fun t12 =>
  p.load false 1 t12 H fun t13 =>
  p.bin .neq t11 t13 fun t14 =>
  p.cond t14
  (k (.sc (.bool false)) H)
  (k (.sc (.bool true)) H))
theorem f119_body (p : Pr β) (n : Nat) (a0 a1 : AV) (H : Heap) (k : AV → Heap → Option β) : evalBody ti0 p n ⟨c119, 15, Go.Proofs.Try.f119.results.toList, o119⟩ [a0, a1] H k = f119 p n a0 a1 H k := by kernel_rfl

/-! 95 loop.example/g00480/laws.eqWantS -/
noncomputable def f95_l0 (p : Pr β) (n : Nat)  (k : AV → Heap → Option β) : Nat → AV → AV → AV → Heap → Option β
  | 0, _, _, _, _ => none
  | m + 1, t0, t1, t5, H => p.len t0 fun t13 =>
      p.bin .lss t5 t13 fun t14 =>
      p.cond t14
      (p.iadr 2 t0 t5 fun t19 =>
      p.load true 2 t19 H fun t20 =>
      p.iadr 2 t1 t5 fun t23 =>
      p.load true 2 t23 H fun t24 =>
      p.call 4 (.fn 119 [] []) [t20, t24] H fun t25 H =>
      p.un .not t25 fun t26 =>
      p.cond t26
      (k (.sc (.bool false)) H)
      (p.bin .add t5 (.sc (.int .i64 1)) fun t16 =>
      f95_l0 p n  k m t0 t1 t16 H))
      (k (.sc (.bool true)) H)
noncomputable def f95 (p : Pr β) (n : Nat) (a0 a1 : AV) (H : Heap) (k : AV → Heap → Option β) : Option β :=
  p.len a0 fun t7 =>
  p.len a1 fun t9 =>
  p.bin .neq t7 t9 fun t10 =>
  p.cond t10
  (k (.sc (.bool false)) H)
  (f95_l0 p n  k n a0 a1 (.sc (.int .i64 0)) H)
noncomputable def f95_L0 (p : Pr β) (n : Nat)  (k : AV → Heap → Option β) (m : Nat) (tm : Tm) (H : Heap) : Option β :=
  iterC 27 (fun tm H k => evalCode ti0 p o95 27 n (cd c95 [1, 1, 0, 1, 0, 0]) tm H k) (blkK 0 (seqK (fun tm H => evalCode ti0 p o95 27 n (cd c95 [1, 1, 1]) tm H (endK ti0 p Go.Proofs.Try.f95.results.toList k)) (endK ti0 p Go.Proofs.Try.f95.results.toList k))) m tm H
theorem f95_L0_step (p : Pr β) (n : Nat)  (k : AV → Heap → Option β) (m0 : Nat) (t0 t1 t2 t3 t4 t5 t6 t7 t8 t9 t10 t11 t12 t13 t14 t15 t16 t17 t18 t19 t20 t21 t22 t23 t24 t25 t26 : AV) (H : Heap) : f95_L0 p n  k (m0 + 1) [(0, t0), (1, t1), (2, t2), (3, t3), (4, t4), (5, t5), (6, t6), (7, t7), (8, t8), (9, t9), (10, t10), (11, t11), (12, t12), (13, t13), (14, t14), (15, t15), (16, t16), (17, t17), (18, t18), (19, t19), (20, t20), (21, t21), (22, t22), (23, t23), (24, t24), (25, t25), (26, t26)] H =
  p.len t0 fun t13 =>
  p.bin .lss t5 t13 fun t14 =>
  p.cond t14
  (p.iadr 2 t0 t5 fun t19 =>
  p.load true 2 t19 H fun t20 =>
  p.iadr 2 t1 t5 fun t23 =>
  p.load true 2 t23 H fun t24 =>
  p.call 4 (.fn 119 [] []) [t20, t24] H fun t25 H =>
  p.un .not t25 fun t26 =>
  p.cond t26
  (k (.sc (.bool false)) H)
  (p.bin .add t5 (.sc (.int .i64 1)) fun t16 =>
  f95_L0 p n  k m0 [(0, t0), (1, t1), (2, t2), (3, t3), (4, t4), (5, t16), (6, t6), (7, t7), (8, t8), (9, t9), (10, t10), (11, t5), (12, t0), (13, t13), (14, t14), (15, t5), (16, t16), (17, t0), (18, t5), (19, t19), (20, t20), (21, t1), (22, t5), (23, t23), (24, t24), (25, t25), (26, t26)] H))
  (k (.sc (.bool true)) H) := by kernel_rfl
theorem f95_l0_eq (p : Pr β) (n : Nat)  (k : AV → Heap → Option β)   (m0 : Nat) : ∀ (t0 t1 t2 t3 t4 t5 t6 t7 t8 t9 t10 t11 t12 t13 t14 t15 t16 t17 t18 t19 t20 t21 t22 t23 t24 t25 t26 : AV) (H : Heap), f95_L0 p n  k m0 [(0, t0), (1, t1), (2, t2), (3, t3), (4, t4), (5, t5), (6, t6), (7, t7), (8, t8), (9, t9), (10, t10), (11, t11), (12, t12), (13, t13), (14, t14), (15, t15), (16, t16), (17, t17), (18, t18), (19, t19), (20, t20), (21, t21), (22, t22), (23, t23), (24, t24), (25, t25), (26, t26)] H = f95_l0 p n  k m0 t0 t1 t5 H := by
  induction m0 with
  | zero => intros; rfl
  | succ m0 ih =>
    intro t0 t1 t2 t3 t4 t5 t6 t7 t8 t9 t10 t11 t12 t13 t14 t15 t16 t17 t18 t19 t20 t21 t22 t23 t24 t25 t26 H
    rw [f95_L0_step]
    simp only [ih]
    rfl
theorem f95_raw (p : Pr β) (n : Nat) (a0 a1 : AV) (H : Heap) (k : AV → Heap → Option β) : evalBody ti0 p n ⟨c95, 27, Go.Proofs.Try.f95.results.toList, o95⟩ [a0, a1] H k =
  p.len a0 fun t7 =>
  p.len a1 fun t9 =>
  p.bin .neq t7 t9 fun t10 =>
  p.cond t10
  (k (.sc (.bool false)) H)
  (f95_L0 p n  k n [(0, a0), (1, a1), (2, (.sc undef)), (3, (.sc undef)), (4, (.sc (.bool false))), (5, (.sc (.int .i64 0))), (6, a0), (7, t7), (8, a1), (9, t9), (10, t10), (11, (.sc undef)), (12, (.sc undef)), (13, (.sc undef)), (14, (.sc undef)), (15, (.sc undef)), (16, (.sc undef)), (17, (.sc undef)), (18, (.sc undef)), (19, (.sc undef)), (20, (.sc undef)), (21, (.sc undef)), (22, (.sc undef)), (23, (.sc undef)), (24, (.sc undef)), (25, (.sc undef)), (26, (.sc undef))] H) := by kernel_rfl
theorem f95_body (p : Pr β) (n : Nat) (a0 a1 : AV) (H : Heap) (k : AV → Heap → Option β) : evalBody ti0 p n ⟨c95, 27, Go.Proofs.Try.f95.results.toList, o95⟩ [a0, a1] H k = f95 p n a0 a1 H k := by
  rw [f95_raw]
  simp only [f95_l0_eq]
  rfl

/-! 96 loop.example/g00480/laws.eqStringS -/
noncomputable def f96_l0 (p : Pr β) (n : Nat)  (k : AV → Heap → Option β) : Nat → AV → AV → AV → Heap → Option β
  | 0, _, _, _, _ => none
  | m + 1, t0, t1, t5, H => p.len t0 fun t13 =>
      p.bin .lss t5 t13 fun t14 =>
      p.cond t14
      (p.iadr 1 t0 t5 fun t19 =>
      p.load false 1 t19 H fun t20 =>
      p.iadr 1 t1 t5 fun t23 =>
      p.load false 1 t23 H fun t24 =>
      p.bin .neq t20 t24 fun t25 =>
      p.cond t25
      (k (.sc (.bool false)) H)
      (p.bin .add t5 (.sc (.int .i64 1)) fun t16 =>
      f96_l0 p n  k m t0 t1 t16 H))
      (k (.sc (.bool true)) H)
noncomputable def f96 (p : Pr β) (n : Nat) (a0 a1 : AV) (H : Heap) (k : AV → Heap → Option β) : Option β :=
  p.len a0 fun t7 =>
  p.len a1 fun t9 =>
  p.bin .neq t7 t9 fun t10 =>
  p.cond t10
  (k (.sc (.bool false)) H)
  (f96_l0 p n  k n a0 a1 (.sc (.int .i64 0)) H)
noncomputable def f96_L0 (p : Pr β) (n : Nat)  (k : AV → Heap → Option β) (m : Nat) (tm : Tm) (H : Heap) : Option β :=
  iterC 26 (fun tm H k => evalCode ti0 p o96 26 n (cd c96 [1, 1, 0, 1, 0, 0]) tm H k) (blkK 0 (seqK (fun tm H => evalCode ti0 p o96 26 n (cd c96 [1, 1, 1]) tm H (endK ti0 p Go.Proofs.Try.f96.results.toList k)) (endK ti0 p Go.Proofs.Try.f96.results.toList k))) m tm H
theorem f96_L0_step (p : Pr β) (n : Nat)  (k : AV → Heap → Option β) (m0 : Nat) (t0 t1 t2 t3 t4 t5 t6 t7 t8 t9 t10 t11 t12 t13 t14 t15 t16 t17 t18 t19 t20 t21 t22 t23 t24 t25 : AV) (H : Heap) : f96_L0 p n  k (m0 + 1) [(0, t0), (1, t1), (2, t2), (3, t3), (4, t4), (5, t5), (6, t6), (7, t7), (8, t8), (9, t9), (10, t10), (11, t11), (12, t12), (13, t13), (14, t14), (15, t15), (16, t16), (17, t17), (18, t18), (19, t19), (20, t20), (21, t21), (22, t22), (23, t23), (24, t24), (25, t25)] H =
  p.len t0 fun t13 =>
  p.bin .lss t5 t13 fun t14 =>
  p.cond t14
  (p.iadr 1 t0 t5 fun t19 =>
  p.load false 1 t19 H fun t20 =>
  p.iadr 1 t1 t5 fun t23 =>
  p.load false 1 t23 H fun t24 =>
  p.bin .neq t20 t24 fun t25 =>
  p.cond t25
  (k (.sc (.bool false)) H)
  (p.bin .add t5 (.sc (.int .i64 1)) fun t16 =>
  f96_L0 p n  k m0 [(0, t0), (1, t1), (2, t2), (3, t3), (4, t4), (5, t16), (6, t6), (7, t7), (8, t8), (9, t9), (10, t10), (11, t5), (12, t0), (13, t13), (14, t14), (15, t5), (16, t16), (17, t0), (18, t5), (19, t19), (20, t20), (21, t1), (22, t5), (23, t23), (24, t24), (25, t25)] H))
  (k (.sc (.bool true)) H) := by kernel_rfl
theorem f96_l0_eq (p : Pr β) (n : Nat)  (k : AV → Heap → Option β)   (m0 : Nat) : ∀ (t0 t1 t2 t3 t4 t5 t6 t7 t8 t9 t10 t11 t12 t13 t14 t15 t16 t17 t18 t19 t20 t21 t22 t23 t24 t25 : AV) (H : Heap), f96_L0 p n  k m0 [(0, t0), (1, t1), (2, t2), (3, t3), (4, t4), (5, t5), (6, t6), (7, t7), (8, t8), (9, t9), (10, t10), (11, t11), (12, t12), (13, t13), (14, t14), (15, t15), (16, t16), (17, t17), (18, t18), (19, t19), (20, t20), (21, t21), (22, t22), (23, t23), (24, t24), (25, t25)] H = f96_l0 p n  k m0 t0 t1 t5 H := by
  induction m0 with
  | zero => intros; rfl
  | succ m0 ih =>
    intro t0 t1 t2 t3 t4 t5 t6 t7 t8 t9 t10 t11 t12 t13 t14 t15 t16 t17 t18 t19 t20 t21 t22 t23 t24 t25 H
    rw [f96_L0_step]
    simp only [ih]
    rfl
theorem f96_raw (p : Pr β) (n : Nat) (a0 a1 : AV) (H : Heap) (k : AV → Heap → Option β) : evalBody ti0 p n ⟨c96, 26, Go.Proofs.Try.f96.results.toList, o96⟩ [a0, a1] H k =
  p.len a0 fun t7 =>
  p.len a1 fun t9 =>
  p.bin .neq t7 t9 fun t10 =>
  p.cond t10
  (k (.sc (.bool false)) H)
  (f96_L0 p n  k n [(0, a0), (1, a1), (2, (.sc undef)), (3, (.sc undef)), (4, (.sc (.bool false))), (5, (.sc (.int .i64 0))), (6, a0), (7, t7), (8, a1), (9, t9), (10, t10), (11, (.sc undef)), (12, (.sc undef)), (13, (.sc undef)), (14, (.sc undef)), (15, (.sc undef)), (16, (.sc undef)), (17, (.sc undef)), (18, (.sc undef)), (19, (.sc undef)), (20, (.sc undef)), (21, (.sc undef)), (22, (.sc undef)), (23, (.sc undef)), (24, (.sc undef)), (25, (.sc undef))] H) := by kernel_rfl
theorem f96_body (p : Pr β) (n : Nat) (a0 a1 : AV) (H : Heap) (k : AV → Heap → Option β) : evalBody ti0 p n ⟨c96, 26, Go.Proofs.Try.f96.results.toList, o96⟩ [a0, a1] H k = f96 p n a0 a1 H k := by
  rw [f96_raw]
  simp only [f96_l0_eq]
  rfl

/-! 70 loop.example/g00480/laws.eqIntS -/
noncomputable def f70_l0 (p : Pr β) (n : Nat)  (k : AV → Heap → Option β) : Nat → AV → AV → AV → Heap → Option β
  | 0, _, _, _, _ => none
  | m + 1, t0, t1, t5, H => p.len t0 fun t13 =>
      p.bin .lss t5 t13 fun t14 =>
      p.cond t14
      (p.iadr 1 t0 t5 fun t19 =>
      p.load false 1 t19 H fun t20 =>
      p.iadr 1 t1 t5 fun t23 =>
      p.load false 1 t23 H fun t24 =>
      p.bin .neq t20 t24 fun t25 =>
      p.cond t25
      (k (.sc (.bool false)) H)
      (p.bin .add t5 (.sc (.int .i64 1)) fun t16 =>
      f70_l0 p n  k m t0 t1 t16 H))
      (k (.sc (.bool true)) H)
noncomputable def f70 (p : Pr β) (n : Nat) (a0 a1 : AV) (H : Heap) (k : AV → Heap → Option β) : Option β :=
  p.len a0 fun t7 =>
  p.len a1 fun t9 =>
  p.bin .neq t7 t9 fun t10 =>
  p.cond t10
  (k (.sc (.bool false)) H)
  (f70_l0 p n  k n a0 a1 (.sc (.int .i64 0)) H)
noncomputable def f70_L0 (p : Pr β) (n : Nat)  (k : AV → Heap → Option β) (m : Nat) (tm : Tm) (H : Heap) : Option β :=
  iterC 26 (fun tm H k => evalCode ti0 p o70 26 n (cd c70 [1, 1, 0, 1, 0, 0]) tm H k) (blkK 0 (seqK (fun tm H => evalCode ti0 p o70 26 n (cd c70 [1, 1, 1]) tm H (endK ti0 p Go.Proofs.Try.f70.results.toList k)) (endK ti0 p Go.Proofs.Try.f70.results.toList k))) m tm H
theorem f70_L0_step (p : Pr β) (n : Nat)  (k : AV → Heap → Option β) (m0 : Nat) (t0 t1 t2 t3 t4 t5 t6 t7 t8 t9 t10 t11 t12 t13 t14 t15 t16 t17 t18 t19 t20 t21 t22 t23 t24 t25 : AV) (H : Heap) : f70_L0 p n  k (m0 + 1) [(0, t0), (1, t1), (2, t2), (3, t3), (4, t4), (5, t5), (6, t6), (7, t7), (8, t8), (9, t9), (10, t10), (11, t11), (12, t12), (13, t13), (14, t14), (15, t15), (16, t16), (17, t17), (18, t18), (19, t19), (20, t20), (21, t21), (22, t22), (23, t23), (24, t24), (25, t25)] H =
  p.len t0 fun t13 =>
  p.bin .lss t5 t13 fun t14 =>
  p.cond t14
  (p.iadr 1 t0 t5 fun t19 =>
  p.load false 1 t19 H fun t20 =>
  p.iadr 1 t1 t5 fun t23 =>
  p.load false 1 t23 H fun t24 =>
  p.bin .neq t20 t24 fun t25 =>
  p.cond t25
  (k (.sc (.bool false)) H)
  (p.bin .add t5 (.sc (.int .i64 1)) fun t16 =>
  f70_L0 p n  k m0 [(0, t0), (1, t1), (2, t2), (3, t3), (4, t4), (5, t16), (6, t6), (7, t7), (8, t8), (9, t9), (10, t10), (11, t5), (12, t0), (13, t13), (14, t14), (15, t5), (16, t16), (17, t0), (18, t5), (19, t19), (20, t20), (21, t1), (22, t5), (23, t23), (24, t24), (25, t25)] H))
  (k (.sc (.bool true)) H) := by kernel_rfl
theorem f70_l0_eq (p : Pr β) (n : Nat)  (k : AV → Heap → Option β)   (m0 : Nat) : ∀ (t0 t1 t2 t3 t4 t5 t6 t7 t8 t9 t10 t11 t12 t13 t14 t15 t16 t17 t18 t19 t20 t21 t22 t23 t24 t25 : AV) (H : Heap), f70_L0 p n  k m0 [(0, t0), (1, t1), (2, t2), (3, t3), (4, t4), (5, t5), (6, t6), (7, t7), (8, t8), (9, t9), (10, t10), (11, t11), (12, t12), (13, t13), (14, t14), (15, t15), (16, t16), (17, t17), (18, t18), (19, t19), (20, t20), (21, t21), (22, t22), (23, t23), (24, t24), (25, t25)] H = f70_l0 p n  k m0 t0 t1 t5 H := by
  induction m0 with
  | zero => intros; rfl
  | succ m0 ih =>
    intro t0 t1 t2 t3 t4 t5 t6 t7 t8 t9 t10 t11 t12 t13 t14 t15 t16 t17 t18 t19 t20 t21 t22 t23 t24 t25 H
    rw [f70_L0_step]
    simp only [ih]
    rfl
theorem f70_raw (p : Pr β) (n : Nat) (a0 a1 : AV) (H : Heap) (k : AV → Heap → Option β) : evalBody ti0 p n ⟨c70, 26, Go.Proofs.Try.f70.results.toList, o70⟩ [a0, a1] H k =
  p.len a0 fun t7 =>
  p.len a1 fun t9 =>
  p.bin .neq t7 t9 fun t10 =>
  p.cond t10
  (k (.sc (.bool false)) H)
  (f70_L0 p n  k n [(0, a0), (1, a1), (2, (.sc undef)), (3, (.sc undef)), (4, (.sc (.bool false))), (5, (.sc (.int .i64 0))), (6, a0), (7, t7), (8, a1), (9, t9), (10, t10), (11, (.sc undef)), (12, (.sc undef)), (13, (.sc undef)), (14, (.sc undef)), (15, (.sc undef)), (16, (.sc undef)), (17, (.sc undef)), (18, (.sc undef)), (19, (.sc undef)), (20, (.sc undef)), (21, (.sc undef)), (22, (.sc undef)), (23, (.sc undef)), (24, (.sc undef)), (25, (.sc undef))] H) := by kernel_rfl
theorem f70_body (p : Pr β) (n : Nat) (a0 a1 : AV) (H : Heap) (k : AV → Heap → Option β) : evalBody ti0 p n ⟨c70, 26, Go.Proofs.Try.f70.results.toList, o70⟩ [a0, a1] H k = f70 p n a0 a1 H k := by
  rw [f70_raw]
  simp only [f70_l0_eq]
  rfl

/-! 65 loop.example/g00480/laws.eqPacket -/
noncomputable def f65 (p : Pr β) (n : Nat) (a0 a1 : AV) (H : Heap) (k : AV → Heap → Option β) : Option β :=
  p.box a0 H fun t2 H =>
  p.box a1 H fun t3 H =>
  p.fadr 0 t2 fun t5 =>
  p.load false 1 t5 H fun t6 =>
  p.fadr 0 t3 fun t7 =>
  p.load false 1 t7 H fun t8 =>
  p.bin .neq t6 t8 fun t9 =>
  p.cond t9
  (k (.sc (.bool false)) H)
  (p.fadr 1 t2 fun t10 =>
  p.load false 1 t10 H fun t11 =>
  p.fadr 1 t3 fun t12 =>
  p.load false 1 t12 H fun t13 =>
  p.binB .neq t11 t13 fun t14 =>
  p.cond t14
  (k (.sc (.bool false)) H)
  (p.fadr 2 t2 fun t15 =>
  p.load false 1 t15 H fun t16 =>
  p.fadr 2 t3 fun t17 =>
  p.load false 1 t17 H fun t18 =>
  p.bin .neq t16 t18 fun t19 =>
  p.cond t19
  (k (.sc (.bool false)) H)
  (p.fadr 3 t2 fun t20 =>
  p.load false 1 t20 H fun t21 =>
  p.fadr 3 t3 fun t22 =>
  p.load false 1 t22 H fun t23 =>
  p.binB .neq t21 t23 fun t24 =>
  p.cond t24
  (k (.sc (.bool false)) H)
  (p.fadr 4 t2 fun t25 =>
  p.load false 1 t25 H fun t26 =>
  p.fadr 4 t3 fun t27 =>
  p.load false 1 t27 H fun t28 =>
  p.bin .neq t26 t28 fun t29 =>
  p.cond t29
  (k (.sc (.bool false)) H)
  (p.fadr 5 t2 fun t30 =>
  p.load false 1 t30 H fun t31 =>
  p.fadr 5 t3 fun t32 =>
  p.load false 1 t32 H fun t33 =>
  p.bin .neq t31 t33 fun t34 =>
  p.cond t34
  (k (.sc (.bool false)) H)
  (p.fadr 6 t2 fun t35 =>
  p.load false 1 t35 H fun t36 =>
  p.fadr 6 t3 fun t37 =>
  p.load false 1 t37 H fun t38 =>
  p.call 4 (.fn 57 [] []) [t36, t38] H fun t39 H =>
  p.un .not t39 fun t40 =>
  p.cond t40
  (k (.sc (.bool false)) H)
  (p.fadr 7 t2 fun t41 =>
  p.load false 1 t41 H fun t42 =>
  p.fadr 7 t3 fun t43 =>
  p.load false 1 t43 H fun t44 =>
  p.bin .neq t42 t44 fun t45 =>
  p.cond t45
  (k (.sc (.bool false)) H)
  (p.fadr 8 t2 fun t46 =>
  p.load false 1 t46 H fun t47 =>
  p.fadr 8 t3 fun t48 =>
  p.load false 1 t48 H fun t49 =>
  p.bin .neq t47 t49 fun t50 =>
  p.cond t50
  (k (.sc (.bool false)) H)
  (p.fadr 9 t2 fun t51 =>
  p.load false 1 t51 H fun t52 =>
  p.fadr 9 t3 fun t53 =>
  p.load false 1 t53 H fun t54 =>
  p.binB .neq t52 t54 fun t55 =>
  p.cond t55
  (k (.sc (.bool false)) H)
  (p.fadr 10 t2 fun t56 =>
  p.load false 1 t56 H fun t57 =>
  p.fadr 10 t3 fun t58 =>
  p.load false 1 t58 H fun t59 =>
  p.bin .neq t57 t59 fun t60 =>
  p.cond t60
  (k (.sc (.bool false)) H)
  (p.fadr 11 t2 fun t61 =>
  p.load false 1 t61 H fun t62 =>
  p.fadr 11 t3 fun t63 =>
  p.load false 1 t63 H fun t64 =>
  p.binB .neq t62 t64 fun t65 =>
  p.cond t65
  (k (.sc (.bool false)) H)
  (p.fadr 12 t2 fun t66 =>
  p.load false 1 t66 H fun t67 =>
  p.fadr 12 t3 fun t68 =>
  p.load false 1 t68 H fun t69 =>
  p.bin .neq t67 t69 fun t70 =>
  p.cond t70
  (k (.sc (.bool false)) H)
  (p.fadr 13 t2 fun t71 =>
  p.load false 1 t71 H fun t72 =>
  p.fadr 13 t3 fun t73 =>
  p.load false 1 t73 H fun t74 =>
  p.call 4 (.fn 57 [] []) [t72, t74] H fun t75 H =>
  p.un .not t75 fun t76 =>
  p.cond t76
  (k (.sc (.bool false)) H)
  (p.fadr 14 t2 fun t77 =>
  p.load false 1 t77 H fun t78 =>
  p.fadr 14 t3 fun t79 =>
  p.load false 1 t79 H fun t80 =>
  p.bin .neq t78 t80 fun t81 =>
  p.cond t81
  (k (.sc (.bool false)) H)
  (p.fadr 15 t2 fun t82 =>
  p.load false 1 t82 H fun t83 =>
  p.fadr 15 t3 fun t84 =>
  p.load false 1 t84 H fun t85 =>
  p.binB .neq t83 t85 fun t86 =>
  p.cond t86
  (k (.sc (.bool false)) H)
  (p.fadr 16 t2 fun t87 =>
  p.load false 1 t87 H fun t88 =>
  p.fadr 16 t3 fun t89 =>
  p.load false 1 t89 H fun t90 =>
  p.binB .neq t88 t90 fun t91 =>
  p.cond t91
  (k (.sc (.bool false)) H)
  (p.fadr 17 t2 fun t92 =>
  p.load false 1 t92 H fun t93 =>
  p.fadr 17 t3 fun t94 =>
  p.load false 1 t94 H fun t95 =>
  p.bin .neq t93 t95 fun t96 =>
  p.cond t96
  (k (.sc (.bool false)) H)
  (p.fadr 18 t2 fun t97 =>
  p.load false 1 t97 H fun t98 =>
  p.fadr 18 t3 fun t99 =>
  p.load false 1 t99 H fun t100 =>
  p.binB .neq t98 t100 fun t101 =>
  p.cond t101
  (k (.sc (.bool false)) H)
  (p.fadr 19 t2 fun t102 =>
  p.load false 1 t102 H fun t103 =>
  p.fadr 19 t3 fun t104 =>
  p.load false 1 t104 H fun t105 =>
  p.call 4 (.fn 57 [] []) [t103, t105] H fun t106 H =>
  p.un .not t106 fun t107 =>
  p.cond t107
  (k (.sc (.bool false)) H)
  (p.fadr 20 t2 fun t108 =>
  p.load false 1 t108 H fun t109 =>
  p.fadr 20 t3 fun t110 =>
  p.load false 1 t110 H fun t111 =>
  p.bin .neq t109 t111 fun t112 =>
  p.cond t112
  (k (.sc (.bool false)) H)
  (p.fadr 21 t2 fun t113 =>
  p.load false 1 t113 H fun t114 =>
  p.fadr 21 t3 fun t115 =>
  p.load false 1 t115 H fun t116 =>
  p.binB .neq t114 t116 fun t117 =>
  p.cond t117
  (k (.sc (.bool false)) H)
  (p.fadr 22 t2 fun t118 =>
  p.load false 1 t118 H fun t119 =>
  p.fadr 22 t3 fun t120 =>
  p.load false 1 t120 H fun t121 =>
  p.call 4 (.fn 95 [] []) [t119, t121] H fun t122 H =>
  p.un .not t122 fun t123 =>
  p.cond t123
  (k (.sc (.bool false)) H)
  (p.fadr 23 t2 fun t124 =>
  p.load false 1 t124 H fun t125 =>
  p.fadr 23 t3 fun t126 =>
  p.load false 1 t126 H fun t127 =>
  p.call 4 (.fn 96 [] []) [t125, t127] H fun t128 H =>
  p.un .not t128 fun t129 =>
  p.cond t129
  (k (.sc (.bool false)) H)
  (p.fadr 24 t2 fun t130 =>
  p.load false 1 t130 H fun t131 =>
  p.fadr 24 t3 fun t132 =>
  p.load false 1 t132 H fun t133 =>
  p.call 4 (.fn 70 [] []) [t131, t133] H fun t134 H =>
  p.un .not t134 fun t135 =>
  p.cond t135
  (k (.sc (.bool false)) H)
  (k (.sc (.bool true)) H)))))))))))))))))))))))))
theorem f65_body (p : Pr β) (n : Nat) (a0 a1 : AV) (H : Heap) (k : AV → Heap → Option β) : evalBody ti0 p n ⟨c65, 136, Go.Proofs.Try.f65.results.toList, o65⟩ [a0, a1] H k = f65 p n a0 a1 H k := by kernel_rfl

/-! 97 loop.example/g00480/laws.eqSub -/
noncomputable def f97 (p : Pr β) (n : Nat) (a0 a1 : AV) (H : Heap) (k : AV → Heap → Option β) : Option β :=
  p.box a0 H fun t2 H =>
  p.box a1 H fun t3 H =>
  p.fadr 0 t2 fun t5 =>
  p.load false 1 t5 H fun t6 =>
  p.fadr 0 t3 fun t7 =>
  p.load false 1 t7 H fun t8 =>
  p.bin .neq t6 t8 fun t9 =>
  p.cond t9
  (k (.sc (.bool false)) H)
  (p.fadr 1 t2 fun t10 =>
  p.load false 1 t10 H fun t11 =>
  p.fadr 1 t3 fun t12 =>
  p.load false 1 t12 H fun t13 =>
  p.bin .neq t11 t13 fun t14 =>
  p.cond t14
  (k (.sc (.bool false)) H)
  (p.fadr 2 t2 fun t15 =>
  p.load false 1 t15 H fun t16 =>
  p.fadr 2 t3 fun t17 =>
  p.load false 1 t17 H fun t18 =>
  p.bin .neq t16 t18 fun t19 =>
  p.cond t19
  (k (.sc (.bool false)) H)
  (k (.sc (.bool true)) H)))
theorem f97_body (p : Pr β) (n : Nat) (a0 a1 : AV) (H : Heap) (k : AV → Heap → Option β) : evalBody ti0 p n ⟨c97, 20, Go.Proofs.Try.f97.results.toList, o97⟩ [a0, a1] H k = f97 p n a0 a1 H k := by kernel_rfl

/-! 66 loop.example/g00480/laws.eqSubS -/
noncomputable def f66_l0 (p : Pr β) (n : Nat)  (k : AV → Heap → Option β) : Nat → AV → AV → AV → Heap → Option β
  | 0, _, _, _, _ => none
  | m + 1, t0, t1, t5, H => p.len t0 fun t13 =>
      p.bin .lss t5 t13 fun t14 =>
      p.cond t14
      (p.iadr 3 t0 t5 fun t19 =>
      p.load true 3 t19 H fun t20 =>
      p.iadr 3 t1 t5 fun t23 =>
      p.load true 3 t23 H fun t24 =>
      p.call 4 (.fn 97 [] []) [t20, t24] H fun t25 H =>
      p.un .not t25 fun t26 =>
      p.cond t26
      (k (.sc (.bool false)) H)
      (p.bin .add t5 (.sc (.int .i64 1)) fun t16 =>
      f66_l0 p n  k m t0 t1 t16 H))
      (k (.sc (.bool true)) H)
noncomputable def f66 (p : Pr β) (n : Nat) (a0 a1 : AV) (H : Heap) (k : AV → Heap → Option β) : Option β :=
  p.len a0 fun t7 =>
  p.len a1 fun t9 =>
  p.bin .neq t7 t9 fun t10 =>
  p.cond t10
  (k (.sc (.bool false)) H)
  (f66_l0 p n  k n a0 a1 (.sc (.int .i64 0)) H)
noncomputable def f66_L0 (p : Pr β) (n : Nat)  (k : AV → Heap → Option β) (m : Nat) (tm : Tm) (H : Heap) : Option β :=
  iterC 27 (fun tm H k => evalCode ti0 p o66 27 n (cd c66 [1, 1, 0, 1, 0, 0]) tm H k) (blkK 0 (seqK (fun tm H => evalCode ti0 p o66 27 n (cd c66 [1, 1, 1]) tm H (endK ti0 p Go.Proofs.Try.f66.results.toList k)) (endK ti0 p Go.Proofs.Try.f66.results.toList k))) m tm H
theorem f66_L0_step (p : Pr β) (n : Nat)  (k : AV → Heap → Option β) (m0 : Nat) (t0 t1 t2 t3 t4 t5 t6 t7 t8 t9 t10 t11 t12 t13 t14 t15 t16 t17 t18 t19 t20 t21 t22 t23 t24 t25 t26 : AV) (H : Heap) : f66_L0 p n  k (m0 + 1) [(0, t0), (1, t1), (2, t2), (3, t3), (4, t4), (5, t5), (6, t6), (7, t7), (8, t8), (9, t9), (10, t10), (11, t11), (12, t12), (13, t13), (14, t14), (15, t15), (16, t16), (17, t17), (18, t18), (19, t19), (20, t20), (21, t21), (22, t22), (23, t23), (24, t24), (25, t25), (26, t26)] H =
  p.len t0 fun t13 =>
  p.bin .lss t5 t13 fun t14 =>
  p.cond t14
  (p.iadr 3 t0 t5 fun t19 =>
  p.load true 3 t19 H fun t20 =>
  p.iadr 3 t1 t5 fun t23 =>
  p.load true 3 t23 H fun t24 =>
  p.call 4 (.fn 97 [] []) [t20, t24] H fun t25 H =>
  p.un .not t25 fun t26 =>
  p.cond t26
  (k (.sc (.bool false)) H)
  (p.bin .add t5 (.sc (.int .i64 1)) fun t16 =>
  f66_L0 p n  k m0 [(0, t0), (1, t1), (2, t2), (3, t3), (4, t4), (5, t16), (6, t6), (7, t7), (8, t8), (9, t9), (10, t10), (11, t5), (12, t0), (13, t13), (14, t14), (15, t5), (16, t16), (17, t0), (18, t5), (19, t19), (20, t20), (21, t1), (22, t5), (23, t23), (24, t24), (25, t25), (26, t26)] H))
  (k (.sc (.bool true)) H) := by kernel_rfl
theorem f66_l0_eq (p : Pr β) (n : Nat)  (k : AV → Heap → Option β)   (m0 : Nat) : ∀ (t0 t1 t2 t3 t4 t5 t6 t7 t8 t9 t10 t11 t12 t13 t14 t15 t16 t17 t18 t19 t20 t21 t22 t23 t24 t25 t26 : AV) (H : Heap), f66_L0 p n  k m0 [(0, t0), (1, t1), (2, t2), (3, t3), (4, t4), (5, t5), (6, t6), (7, t7), (8, t8), (9, t9), (10, t10), (11, t11), (12, t12), (13, t13), (14, t14), (15, t15), (16, t16), (17, t17), (18, t18), (19, t19), (20, t20), (21, t21), (22, t22), (23, t23), (24, t24), (25, t25), (26, t26)] H = f66_l0 p n  k m0 t0 t1 t5 H := by
  induction m0 with
  | zero => intros; rfl
  | succ m0 ih =>
    intro t0 t1 t2 t3 t4 t5 t6 t7 t8 t9 t10 t11 t12 t13 t14 t15 t16 t17 t18 t19 t20 t21 t22 t23 t24 t25 t26 H
    rw [f66_L0_step]
    simp only [ih]
    rfl
theorem f66_raw (p : Pr β) (n : Nat) (a0 a1 : AV) (H : Heap) (k : AV → Heap → Option β) : evalBody ti0 p n ⟨c66, 27, Go.Proofs.Try.f66.results.toList, o66⟩ [a0, a1] H k =
  p.len a0 fun t7 =>
  p.len a1 fun t9 =>
  p.bin .neq t7 t9 fun t10 =>
  p.cond t10
  (k (.sc (.bool false)) H)
  (f66_L0 p n  k n [(0, a0), (1, a1), (2, (.sc undef)), (3, (.sc undef)), (4, (.sc (.bool false))), (5, (.sc (.int .i64 0))), (6, a0), (7, t7), (8, a1), (9, t9), (10, t10), (11, (.sc undef)), (12, (.sc undef)), (13, (.sc undef)), (14, (.sc undef)), (15, (.sc undef)), (16, (.sc undef)), (17, (.sc undef)), (18, (.sc undef)), (19, (.sc undef)), (20, (.sc undef)), (21, (.sc undef)), (22, (.sc undef)), (23, (.sc undef)), (24, (.sc undef)), (25, (.sc undef)), (26, (.sc undef))] H) := by kernel_rfl
theorem f66_body (p : Pr β) (n : Nat) (a0 a1 : AV) (H : Heap) (k : AV → Heap → Option β) : evalBody ti0 p n ⟨c66, 27, Go.Proofs.Try.f66.results.toList, o66⟩ [a0, a1] H k = f66 p n a0 a1 H k := by
  rw [f66_raw]
  simp only [f66_l0_eq]
  rfl

/-! 56 loop.example/g00480/laws.eqMsg -/
noncomputable def f56 (p : Pr β) (n : Nat) (a0 a1 : AV) (H : Heap) (k : AV → Heap → Option β) : Option β :=
  p.box a0 H fun t2 H =>
  p.box a1 H fun t3 H =>
  p.fadr 0 t2 fun t5 =>
  p.load false 1 t5 H fun t6 =>
  p.fadr 0 t3 fun t7 =>
  p.load false 1 t7 H fun t8 =>
  p.bin .neq t6 t8 fun t9 =>
  p.cond t9
  (k (.sc (.bool false)) H)
  (p.fadr 1 t2 fun t10 =>
  p.load false 1 t10 H fun t11 =>
  p.fadr 1 t3 fun t12 =>
  p.load false 1 t12 H fun t13 =>
  p.call 4 (.fn 57 [] []) [t11, t13] H fun t14 H =>
  p.un .not t14 fun t15 =>
  p.cond t15
  (k (.sc (.bool false)) H)
  (p.fadr 2 t2 fun t16 =>
  p.load false 1 t16 H fun t17 =>
  p.fadr 2 t3 fun t18 =>
  p.load false 1 t18 H fun t19 =>
  p.bin .neq t17 t19 fun t20 =>
  p.cond t20
  (k (.sc (.bool false)) H)
  (p.fadr 3 t2 fun t21 =>
  p.load false 1 t21 H fun t22 =>
  p.fadr 3 t3 fun t23 =>
  p.load false 1 t23 H fun t24 =>
  p.binB .neq t22 t24 fun t25 =>
  p.cond t25
  (k (.sc (.bool false)) H)
  (k (.sc (.bool true)) H))))
theorem f56_body (p : Pr β) (n : Nat) (a0 a1 : AV) (H : Heap) (k : AV → Heap → Option β) : evalBody ti0 p n ⟨c56, 26, Go.Proofs.Try.f56.results.toList, o56⟩ [a0, a1] H k = f56 p n a0 a1 H k := by kernel_rfl

/-! 67 loop.example/g00480/laws.eqMsgS -/
noncomputable def f67_l0 (p : Pr β) (n : Nat)  (k : AV → Heap → Option β) : Nat → AV → AV → AV → Heap → Option β
  | 0, _, _, _, _ => none
  | m + 1, t0, t1, t5, H => p.len t0 fun t13 =>
      p.bin .lss t5 t13 fun t14 =>
      p.cond t14
      (p.iadr 4 t0 t5 fun t19 =>
      p.load true 4 t19 H fun t20 =>
      p.iadr 4 t1 t5 fun t23 =>
      p.load true 4 t23 H fun t24 =>
      p.call 4 (.fn 56 [] []) [t20, t24] H fun t25 H =>
      p.un .not t25 fun t26 =>
      p.cond t26
      (k (.sc (.bool false)) H)
      (p.bin .add t5 (.sc (.int .i64 1)) fun t16 =>
      f67_l0 p n  k m t0 t1 t16 H))
      (k (.sc (.bool true)) H)
noncomputable def f67 (p : Pr β) (n : Nat) (a0 a1 : AV) (H : Heap) (k : AV → Heap → Option β) : Option β :=
  p.len a0 fun t7 =>
  p.len a1 fun t9 =>
  p.bin .neq t7 t9 fun t10 =>
  p.cond t10
  (k (.sc (.bool false)) H)
  (f67_l0 p n  k n a0 a1 (.sc (.int .i64 0)) H)
noncomputable def f67_L0 (p : Pr β) (n : Nat)  (k : AV → Heap → Option β) (m : Nat) (tm : Tm) (H : Heap) : Option β :=
  iterC 27 (fun tm H k => evalCode ti0 p o67 27 n (cd c67 [1, 1, 0, 1, 0, 0]) tm H k) (blkK 0 (seqK (fun tm H => evalCode ti0 p o67 27 n (cd c67 [1, 1, 1]) tm H (endK ti0 p Go.Proofs.Try.f67.results.toList k)) (endK ti0 p Go.Proofs.Try.f67.results.toList k))) m tm H
theorem f67_L0_step (p : Pr β) (n : Nat)  (k : AV → Heap → Option β) (m0 : Nat) (t0 t1 t2 t3 t4 t5 t6 t7 t8 t9 t10 t11 t12 t13 t14 t15 t16 t17 t18 t19 t20 t21 t22 t23 t24 t25 t26 : AV) (H : Heap) : f67_L0 p n  k (m0 + 1) [(0, t0), (1, t1), (2, t2), (3, t3), (4, t4), (5, t5), (6, t6), (7, t7), (8, t8), (9, t9), (10, t10), (11, t11), (12, t12), (13, t13), (14, t14), (15, t15), (16, t16), (17, t17), (18, t18), (19, t19), (20, t20), (21, t21), (22, t22), (23, t23), (24, t24), (25, t25), (26, t26)] H =
  p.len t0 fun t13 =>
  p.bin .lss t5 t13 fun t14 =>
  p.cond t14
  (p.iadr 4 t0 t5 fun t19 =>
  p.load true 4 t19 H fun t20 =>
  p.iadr 4 t1 t5 fun t23 =>
  p.load true 4 t23 H fun t24 =>
  p.call 4 (.fn 56 [] []) [t20, t24] H fun t25 H =>
  p.un .not t25 fun t26 =>
  p.cond t26
  (k (.sc (.bool false)) H)
  (p.bin .add t5 (.sc (.int .i64 1)) fun t16 =>
  f67_L0 p n  k m0 [(0, t0), (1, t1), (2, t2), (3, t3), (4, t4), (5, t16), (6, t6), (7, t7), (8, t8), (9, t9), (10, t10), (11, t5), (12, t0), (13, t13), (14, t14), (15, t5), (16, t16), (17, t0), (18, t5), (19, t19), (20, t20), (21, t1), (22, t5), (23, t23), (24, t24), (25, t25), (26, t26)] H))
  (k (.sc (.bool true)) H) := by kernel_rfl
theorem f67_l0_eq (p : Pr β) (n : Nat)  (k : AV → Heap → Option β)   (m0 : Nat) : ∀ (t0 t1 t2 t3 t4 t5 t6 t7 t8 t9 t10 t11 t12 t13 t14 t15 t16 t17 t18 t19 t20 t21 t22 t23 t24 t25 t26 : AV) (H : Heap), f67_L0 p n  k m0 [(0, t0), (1, t1), (2, t2), (3, t3), (4, t4), (5, t5), (6, t6), (7, t7), (8, t8), (9, t9), (10, t10), (11, t11), (12, t12), (13, t13), (14, t14), (15, t15), (16, t16), (17, t17), (18, t18), (19, t19), (20, t20), (21, t21), (22, t22), (23, t23), (24, t24), (25, t25), (26, t26)] H = f67_l0 p n  k m0 t0 t1 t5 H := by
  induction m0 with
  | zero => intros; rfl
  | succ m0 ih =>
    intro t0 t1 t2 t3 t4 t5 t6 t7 t8 t9 t10 t11 t12 t13 t14 t15 t16 t17 t18 t19 t20 t21 t22 t23 t24 t25 t26 H
    rw [f67_L0_step]
    simp only [ih]
    rfl
theorem f67_raw (p : Pr β) (n : Nat) (a0 a1 : AV) (H : Heap) (k : AV → Heap → Option β) : evalBody ti0 p n ⟨c67, 27, Go.Proofs.Try.f67.results.toList, o67⟩ [a0, a1] H k =
  p.len a0 fun t7 =>
  p.len a1 fun t9 =>
  p.bin .neq t7 t9 fun t10 =>
  p.cond t10
  (k (.sc (.bool false)) H)
  (f67_L0 p n  k n [(0, a0), (1, a1), (2, (.sc undef)), (3, (.sc undef)), (4, (.sc (.bool false))), (5, (.sc (.int .i64 0))), (6, a0), (7, t7), (8, a1), (9, t9), (10, t10), (11, (.sc undef)), (12, (.sc undef)), (13, (.sc undef)), (14, (.sc undef)), (15, (.sc undef)), (16, (.sc undef)), (17, (.sc undef)), (18, (.sc undef)), (19, (.sc undef)), (20, (.sc undef)), (21, (.sc undef)), (22, (.sc undef)), (23, (.sc undef)), (24, (.sc undef)), (25, (.sc undef)), (26, (.sc undef))] H) := by kernel_rfl
theorem f67_body (p : Pr β) (n : Nat) (a0 a1 : AV) (H : Heap) (k : AV → Heap → Option β) : evalBody ti0 p n ⟨c67, 27, Go.Proofs.Try.f67.results.toList, o67⟩ [a0, a1] H k = f67 p n a0 a1 H k := by
  rw [f67_raw]
  simp only [f67_l0_eq]
  rfl

/-! 30 loop.example/g00480/laws.eqDeed -/
noncomputable def f30 (p : Pr β) (n : Nat) (a0 a1 : AV) (H : Heap) (k : AV → Heap → Option β) : Option β :=
  p.box a0 H fun t2 H =>
  p.box a1 H fun t3 H =>
  p.fadr 0 t2 fun t5 =>
  p.load false 1 t5 H fun t6 =>
  p.fadr 0 t3 fun t7 =>
  p.load false 1 t7 H fun t8 =>
  p.bin .neq t6 t8 fun t9 =>
  p.cond t9
  (k (.sc (.bool false)) H)
  (p.fadr 1 t2 fun t10 =>
  p.load false 1 t10 H fun t11 =>
  p.fadr 1 t3 fun t12 =>
  p.load false 1 t12 H fun t13 =>
  p.bin .neq t11 t13 fun t14 =>
  p.cond t14
  (k (.sc (.bool false)) H)
  (p.fadr 2 t2 fun t15 =>
  p.load false 1 t15 H fun t16 =>
  p.fadr 2 t3 fun t17 =>
  p.load false 1 t17 H fun t18 =>
  p.bin .neq t16 t18 fun t19 =>
  p.cond t19
  (k (.sc (.bool false)) H)
  (p.fadr 3 t2 fun t20 =>
  p.load false 1 t20 H fun t21 =>
  p.fadr 3 t3 fun t22 =>
  p.load false 1 t22 H fun t23 =>
  p.bin .neq t21 t23 fun t24 =>
  p.cond t24
  (k (.sc (.bool false)) H)
  (p.fadr 4 t2 fun t25 =>
  p.load true 25 t25 H fun t26 =>
  p.fadr 4 t3 fun t27 =>
  p.load true 25 t27 H fun t28 =>
  p.call 4 (.fn 65 [] []) [t26, t28] H fun t29 H =>
  p.un .not t29 fun t30 =>
  p.cond t30
  (k (.sc (.bool false)) H)
  (p.fadr 29 t2 fun t31 =>
  p.load false 1 t31 H fun t32 =>
  p.fadr 29 t3 fun t33 =>
  p.load false 1 t33 H fun t34 =>
  p.bin .neq t32 t34 fun t35 =>
  p.cond t35
  (k (.sc (.bool false)) H)
  (p.fadr 30 t2 fun t36 =>
  p.load false 1 t36 H fun t37 =>
  p.fadr 30 t3 fun t38 =>
  p.load false 1 t38 H fun t39 =>
  p.bin .neq t37 t39 fun t40 =>
  p.cond t40
  (k (.sc (.bool false)) H)
  (p.fadr 31 t2 fun t41 =>
  p.load false 1 t41 H fun t42 =>
  p.fadr 31 t3 fun t43 =>
  p.load false 1 t43 H fun t44 =>
  p.bin .neq t42 t44 fun t45 =>
  p.cond t45
  (k (.sc (.bool false)) H)
  (p.fadr 32 t2 fun t46 =>
  p.load false 1 t46 H fun t47 =>
  p.fadr 32 t3 fun t48 =>
  p.load false 1 t48 H fun t49 =>
  p.binB .neq t47 t49 fun t50 =>
  p.cond t50
  (k (.sc (.bool false)) H)
  (p.fadr 33 t2 fun t51 =>
  p.load false 1 t51 H fun t52 =>
  p.fadr 33 t3 fun t53 =>
  p.load false 1 t53 H fun t54 =>
  p.bin .neq t52 t54 fun t55 =>
  p.cond t55
  (k (.sc (.bool false)) H)
  (p.fadr 34 t2 fun t56 =>
  p.load false 1 t56 H fun t57 =>
  p.fadr 34 t3 fun t58 =>
  p.load false 1 t58 H fun t59 =>
  p.bin .neq t57 t59 fun t60 =>
  p.cond t60
  (k (.sc (.bool false)) H)
  (p.fadr 35 t2 fun t61 =>
  p.load false 1 t61 H fun t62 =>
  p.fadr 35 t3 fun t63 =>
  p.load false 1 t63 H fun t64 =>
  p.binB .neq t62 t64 fun t65 =>
  p.cond t65
  (k (.sc (.bool false)) H)
  (p.fadr 36 t2 fun t66 =>
  p.load false 1 t66 H fun t67 =>
  p.fadr 36 t3 fun t68 =>
  p.load false 1 t68 H fun t69 =>
  p.binB .neq t67 t69 fun t70 =>
  p.cond t70
  (k (.sc (.bool false)) H)
  (p.fadr 37 t2 fun t71 =>
  p.load false 1 t71 H fun t72 =>
  p.fadr 37 t3 fun t73 =>
  p.load false 1 t73 H fun t74 =>
  p.call 4 (.fn 66 [] []) [t72, t74] H fun t75 H =>
  p.un .not t75 fun t76 =>
  p.cond t76
  (k (.sc (.bool false)) H)
  (p.fadr 38 t2 fun t77 =>
  p.load false 1 t77 H fun t78 =>
  p.fadr 38 t3 fun t79 =>
  p.load false 1 t79 H fun t80 =>
  p.call 4 (.fn 70 [] []) [t78, t80] H fun t81 H =>
  p.un .not t81 fun t82 =>
  p.cond t82
  (k (.sc (.bool false)) H)
  (p.fadr 39 t2 fun t83 =>
  p.load false 1 t83 H fun t84 =>
  p.fadr 39 t3 fun t85 =>
  p.load false 1 t85 H fun t86 =>
  p.call 4 (.fn 67 [] []) [t84, t86] H fun t87 H =>
  p.un .not t87 fun t88 =>
  p.cond t88
  (k (.sc (.bool false)) H)
  (k (.sc (.bool true)) H))))))))))))))))
theorem f30_body (p : Pr β) (n : Nat) (a0 a1 : AV) (H : Heap) (k : AV → Heap → Option β) : evalBody ti0 p n ⟨c30, 89, Go.Proofs.Try.f30.results.toList, o30⟩ [a0, a1] H k = f30 p n a0 a1 H k := by kernel_rfl

/-! 10 loop.example/g00480/laws.FnExactSameDeed -/
noncomputable def f10 (p : Pr β) (n : Nat) (a0 a1 : AV) (H : Heap) (k : AV → Heap → Option β) : Option β :=
  p.box a0 H fun t2 H =>
  p.box a1 H fun t3 H =>
  p.load true 40 t2 H fun t10 =>
  p.call 3 (.fn 26 [] []) [t10, (.sc (.int .i64 1048576))] H fun t12 H =>
  p.bin .lss t12 (.sc (.int .i64 0)) fun t14 =>
  p.cond t14
  (k (.sc (.bool true)) H)
  (p.load true 40 t3 H fun t15 =>
  p.call 3 (.fn 26 [] []) [t15, t12] H fun t17 H =>
  p.bin .lss t17 (.sc (.int .i64 0)) fun t19 =>
  p.cond t19
  (k (.sc (.bool true)) H)
  (p.load true 40 t2 H fun t20 =>
  p.load true 40 t3 H fun t22 =>
  p.call 77 (.fn 28 [] []) [t20] H fun t21 H =>
  p.call 77 (.fn 28 [] []) [t22] H fun t23 H =>
  p.call 4 (.fn 39 [] []) [t21, t23] H fun t24 H =>
  p.load true 40 t2 H fun t25 =>
  p.call 77 (.fn 28 [] []) [t25] H fun t26 H =>
  p.new [(.sc (.int .i64 0)), (.sc (.int .i64 0)), (.sc (.int .i64 0)), (.sc (.string ⟨#[]⟩)), (.sc (.int .i64 0)), (.sc (.bool false)), (.sc (.int .i64 0)), (.sc (.bool false)), (.sc (.int .i64 0)), (.sc (.string ⟨#[]⟩)), .nl, (.sc (.string ⟨#[]⟩)), (.sc (.int .i64 0)), (.sc (.bool false)), (.sc (.int .i64 0)), (.sc (.bool false)), (.sc (.string ⟨#[]⟩)), .nl, (.sc (.int .i64 0)), (.sc (.bool false)), (.sc (.bool false)), (.sc (.string ⟨#[]⟩)), (.sc (.bool false)), .nl, (.sc (.int .i64 0)), (.sc (.bool false)), .nl, .nl, .nl, (.sc (.int .i64 0)), (.sc (.int .i64 0)), (.sc (.int .i64 0)), (.sc (.bool false)), (.sc (.int .i64 0)), (.sc (.int .i64 0)), (.sc (.bool false)), (.sc (.bool false)), .nl, .nl, .nl] H fun t7 H =>
  p.store 40 t7 t26 H fun H =>
  p.load true 40 t3 H fun t27 =>
  p.call 77 (.fn 28 [] []) [t27] H fun t28 H =>
  p.new [(.sc (.int .i64 0)), (.sc (.int .i64 0)), (.sc (.int .i64 0)), (.sc (.string ⟨#[]⟩)), (.sc (.int .i64 0)), (.sc (.bool false)), (.sc (.int .i64 0)), (.sc (.bool false)), (.sc (.int .i64 0)), (.sc (.string ⟨#[]⟩)), .nl, (.sc (.string ⟨#[]⟩)), (.sc (.int .i64 0)), (.sc (.bool false)), (.sc (.int .i64 0)), (.sc (.bool false)), (.sc (.string ⟨#[]⟩)), .nl, (.sc (.int .i64 0)), (.sc (.bool false)), (.sc (.bool false)), (.sc (.string ⟨#[]⟩)), (.sc (.bool false)), .nl, (.sc (.int .i64 0)), (.sc (.bool false)), .nl, .nl, .nl, (.sc (.int .i64 0)), (.sc (.int .i64 0)), (.sc (.int .i64 0)), (.sc (.bool false)), (.sc (.int .i64 0)), (.sc (.int .i64 0)), (.sc (.bool false)), (.sc (.bool false)), .nl, .nl, .nl] H fun t8 H =>
  p.store 40 t8 t28 H fun H =>
  p.load true 40 t7 H fun t29 =>
  p.load true 40 t8 H fun t30 =>
  p.call 4 (.fn 40 [] []) [t29, t30] H fun t31 H =>
  p.binB .neq t31 t24 fun t34 =>
  p.cond t34
  (k (.sc (.bool false)) H)
  (p.load true 40 t7 H fun t35 =>
  p.load true 40 t2 H fun t36 =>
  p.call 77 (.fn 28 [] []) [t36] H fun t37 H =>
  p.call 4 (.fn 30 [] []) [t35, t37] H fun t38 H =>
  p.un .not t38 fun t39 =>
  p.cond t39
  (k (.sc (.bool false)) H)
  (p.load true 40 t8 H fun t40 =>
  p.load true 40 t3 H fun t41 =>
  p.call 77 (.fn 28 [] []) [t41] H fun t42 H =>
  p.call 4 (.fn 30 [] []) [t40, t42] H fun t43 H =>
  p.un .not t43 fun t44 =>
  p.cond t44
  (k (.sc (.bool false)) H)
  (k (.sc (.bool true)) H)))))
theorem f10_body (p : Pr β) (n : Nat) (a0 a1 : AV) (H : Heap) (k : AV → Heap → Option β) : evalBody ti0 p n ⟨c10, 45, Go.Proofs.Try.f10.results.toList, o10⟩ [a0, a1] H k = f10 p n a0 a1 H k := by kernel_rfl

noncomputable def fss : List (Option FnI) := [none, none, none, none, none, none, none, none, none, none, some ⟨c10, 45, Go.Proofs.Try.f10.results.toList, o10⟩, none, none, none, none, none, none, none, none, none, none, none, none, none, none, none, some ⟨c26, 37, Go.Proofs.Try.f26.results.toList, o26⟩, none, some ⟨c28, 57, Go.Proofs.Try.f28.results.toList, o28⟩, none, some ⟨c30, 89, Go.Proofs.Try.f30.results.toList, o30⟩, none, none, none, none, none, none, none, none, some ⟨c39, 115, Go.Proofs.Try.f39.results.toList, o39⟩, some ⟨c40, 119, Go.Proofs.Try.f40.results.toList, o40⟩, none, none, none, none, none, none, none, some ⟨c48, 19, Go.Proofs.Try.f48.results.toList, o48⟩, some ⟨c49, 12, Go.Proofs.Try.f49.results.toList, o49⟩, none, none, some ⟨c52, 18, Go.Proofs.Try.f52.results.toList, o52⟩, some ⟨c53, 22, Go.Proofs.Try.f53.results.toList, o53⟩, none, none, some ⟨c56, 26, Go.Proofs.Try.f56.results.toList, o56⟩, some ⟨c57, 26, Go.Proofs.Try.f57.results.toList, o57⟩, some ⟨c58, 70, Go.Proofs.Try.f58.results.toList, o58⟩, some ⟨c59, 27, Go.Proofs.Try.f59.results.toList, o59⟩, some ⟨c60, 27, Go.Proofs.Try.f60.results.toList, o60⟩, none, some ⟨c62, 86, Go.Proofs.Try.f62.results.toList, o62⟩, some ⟨c63, 23, Go.Proofs.Try.f63.results.toList, o63⟩, some ⟨c64, 23, Go.Proofs.Try.f64.results.toList, o64⟩, some ⟨c65, 136, Go.Proofs.Try.f65.results.toList, o65⟩, some ⟨c66, 27, Go.Proofs.Try.f66.results.toList, o66⟩, some ⟨c67, 27, Go.Proofs.Try.f67.results.toList, o67⟩, some ⟨c68, 12, Go.Proofs.Try.f68.results.toList, o68⟩, some ⟨c69, 22, Go.Proofs.Try.f69.results.toList, o69⟩, some ⟨c70, 26, Go.Proofs.Try.f70.results.toList, o70⟩, none, none, none, none, none, none, none, some ⟨c78, 239, Go.Proofs.Try.f78.results.toList, o78⟩, some ⟨c79, 26, Go.Proofs.Try.f79.results.toList, o79⟩, some ⟨c80, 26, Go.Proofs.Try.f80.results.toList, o80⟩, some ⟨c81, 15, Go.Proofs.Try.f81.results.toList, o81⟩, some ⟨c82, 186, Go.Proofs.Try.f82.results.toList, o82⟩, some ⟨c83, 26, Go.Proofs.Try.f83.results.toList, o83⟩, some ⟨c84, 26, Go.Proofs.Try.f84.results.toList, o84⟩, some ⟨c85, 8, Go.Proofs.Try.f85.results.toList, o85⟩, none, none, none, some ⟨c89, 27, Go.Proofs.Try.f89.results.toList, o89⟩, some ⟨c90, 28, Go.Proofs.Try.f90.results.toList, o90⟩, some ⟨c91, 13, Go.Proofs.Try.f91.results.toList, o91⟩, some ⟨c92, 23, Go.Proofs.Try.f92.results.toList, o92⟩, some ⟨c93, 22, Go.Proofs.Try.f93.results.toList, o93⟩, some ⟨c94, 14, Go.Proofs.Try.f94.results.toList, o94⟩, some ⟨c95, 27, Go.Proofs.Try.f95.results.toList, o95⟩, some ⟨c96, 26, Go.Proofs.Try.f96.results.toList, o96⟩, some ⟨c97, 20, Go.Proofs.Try.f97.results.toList, o97⟩, none, none, none, none, none, none, none, none, none, some ⟨c107, 10, Go.Proofs.Try.f107.results.toList, o107⟩, some ⟨c108, 33, Go.Proofs.Try.f108.results.toList, o108⟩, some ⟨c109, 10, Go.Proofs.Try.f109.results.toList, o109⟩, some ⟨c110, 26, Go.Proofs.Try.f110.results.toList, o110⟩, some ⟨c111, 26, Go.Proofs.Try.f111.results.toList, o111⟩, some ⟨c112, 32, Go.Proofs.Try.f112.results.toList, o112⟩, some ⟨c113, 31, Go.Proofs.Try.f113.results.toList, o113⟩, none, none, none, some ⟨c117, 13, Go.Proofs.Try.f117.results.toList, o117⟩, some ⟨c118, 11, Go.Proofs.Try.f118.results.toList, o118⟩, some ⟨c119, 15, Go.Proofs.Try.f119.results.toList, o119⟩, none, none, none, none, none, some ⟨c125, 31, Go.Proofs.Try.f125.results.toList, o125⟩]
noncomputable def tps : List (Nat × List Nat) := [(81, [29, 4])]
noncomputable def E0 : Env := { ti := ti0, tp := fun t => ordOf tps t, fs := fun f => (fss[f]?).getD none, ext := fun _ => none, hm := fun f => [35, 76, 101, 102, 103, 123, 145, 146, 147, 148, 149].contains f }
noncomputable def PR (n : Nat) (β : Type) : Pr β := prims E0 (evalFn E0 n) β
theorem f49_eq (n : Nat) (a0 a1 : AV) (H : Heap) (k : AV → Heap → Option β) : evalFn E0 (n + 1) β 49 [a0, a1] H k = f49 (PR n β) n a0 a1 H k := f49_body (PR n β) n a0 a1 H k
theorem f117_eq (n : Nat) (a0 a1 : AV) (H : Heap) (k : AV → Heap → Option β) : evalFn E0 (n + 1) β 117 [a0, a1] H k = f117 (PR n β) n a0 a1 H k := f117_body (PR n β) n a0 a1 H k
theorem f89_eq (n : Nat) (a0 a1 : AV) (H : Heap) (k : AV → Heap → Option β) : evalFn E0 (n + 1) β 89 [a0, a1] H k = f89 (PR n β) n a0 a1 H k := f89_body (PR n β) n a0 a1 H k
theorem f90_eq (n : Nat) (a0 a1 : AV) (H : Heap) (k : AV → Heap → Option β) : evalFn E0 (n + 1) β 90 [a0, a1] H k = f90 (PR n β) n a0 a1 H k := f90_body (PR n β) n a0 a1 H k
theorem f68_eq (n : Nat) (a0 a1 : AV) (H : Heap) (k : AV → Heap → Option β) : evalFn E0 (n + 1) β 68 [a0, a1] H k = f68 (PR n β) n a0 a1 H k := f68_body (PR n β) n a0 a1 H k
theorem f58_eq (n : Nat) (a0 a1 : AV) (H : Heap) (k : AV → Heap → Option β) : evalFn E0 (n + 1) β 58 [a0, a1] H k = f58 (PR n β) n a0 a1 H k := f58_body (PR n β) n a0 a1 H k
theorem f91_eq (n : Nat) (a0 a1 : AV) (H : Heap) (k : AV → Heap → Option β) : evalFn E0 (n + 1) β 91 [a0, a1] H k = f91 (PR n β) n a0 a1 H k := f91_body (PR n β) n a0 a1 H k
theorem f59_eq (n : Nat) (a0 a1 : AV) (H : Heap) (k : AV → Heap → Option β) : evalFn E0 (n + 1) β 59 [a0, a1] H k = f59 (PR n β) n a0 a1 H k := f59_body (PR n β) n a0 a1 H k
theorem f48_eq (n : Nat) (a0 a1 : AV) (H : Heap) (k : AV → Heap → Option β) : evalFn E0 (n + 1) β 48 [a0, a1] H k = f48 (PR n β) n a0 a1 H k := f48_body (PR n β) n a0 a1 H k
theorem f60_eq (n : Nat) (a0 a1 : AV) (H : Heap) (k : AV → Heap → Option β) : evalFn E0 (n + 1) β 60 [a0, a1] H k = f60 (PR n β) n a0 a1 H k := f60_body (PR n β) n a0 a1 H k
theorem f26_eq (n : Nat) (a0 a1 : AV) (H : Heap) (k : AV → Heap → Option β) : evalFn E0 (n + 1) β 26 [a0, a1] H k = f26 (PR n β) n a0 a1 H k := f26_body (PR n β) n a0 a1 H k
theorem f53_eq (n : Nat) (a0 : AV) (H : Heap) (k : AV → Heap → Option β) : evalFn E0 (n + 1) β 53 [a0] H k = f53 (PR n β) n a0 H k := f53_body (PR n β) n a0 H k
theorem f118_eq (n : Nat) (a0 : AV) (H : Heap) (k : AV → Heap → Option β) : evalFn E0 (n + 1) β 118 [a0] H k = f118 (PR n β) n a0 H k := f118_body (PR n β) n a0 H k
theorem f92_eq (n : Nat) (a0 : AV) (H : Heap) (k : AV → Heap → Option β) : evalFn E0 (n + 1) β 92 [a0] H k = f92 (PR n β) n a0 H k := f92_body (PR n β) n a0 H k
theorem f93_eq (n : Nat) (a0 : AV) (H : Heap) (k : AV → Heap → Option β) : evalFn E0 (n + 1) β 93 [a0] H k = f93 (PR n β) n a0 H k := f93_body (PR n β) n a0 H k
theorem f69_eq (n : Nat) (a0 : AV) (H : Heap) (k : AV → Heap → Option β) : evalFn E0 (n + 1) β 69 [a0] H k = f69 (PR n β) n a0 H k := f69_body (PR n β) n a0 H k
theorem f62_eq (n : Nat) (a0 : AV) (H : Heap) (k : AV → Heap → Option β) : evalFn E0 (n + 1) β 62 [a0] H k = f62 (PR n β) n a0 H k := f62_body (PR n β) n a0 H k
theorem f94_eq (n : Nat) (a0 : AV) (H : Heap) (k : AV → Heap → Option β) : evalFn E0 (n + 1) β 94 [a0] H k = f94 (PR n β) n a0 H k := f94_body (PR n β) n a0 H k
theorem f63_eq (n : Nat) (a0 : AV) (H : Heap) (k : AV → Heap → Option β) : evalFn E0 (n + 1) β 63 [a0] H k = f63 (PR n β) n a0 H k := f63_body (PR n β) n a0 H k
theorem f52_eq (n : Nat) (a0 : AV) (H : Heap) (k : AV → Heap → Option β) : evalFn E0 (n + 1) β 52 [a0] H k = f52 (PR n β) n a0 H k := f52_body (PR n β) n a0 H k
theorem f64_eq (n : Nat) (a0 : AV) (H : Heap) (k : AV → Heap → Option β) : evalFn E0 (n + 1) β 64 [a0] H k = f64 (PR n β) n a0 H k := f64_body (PR n β) n a0 H k
theorem f28_eq (n : Nat) (a0 : AV) (H : Heap) (k : AV → Heap → Option β) : evalFn E0 (n + 1) β 28 [a0] H k = f28 (PR n β) n a0 H k := f28_body (PR n β) n a0 H k
theorem f107_eq (n : Nat) (a0 a1 : AV) (H : Heap) (k : AV → Heap → Option β) : evalFn E0 (n + 1) β 107 [a0, a1] H k = f107 (PR n β) n a0 a1 H k := f107_body (PR n β) n a0 a1 H k
theorem f78_eq (n : Nat) (a0 a1 : AV) (H : Heap) (k : AV → Heap → Option β) : evalFn E0 (n + 1) β 78 [a0, a1] H k = f78 (PR n β) n a0 a1 H k := f78_body (PR n β) n a0 a1 H k
theorem f79_eq (n : Nat) (a0 a1 : AV) (H : Heap) (k : AV → Heap → Option β) : evalFn E0 (n + 1) β 79 [a0, a1] H k = f79 (PR n β) n a0 a1 H k := f79_body (PR n β) n a0 a1 H k
theorem f80_eq (n : Nat) (a0 a1 : AV) (H : Heap) (k : AV → Heap → Option β) : evalFn E0 (n + 1) β 80 [a0, a1] H k = f80 (PR n β) n a0 a1 H k := f80_body (PR n β) n a0 a1 H k
theorem f125_eq (n : Nat) (a0 a1 : AV) (H : Heap) (k : AV → Heap → Option β) : evalFn E0 (n + 1) β 125 [a0, a1] H k = f125 (PR n β) n a0 a1 H k := f125_body (PR n β) n a0 a1 H k
theorem f108_eq (n : Nat) (a0 a1 : AV) (H : Heap) (k : AV → Heap → Option β) : evalFn E0 (n + 1) β 108 [a0, a1] H k = f108 (PR n β) n a0 a1 H k := f108_body (PR n β) n a0 a1 H k
theorem f81_eq (n : Nat) (a0 a1 : AV) (H : Heap) (k : AV → Heap → Option β) : evalFn E0 (n + 1) β 81 [a0, a1] H k = f81 (PR n β) n a0 a1 H k := f81_body (PR n β) n a0 a1 H k
theorem f39_eq (n : Nat) (a0 a1 : AV) (H : Heap) (k : AV → Heap → Option β) : evalFn E0 (n + 1) β 39 [a0, a1] H k = f39 (PR n β) n a0 a1 H k := f39_body (PR n β) n a0 a1 H k
theorem f109_eq (n : Nat) (a0 a1 : AV) (H : Heap) (k : AV → Heap → Option β) : evalFn E0 (n + 1) β 109 [a0, a1] H k = f109 (PR n β) n a0 a1 H k := f109_body (PR n β) n a0 a1 H k
theorem f110_eq (n : Nat) (a0 a1 : AV) (H : Heap) (k : AV → Heap → Option β) : evalFn E0 (n + 1) β 110 [a0, a1] H k = f110 (PR n β) n a0 a1 H k := f110_body (PR n β) n a0 a1 H k
theorem f111_eq (n : Nat) (a0 a1 : AV) (H : Heap) (k : AV → Heap → Option β) : evalFn E0 (n + 1) β 111 [a0, a1] H k = f111 (PR n β) n a0 a1 H k := f111_body (PR n β) n a0 a1 H k
theorem f84_eq (n : Nat) (a0 a1 : AV) (H : Heap) (k : AV → Heap → Option β) : evalFn E0 (n + 1) β 84 [a0, a1] H k = f84 (PR n β) n a0 a1 H k := f84_body (PR n β) n a0 a1 H k
theorem f82_eq (n : Nat) (a0 a1 : AV) (H : Heap) (k : AV → Heap → Option β) : evalFn E0 (n + 1) β 82 [a0, a1] H k = f82 (PR n β) n a0 a1 H k := f82_body (PR n β) n a0 a1 H k
theorem f83_eq (n : Nat) (a0 a1 : AV) (H : Heap) (k : AV → Heap → Option β) : evalFn E0 (n + 1) β 83 [a0, a1] H k = f83 (PR n β) n a0 a1 H k := f83_body (PR n β) n a0 a1 H k
theorem f112_eq (n : Nat) (a0 a1 a2 : AV) (H : Heap) (k : AV → Heap → Option β) : evalFn E0 (n + 1) β 112 [a0, a1, a2] H k = f112 (PR n β) n a0 a1 a2 H k := f112_body (PR n β) n a0 a1 a2 H k
theorem f113_eq (n : Nat) (a0 a1 : AV) (H : Heap) (k : AV → Heap → Option β) : evalFn E0 (n + 1) β 113 [a0, a1] H k = f113 (PR n β) n a0 a1 H k := f113_body (PR n β) n a0 a1 H k
theorem f85_eq (n : Nat) (a0 a1 : AV) (H : Heap) (k : AV → Heap → Option β) : evalFn E0 (n + 1) β 85 [a0, a1] H k = f85 (PR n β) n a0 a1 H k := f85_body (PR n β) n a0 a1 H k
theorem f40_eq (n : Nat) (a0 a1 : AV) (H : Heap) (k : AV → Heap → Option β) : evalFn E0 (n + 1) β 40 [a0, a1] H k = f40 (PR n β) n a0 a1 H k := f40_body (PR n β) n a0 a1 H k
theorem f57_eq (n : Nat) (a0 a1 : AV) (H : Heap) (k : AV → Heap → Option β) : evalFn E0 (n + 1) β 57 [a0, a1] H k = f57 (PR n β) n a0 a1 H k := f57_body (PR n β) n a0 a1 H k
theorem f119_eq (n : Nat) (a0 a1 : AV) (H : Heap) (k : AV → Heap → Option β) : evalFn E0 (n + 1) β 119 [a0, a1] H k = f119 (PR n β) n a0 a1 H k := f119_body (PR n β) n a0 a1 H k
theorem f95_eq (n : Nat) (a0 a1 : AV) (H : Heap) (k : AV → Heap → Option β) : evalFn E0 (n + 1) β 95 [a0, a1] H k = f95 (PR n β) n a0 a1 H k := f95_body (PR n β) n a0 a1 H k
theorem f96_eq (n : Nat) (a0 a1 : AV) (H : Heap) (k : AV → Heap → Option β) : evalFn E0 (n + 1) β 96 [a0, a1] H k = f96 (PR n β) n a0 a1 H k := f96_body (PR n β) n a0 a1 H k
theorem f70_eq (n : Nat) (a0 a1 : AV) (H : Heap) (k : AV → Heap → Option β) : evalFn E0 (n + 1) β 70 [a0, a1] H k = f70 (PR n β) n a0 a1 H k := f70_body (PR n β) n a0 a1 H k
theorem f65_eq (n : Nat) (a0 a1 : AV) (H : Heap) (k : AV → Heap → Option β) : evalFn E0 (n + 1) β 65 [a0, a1] H k = f65 (PR n β) n a0 a1 H k := f65_body (PR n β) n a0 a1 H k
theorem f97_eq (n : Nat) (a0 a1 : AV) (H : Heap) (k : AV → Heap → Option β) : evalFn E0 (n + 1) β 97 [a0, a1] H k = f97 (PR n β) n a0 a1 H k := f97_body (PR n β) n a0 a1 H k
theorem f66_eq (n : Nat) (a0 a1 : AV) (H : Heap) (k : AV → Heap → Option β) : evalFn E0 (n + 1) β 66 [a0, a1] H k = f66 (PR n β) n a0 a1 H k := f66_body (PR n β) n a0 a1 H k
theorem f56_eq (n : Nat) (a0 a1 : AV) (H : Heap) (k : AV → Heap → Option β) : evalFn E0 (n + 1) β 56 [a0, a1] H k = f56 (PR n β) n a0 a1 H k := f56_body (PR n β) n a0 a1 H k
theorem f67_eq (n : Nat) (a0 a1 : AV) (H : Heap) (k : AV → Heap → Option β) : evalFn E0 (n + 1) β 67 [a0, a1] H k = f67 (PR n β) n a0 a1 H k := f67_body (PR n β) n a0 a1 H k
theorem f30_eq (n : Nat) (a0 a1 : AV) (H : Heap) (k : AV → Heap → Option β) : evalFn E0 (n + 1) β 30 [a0, a1] H k = f30 (PR n β) n a0 a1 H k := f30_body (PR n β) n a0 a1 H k
theorem f10_eq (n : Nat) (a0 a1 : AV) (H : Heap) (k : AV → Heap → Option β) : evalFn E0 (n + 1) β 10 [a0, a1] H k = f10 (PR n β) n a0 a1 H k := f10_body (PR n β) n a0 a1 H k
end Go.Proofs.Ytnkelipioodhjaa.Abs
