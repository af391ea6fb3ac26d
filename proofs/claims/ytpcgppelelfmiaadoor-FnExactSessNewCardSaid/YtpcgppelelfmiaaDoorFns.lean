/- The program's functions as plain functions over abstract values, part 2 (written by gen.py). -/
import Derived.Test.YtpcgppelelfmiaaDoorFnsA
set_option linter.unusedVariables false
set_option linter.unusedSimpArgs false
set_option maxRecDepth 100000
namespace Go.Proofs.YtpcgppelelfmiaaDoor.Abs
open Go
variable {β : Type}

/-! 90 loop.example/g00480/laws.markFlightS -/
noncomputable def f90_l0 (p : Pr β) (n : Nat)  (k : AV → Heap → Option β) : Nat → AV → AV → AV → Heap → Option β
  | 0, _, _, _, _ => none
  | m + 1, t0, t1, t5, H => p.len t0 fun t8 =>
      p.bin .lss t5 t8 fun t9 =>
      p.cond t9
      (p.iadr 6 t0 t5 fun t15 =>
      p.fadr 0 t15 fun t16 =>
      p.store 1 t16 t1 H fun H =>
      p.bin .add t1 (.sc (.int .i64 1)) fun t18 =>
      p.call 9 (.fn 85 [] []) [t18] H fun t22 H =>
      p.iadr 6 t0 t5 fun t23 =>
      p.fadr 1 t23 fun t24 =>
      p.fadr 0 t24 fun t25 =>
      p.store 1 t25 t22 H fun H =>
      p.bin .add t18 (.sc (.int .i64 1)) fun t27 =>
      p.iadr 6 t0 t5 fun t30 =>
      p.fadr 1 t30 fun t31 =>
      p.fadr 1 t31 fun t32 =>
      p.load false 1 t32 H fun t33 =>
      p.call 3 (.fn 86 [] []) [t33, t27] H fun t35 H =>
      p.iadr 6 t0 t5 fun t39 =>
      p.fadr 1 t39 fun t40 =>
      p.fadr 2 t40 fun t41 =>
      p.store 1 t41 t35 H fun H =>
      p.bin .add t35 (.sc (.int .i64 1)) fun t43 =>
      p.bin .rem t43 (.sc (.int .i64 3)) fun t47 =>
      p.bin .eql t47 (.sc (.int .i64 0)) fun t48 =>
      p.iadr 6 t0 t5 fun t49 =>
      p.fadr 1 t49 fun t50 =>
      p.fadr 3 t50 fun t51 =>
      p.store 1 t51 t48 H fun H =>
      p.bin .add t43 (.sc (.int .i64 1)) fun t53 =>
      p.iadr 6 t0 t5 fun t57 =>
      p.fadr 5 t57 fun t58 =>
      p.store 1 t58 t53 H fun H =>
      p.bin .add t53 (.sc (.int .i64 1)) fun t60 =>
      p.bin .add t5 (.sc (.int .i64 1)) fun t11 =>
      f90_l0 p n  k m t0 t60 t11 H)
      (k t1 H)
noncomputable def f90 (p : Pr β) (n : Nat) (a0 a1 : AV) (H : Heap) (k : AV → Heap → Option β) : Option β :=
  f90_l0 p n  k n a0 a1 (.sc (.int .i64 0)) H
noncomputable def f90_L0 (p : Pr β) (n : Nat)  (k : AV → Heap → Option β) (m : Nat) (tm : Tm) (H : Heap) : Option β :=
  iterC 62 (fun tm H k => evalCode ti0 p o90 62 n (cd c90 [1, 0, 1, 0, 0]) tm H k) (blkK 0 (seqK (fun tm H => evalCode ti0 p o90 62 n (cd c90 [1, 1]) tm H (endK ti0 p Go.Proofs.Tryd.f90.results.toList k)) (endK ti0 p Go.Proofs.Tryd.f90.results.toList k))) m tm H
theorem f90_L0_step (p : Pr β) (n : Nat)  (k : AV → Heap → Option β) (m0 : Nat) (t0 t1 t2 t3 t4 t5 t6 t7 t8 t9 t10 t11 t12 t13 t14 t15 t16 t17 t18 t19 t20 t21 t22 t23 t24 t25 t26 t27 t28 t29 t30 t31 t32 t33 t34 t35 t36 t37 t38 t39 t40 t41 t42 t43 t44 t45 t46 t47 t48 t49 t50 t51 t52 t53 t54 t55 t56 t57 t58 t59 t60 t61 : AV) (H : Heap) : f90_L0 p n  k (m0 + 1) [(0, t0), (1, t1), (2, t2), (3, t3), (4, t4), (5, t5), (6, t6), (7, t7), (8, t8), (9, t9), (10, t10), (11, t11), (12, t12), (13, t13), (14, t14), (15, t15), (16, t16), (17, t17), (18, t18), (19, t19), (20, t20), (21, t21), (22, t22), (23, t23), (24, t24), (25, t25), (26, t26), (27, t27), (28, t28), (29, t29), (30, t30), (31, t31), (32, t32), (33, t33), (34, t34), (35, t35), (36, t36), (37, t37), (38, t38), (39, t39), (40, t40), (41, t41), (42, t42), (43, t43), (44, t44), (45, t45), (46, t46), (47, t47), (48, t48), (49, t49), (50, t50), (51, t51), (52, t52), (53, t53), (54, t54), (55, t55), (56, t56), (57, t57), (58, t58), (59, t59), (60, t60), (61, t61)] H =
  p.len t0 fun t8 =>
  p.bin .lss t5 t8 fun t9 =>
  p.cond t9
  (p.iadr 6 t0 t5 fun t15 =>
  p.fadr 0 t15 fun t16 =>
  p.store 1 t16 t1 H fun H =>
  p.bin .add t1 (.sc (.int .i64 1)) fun t18 =>
  p.call 9 (.fn 85 [] []) [t18] H fun t22 H =>
  p.iadr 6 t0 t5 fun t23 =>
  p.fadr 1 t23 fun t24 =>
  p.fadr 0 t24 fun t25 =>
  p.store 1 t25 t22 H fun H =>
  p.bin .add t18 (.sc (.int .i64 1)) fun t27 =>
  p.iadr 6 t0 t5 fun t30 =>
  p.fadr 1 t30 fun t31 =>
  p.fadr 1 t31 fun t32 =>
  p.load false 1 t32 H fun t33 =>
  p.call 3 (.fn 86 [] []) [t33, t27] H fun t35 H =>
  p.iadr 6 t0 t5 fun t39 =>
  p.fadr 1 t39 fun t40 =>
  p.fadr 2 t40 fun t41 =>
  p.store 1 t41 t35 H fun H =>
  p.bin .add t35 (.sc (.int .i64 1)) fun t43 =>
  p.bin .rem t43 (.sc (.int .i64 3)) fun t47 =>
  p.bin .eql t47 (.sc (.int .i64 0)) fun t48 =>
  p.iadr 6 t0 t5 fun t49 =>
  p.fadr 1 t49 fun t50 =>
  p.fadr 3 t50 fun t51 =>
  p.store 1 t51 t48 H fun H =>
  p.bin .add t43 (.sc (.int .i64 1)) fun t53 =>
  p.iadr 6 t0 t5 fun t57 =>
  p.fadr 5 t57 fun t58 =>
  p.store 1 t58 t53 H fun H =>
  p.bin .add t53 (.sc (.int .i64 1)) fun t60 =>
  p.bin .add t5 (.sc (.int .i64 1)) fun t11 =>
  f90_L0 p n  k m0 [(0, t0), (1, t60), (2, t2), (3, t3), (4, t4), (5, t11), (6, t5), (7, t0), (8, t8), (9, t9), (10, t5), (11, t11), (12, t0), (13, t5), (14, t1), (15, t15), (16, t16), (17, t1), (18, t18), (19, t0), (20, t5), (21, t18), (22, t22), (23, t23), (24, t24), (25, t25), (26, t18), (27, t27), (28, t0), (29, t5), (30, t30), (31, t31), (32, t32), (33, t33), (34, t27), (35, t35), (36, t0), (37, t5), (38, t35), (39, t39), (40, t40), (41, t41), (42, t35), (43, t43), (44, t0), (45, t5), (46, t43), (47, t47), (48, t48), (49, t49), (50, t50), (51, t51), (52, t43), (53, t53), (54, t0), (55, t5), (56, t53), (57, t57), (58, t58), (59, t53), (60, t60), (61, t61)] H)
  (k t1 H) := by kernel_rfl
theorem f90_l0_eq (p : Pr β) (n : Nat)  (k : AV → Heap → Option β)   (m0 : Nat) : ∀ (t0 t1 t2 t3 t4 t5 t6 t7 t8 t9 t10 t11 t12 t13 t14 t15 t16 t17 t18 t19 t20 t21 t22 t23 t24 t25 t26 t27 t28 t29 t30 t31 t32 t33 t34 t35 t36 t37 t38 t39 t40 t41 t42 t43 t44 t45 t46 t47 t48 t49 t50 t51 t52 t53 t54 t55 t56 t57 t58 t59 t60 t61 : AV) (H : Heap), f90_L0 p n  k m0 [(0, t0), (1, t1), (2, t2), (3, t3), (4, t4), (5, t5), (6, t6), (7, t7), (8, t8), (9, t9), (10, t10), (11, t11), (12, t12), (13, t13), (14, t14), (15, t15), (16, t16), (17, t17), (18, t18), (19, t19), (20, t20), (21, t21), (22, t22), (23, t23), (24, t24), (25, t25), (26, t26), (27, t27), (28, t28), (29, t29), (30, t30), (31, t31), (32, t32), (33, t33), (34, t34), (35, t35), (36, t36), (37, t37), (38, t38), (39, t39), (40, t40), (41, t41), (42, t42), (43, t43), (44, t44), (45, t45), (46, t46), (47, t47), (48, t48), (49, t49), (50, t50), (51, t51), (52, t52), (53, t53), (54, t54), (55, t55), (56, t56), (57, t57), (58, t58), (59, t59), (60, t60), (61, t61)] H = f90_l0 p n  k m0 t0 t1 t5 H := by
  induction m0 with
  | zero => intros; rfl
  | succ m0 ih =>
    intro t0 t1 t2 t3 t4 t5 t6 t7 t8 t9 t10 t11 t12 t13 t14 t15 t16 t17 t18 t19 t20 t21 t22 t23 t24 t25 t26 t27 t28 t29 t30 t31 t32 t33 t34 t35 t36 t37 t38 t39 t40 t41 t42 t43 t44 t45 t46 t47 t48 t49 t50 t51 t52 t53 t54 t55 t56 t57 t58 t59 t60 t61 H
    rw [f90_L0_step]
    simp only [ih]
    rfl
theorem f90_raw (p : Pr β) (n : Nat) (a0 a1 : AV) (H : Heap) (k : AV → Heap → Option β) : evalBody ti0 p n ⟨c90, 62, Go.Proofs.Tryd.f90.results.toList, o90⟩ [a0, a1] H k =
  f90_L0 p n  k n [(0, a0), (1, a1), (2, (.sc undef)), (3, (.sc undef)), (4, (.sc (.int .i64 0))), (5, (.sc (.int .i64 0))), (6, (.sc undef)), (7, (.sc undef)), (8, (.sc undef)), (9, (.sc undef)), (10, (.sc undef)), (11, (.sc undef)), (12, (.sc undef)), (13, (.sc undef)), (14, (.sc undef)), (15, (.sc undef)), (16, (.sc undef)), (17, (.sc undef)), (18, (.sc undef)), (19, (.sc undef)), (20, (.sc undef)), (21, (.sc undef)), (22, (.sc undef)), (23, (.sc undef)), (24, (.sc undef)), (25, (.sc undef)), (26, (.sc undef)), (27, (.sc undef)), (28, (.sc undef)), (29, (.sc undef)), (30, (.sc undef)), (31, (.sc undef)), (32, (.sc undef)), (33, (.sc undef)), (34, (.sc undef)), (35, (.sc undef)), (36, (.sc undef)), (37, (.sc undef)), (38, (.sc undef)), (39, (.sc undef)), (40, (.sc undef)), (41, (.sc undef)), (42, (.sc undef)), (43, (.sc undef)), (44, (.sc undef)), (45, (.sc undef)), (46, (.sc undef)), (47, (.sc undef)), (48, (.sc undef)), (49, (.sc undef)), (50, (.sc undef)), (51, (.sc undef)), (52, (.sc undef)), (53, (.sc undef)), (54, (.sc undef)), (55, (.sc undef)), (56, (.sc undef)), (57, (.sc undef)), (58, (.sc undef)), (59, (.sc undef)), (60, (.sc undef)), (61, (.sc undef))] H := by kernel_rfl
theorem f90_body (p : Pr β) (n : Nat) (a0 a1 : AV) (H : Heap) (k : AV → Heap → Option β) : evalBody ti0 p n ⟨c90, 62, Go.Proofs.Tryd.f90.results.toList, o90⟩ [a0, a1] H k = f90 p n a0 a1 H k := by
  rw [f90_raw]
  simp only [f90_l0_eq]
  rfl

/-! 46 loop.example/g00480/laws.markOut -/
noncomputable def f46 (p : Pr β) (n : Nat) (a0 a1 : AV) (H : Heap) (k : AV → Heap → Option β) : Option β :=
  p.box a0 H fun t2 H =>
  p.fadr 1 t2 fun t5 =>
  p.load false 1 t5 H fun t6 =>
  p.call 3 (.fn 90 [] []) [t6, a1] H fun t8 H =>
  p.fadr 2 t2 fun t9 =>
  p.load false 1 t9 H fun t10 =>
  p.call 3 (.fn 41 [] []) [t10, t8] H fun t12 H =>
  k t12 H
theorem f46_body (p : Pr β) (n : Nat) (a0 a1 : AV) (H : Heap) (k : AV → Heap → Option β) : evalBody ti0 p n ⟨c46, 14, Go.Proofs.Tryd.f46.results.toList, o46⟩ [a0, a1] H k = f46 p n a0 a1 H k := by kernel_rfl

/-! 91 loop.example/g00480/laws.heldFlightS -/
noncomputable def f91_l0 (p : Pr β) (n : Nat)  (k : AV → Heap → Option β) : Nat → AV → AV → AV → Heap → Option β
  | 0, _, _, _, _ => none
  | m + 1, t0, t1, t5, H => p.len t0 fun t8 =>
      p.bin .lss t5 t8 fun t9 =>
      p.cond t9
      (p.iadr 6 t0 t5 fun t14 =>
      p.fadr 0 t14 fun t15 =>
      p.load false 1 t15 H fun t16 =>
      p.bin .neq t16 t1 fun t18 =>
      p.cond t18
      (k (.sc (.int .i64 (-1))) H)
      (p.bin .add t1 (.sc (.int .i64 1)) fun t20 =>
      p.iadr 6 t0 t5 fun t23 =>
      p.fadr 1 t23 fun t24 =>
      p.fadr 0 t24 fun t25 =>
      p.load false 1 t25 H fun t26 =>
      p.call 9 (.fn 85 [] []) [t20] H fun t28 H =>
      p.bin .neq t26 t28 fun t29 =>
      p.cond t29
      (k (.sc (.int .i64 (-1))) H)
      (p.bin .add t20 (.sc (.int .i64 1)) fun t31 =>
      p.iadr 6 t0 t5 fun t34 =>
      p.fadr 1 t34 fun t35 =>
      p.fadr 1 t35 fun t36 =>
      p.load false 1 t36 H fun t37 =>
      p.call 3 (.fn 87 [] []) [t37, t31] H fun t39 H =>
      p.bin .lss t39 (.sc (.int .i64 0)) fun t41 =>
      p.cond t41
      (k (.sc (.int .i64 (-1))) H)
      (p.iadr 6 t0 t5 fun t44 =>
      p.fadr 1 t44 fun t45 =>
      p.fadr 2 t45 fun t46 =>
      p.load false 1 t46 H fun t47 =>
      p.bin .neq t47 t39 fun t49 =>
      p.cond t49
      (k (.sc (.int .i64 (-1))) H)
      (p.bin .add t39 (.sc (.int .i64 1)) fun t51 =>
      p.iadr 6 t0 t5 fun t54 =>
      p.fadr 1 t54 fun t55 =>
      p.fadr 3 t55 fun t56 =>
      p.load false 1 t56 H fun t57 =>
      p.bin .rem t51 (.sc (.int .i64 3)) fun t59 =>
      p.bin .eql t59 (.sc (.int .i64 0)) fun t60 =>
      p.binB .neq t57 t60 fun t61 =>
      p.cond t61
      (k (.sc (.int .i64 (-1))) H)
      (p.bin .add t51 (.sc (.int .i64 1)) fun t63 =>
      p.iadr 6 t0 t5 fun t66 =>
      p.fadr 5 t66 fun t67 =>
      p.load false 1 t67 H fun t68 =>
      p.bin .neq t68 t63 fun t70 =>
      p.cond t70
      (k (.sc (.int .i64 (-1))) H)
      (p.bin .add t63 (.sc (.int .i64 1)) fun t72 =>
      p.bin .add t5 (.sc (.int .i64 1)) fun t11 =>
      f91_l0 p n  k m t0 t72 t11 H)))))))
      (k t1 H)
noncomputable def f91 (p : Pr β) (n : Nat) (a0 a1 : AV) (H : Heap) (k : AV → Heap → Option β) : Option β :=
  f91_l0 p n  k n a0 a1 (.sc (.int .i64 0)) H
noncomputable def f91_L0 (p : Pr β) (n : Nat)  (k : AV → Heap → Option β) (m : Nat) (tm : Tm) (H : Heap) : Option β :=
  iterC 74 (fun tm H k => evalCode ti0 p o91 74 n (cd c91 [1, 0, 1, 0, 0]) tm H k) (blkK 0 (seqK (fun tm H => evalCode ti0 p o91 74 n (cd c91 [1, 1]) tm H (endK ti0 p Go.Proofs.Tryd.f91.results.toList k)) (endK ti0 p Go.Proofs.Tryd.f91.results.toList k))) m tm H
theorem f91_L0_step (p : Pr β) (n : Nat)  (k : AV → Heap → Option β) (m0 : Nat) (t0 t1 t2 t3 t4 t5 t6 t7 t8 t9 t10 t11 t12 t13 t14 t15 t16 t17 t18 t19 t20 t21 t22 t23 t24 t25 t26 t27 t28 t29 t30 t31 t32 t33 t34 t35 t36 t37 t38 t39 t40 t41 t42 t43 t44 t45 t46 t47 t48 t49 t50 t51 t52 t53 t54 t55 t56 t57 t58 t59 t60 t61 t62 t63 t64 t65 t66 t67 t68 t69 t70 t71 t72 t73 : AV) (H : Heap) : f91_L0 p n  k (m0 + 1) [(0, t0), (1, t1), (2, t2), (3, t3), (4, t4), (5, t5), (6, t6), (7, t7), (8, t8), (9, t9), (10, t10), (11, t11), (12, t12), (13, t13), (14, t14), (15, t15), (16, t16), (17, t17), (18, t18), (19, t19), (20, t20), (21, t21), (22, t22), (23, t23), (24, t24), (25, t25), (26, t26), (27, t27), (28, t28), (29, t29), (30, t30), (31, t31), (32, t32), (33, t33), (34, t34), (35, t35), (36, t36), (37, t37), (38, t38), (39, t39), (40, t40), (41, t41), (42, t42), (43, t43), (44, t44), (45, t45), (46, t46), (47, t47), (48, t48), (49, t49), (50, t50), (51, t51), (52, t52), (53, t53), (54, t54), (55, t55), (56, t56), (57, t57), (58, t58), (59, t59), (60, t60), (61, t61), (62, t62), (63, t63), (64, t64), (65, t65), (66, t66), (67, t67), (68, t68), (69, t69), (70, t70), (71, t71), (72, t72), (73, t73)] H =
  p.len t0 fun t8 =>
  p.bin .lss t5 t8 fun t9 =>
  p.cond t9
  (p.iadr 6 t0 t5 fun t14 =>
  p.fadr 0 t14 fun t15 =>
  p.load false 1 t15 H fun t16 =>
  p.bin .neq t16 t1 fun t18 =>
  p.cond t18
  (k (.sc (.int .i64 (-1))) H)
  (p.bin .add t1 (.sc (.int .i64 1)) fun t20 =>
  p.iadr 6 t0 t5 fun t23 =>
  p.fadr 1 t23 fun t24 =>
  p.fadr 0 t24 fun t25 =>
  p.load false 1 t25 H fun t26 =>
  p.call 9 (.fn 85 [] []) [t20] H fun t28 H =>
  p.bin .neq t26 t28 fun t29 =>
  p.cond t29
  (k (.sc (.int .i64 (-1))) H)
  (p.bin .add t20 (.sc (.int .i64 1)) fun t31 =>
  p.iadr 6 t0 t5 fun t34 =>
  p.fadr 1 t34 fun t35 =>
  p.fadr 1 t35 fun t36 =>
  p.load false 1 t36 H fun t37 =>
  p.call 3 (.fn 87 [] []) [t37, t31] H fun t39 H =>
  p.bin .lss t39 (.sc (.int .i64 0)) fun t41 =>
  p.cond t41
  (k (.sc (.int .i64 (-1))) H)
  (p.iadr 6 t0 t5 fun t44 =>
  p.fadr 1 t44 fun t45 =>
  p.fadr 2 t45 fun t46 =>
  p.load false 1 t46 H fun t47 =>
  p.bin .neq t47 t39 fun t49 =>
  p.cond t49
  (k (.sc (.int .i64 (-1))) H)
  (p.bin .add t39 (.sc (.int .i64 1)) fun t51 =>
  p.iadr 6 t0 t5 fun t54 =>
  p.fadr 1 t54 fun t55 =>
  p.fadr 3 t55 fun t56 =>
  p.load false 1 t56 H fun t57 =>
  p.bin .rem t51 (.sc (.int .i64 3)) fun t59 =>
  p.bin .eql t59 (.sc (.int .i64 0)) fun t60 =>
  p.binB .neq t57 t60 fun t61 =>
  p.cond t61
  (k (.sc (.int .i64 (-1))) H)
  (p.bin .add t51 (.sc (.int .i64 1)) fun t63 =>
  p.iadr 6 t0 t5 fun t66 =>
  p.fadr 5 t66 fun t67 =>
  p.load false 1 t67 H fun t68 =>
  p.bin .neq t68 t63 fun t70 =>
  p.cond t70
  (k (.sc (.int .i64 (-1))) H)
  (p.bin .add t63 (.sc (.int .i64 1)) fun t72 =>
  p.bin .add t5 (.sc (.int .i64 1)) fun t11 =>
  f91_L0 p n  k m0 [(0, t0), (1, t72), (2, t2), (3, t3), (4, t4), (5, t11), (6, t5), (7, t0), (8, t8), (9, t9), (10, t5), (11, t11), (12, t0), (13, t5), (14, t14), (15, t15), (16, t16), (17, t1), (18, t18), (19, t1), (20, t20), (21, t0), (22, t5), (23, t23), (24, t24), (25, t25), (26, t26), (27, t20), (28, t28), (29, t29), (30, t20), (31, t31), (32, t0), (33, t5), (34, t34), (35, t35), (36, t36), (37, t37), (38, t31), (39, t39), (40, t39), (41, t41), (42, t0), (43, t5), (44, t44), (45, t45), (46, t46), (47, t47), (48, t39), (49, t49), (50, t39), (51, t51), (52, t0), (53, t5), (54, t54), (55, t55), (56, t56), (57, t57), (58, t51), (59, t59), (60, t60), (61, t61), (62, t51), (63, t63), (64, t0), (65, t5), (66, t66), (67, t67), (68, t68), (69, t63), (70, t70), (71, t63), (72, t72), (73, t73)] H)))))))
  (k t1 H) := by kernel_rfl
theorem f91_l0_eq (p : Pr β) (n : Nat)  (k : AV → Heap → Option β)   (m0 : Nat) : ∀ (t0 t1 t2 t3 t4 t5 t6 t7 t8 t9 t10 t11 t12 t13 t14 t15 t16 t17 t18 t19 t20 t21 t22 t23 t24 t25 t26 t27 t28 t29 t30 t31 t32 t33 t34 t35 t36 t37 t38 t39 t40 t41 t42 t43 t44 t45 t46 t47 t48 t49 t50 t51 t52 t53 t54 t55 t56 t57 t58 t59 t60 t61 t62 t63 t64 t65 t66 t67 t68 t69 t70 t71 t72 t73 : AV) (H : Heap), f91_L0 p n  k m0 [(0, t0), (1, t1), (2, t2), (3, t3), (4, t4), (5, t5), (6, t6), (7, t7), (8, t8), (9, t9), (10, t10), (11, t11), (12, t12), (13, t13), (14, t14), (15, t15), (16, t16), (17, t17), (18, t18), (19, t19), (20, t20), (21, t21), (22, t22), (23, t23), (24, t24), (25, t25), (26, t26), (27, t27), (28, t28), (29, t29), (30, t30), (31, t31), (32, t32), (33, t33), (34, t34), (35, t35), (36, t36), (37, t37), (38, t38), (39, t39), (40, t40), (41, t41), (42, t42), (43, t43), (44, t44), (45, t45), (46, t46), (47, t47), (48, t48), (49, t49), (50, t50), (51, t51), (52, t52), (53, t53), (54, t54), (55, t55), (56, t56), (57, t57), (58, t58), (59, t59), (60, t60), (61, t61), (62, t62), (63, t63), (64, t64), (65, t65), (66, t66), (67, t67), (68, t68), (69, t69), (70, t70), (71, t71), (72, t72), (73, t73)] H = f91_l0 p n  k m0 t0 t1 t5 H := by
  induction m0 with
  | zero => intros; rfl
  | succ m0 ih =>
    intro t0 t1 t2 t3 t4 t5 t6 t7 t8 t9 t10 t11 t12 t13 t14 t15 t16 t17 t18 t19 t20 t21 t22 t23 t24 t25 t26 t27 t28 t29 t30 t31 t32 t33 t34 t35 t36 t37 t38 t39 t40 t41 t42 t43 t44 t45 t46 t47 t48 t49 t50 t51 t52 t53 t54 t55 t56 t57 t58 t59 t60 t61 t62 t63 t64 t65 t66 t67 t68 t69 t70 t71 t72 t73 H
    rw [f91_L0_step]
    simp only [ih]
    rfl
theorem f91_raw (p : Pr β) (n : Nat) (a0 a1 : AV) (H : Heap) (k : AV → Heap → Option β) : evalBody ti0 p n ⟨c91, 74, Go.Proofs.Tryd.f91.results.toList, o91⟩ [a0, a1] H k =
  f91_L0 p n  k n [(0, a0), (1, a1), (2, (.sc undef)), (3, (.sc undef)), (4, (.sc (.int .i64 0))), (5, (.sc (.int .i64 0))), (6, (.sc undef)), (7, (.sc undef)), (8, (.sc undef)), (9, (.sc undef)), (10, (.sc undef)), (11, (.sc undef)), (12, (.sc undef)), (13, (.sc undef)), (14, (.sc undef)), (15, (.sc undef)), (16, (.sc undef)), (17, (.sc undef)), (18, (.sc undef)), (19, (.sc undef)), (20, (.sc undef)), (21, (.sc undef)), (22, (.sc undef)), (23, (.sc undef)), (24, (.sc undef)), (25, (.sc undef)), (26, (.sc undef)), (27, (.sc undef)), (28, (.sc undef)), (29, (.sc undef)), (30, (.sc undef)), (31, (.sc undef)), (32, (.sc undef)), (33, (.sc undef)), (34, (.sc undef)), (35, (.sc undef)), (36, (.sc undef)), (37, (.sc undef)), (38, (.sc undef)), (39, (.sc undef)), (40, (.sc undef)), (41, (.sc undef)), (42, (.sc undef)), (43, (.sc undef)), (44, (.sc undef)), (45, (.sc undef)), (46, (.sc undef)), (47, (.sc undef)), (48, (.sc undef)), (49, (.sc undef)), (50, (.sc undef)), (51, (.sc undef)), (52, (.sc undef)), (53, (.sc undef)), (54, (.sc undef)), (55, (.sc undef)), (56, (.sc undef)), (57, (.sc undef)), (58, (.sc undef)), (59, (.sc undef)), (60, (.sc undef)), (61, (.sc undef)), (62, (.sc undef)), (63, (.sc undef)), (64, (.sc undef)), (65, (.sc undef)), (66, (.sc undef)), (67, (.sc undef)), (68, (.sc undef)), (69, (.sc undef)), (70, (.sc undef)), (71, (.sc undef)), (72, (.sc undef)), (73, (.sc undef))] H := by kernel_rfl
theorem f91_body (p : Pr β) (n : Nat) (a0 a1 : AV) (H : Heap) (k : AV → Heap → Option β) : evalBody ti0 p n ⟨c91, 74, Go.Proofs.Tryd.f91.results.toList, o91⟩ [a0, a1] H k = f91 p n a0 a1 H k := by
  rw [f91_raw]
  simp only [f91_l0_eq]
  rfl

/-! 47 loop.example/g00480/laws.heldOut -/
noncomputable def f47 (p : Pr β) (n : Nat) (a0 a1 : AV) (H : Heap) (k : AV → Heap → Option β) : Option β :=
  p.box a0 H fun t2 H =>
  p.fadr 1 t2 fun t5 =>
  p.load false 1 t5 H fun t6 =>
  p.call 3 (.fn 91 [] []) [t6, a1] H fun t8 H =>
  p.bin .lss t8 (.sc (.int .i64 0)) fun t10 =>
  p.cond t10
  (k (.sc (.int .i64 (-1))) H)
  (p.fadr 2 t2 fun t11 =>
  p.load false 1 t11 H fun t12 =>
  p.call 3 (.fn 43 [] []) [t12, t8] H fun t14 H =>
  p.bin .lss t14 (.sc (.int .i64 0)) fun t16 =>
  p.cond t16
  (k (.sc (.int .i64 (-1))) H)
  (k t14 H))
theorem f47_body (p : Pr β) (n : Nat) (a0 a1 : AV) (H : Heap) (k : AV → Heap → Option β) : evalBody ti0 p n ⟨c47, 18, Go.Proofs.Tryd.f47.results.toList, o47⟩ [a0, a1] H k = f47 p n a0 a1 H k := by kernel_rfl

/-! 10 loop.example/g00480/laws.FnExactOutPush -/
noncomputable def f10 (p : Pr β) (n : Nat) (a0 a1 : AV) (H : Heap) (k : AV → Heap → Option β) : Option β :=
  p.box a0 H fun t2 H =>
  p.box a1 H fun t3 H =>
  p.load true 3 t2 H fun t17 =>
  p.call 3 (.fn 22 [] []) [t17, (.sc (.int .i64 1048576))] H fun t19 H =>
  p.bin .lss t19 (.sc (.int .i64 0)) fun t21 =>
  p.cond t21
  (k (.sc (.bool true)) H)
  (p.load true 4 t3 H fun t22 =>
  p.call 3 (.fn 12 [] []) [t22, t19] H fun t24 H =>
  p.bin .lss t24 (.sc (.int .i64 0)) fun t26 =>
  p.cond t26
  (k (.sc (.bool true)) H)
  (p.load true 3 t2 H fun t28 =>
  p.load true 4 t3 H fun t30 =>
  p.both
  (p.call 45 (.fn 24 [] []) [t28] H fun t29 H =>
  p.both
  (p.call 27 (.fn 14 [] []) [t30] H fun t31 H =>
  p.both
  (p.call 75 (.fn 44 [] []) [t29, t31] H fun t32 H =>
  p.extr t32 0 fun t33 =>
  p.extr t32 1 fun t34 =>
  p.new [(.sc (.int .i64 0)), .nl, .nl] H fun t6 H =>
  p.store 3 t6 t33 H fun H =>
  p.load true 3 t2 H fun t35 =>
  p.call 45 (.fn 24 [] []) [t35] H fun t36 H =>
  p.new [(.sc (.int .i64 0)), .nl, .nl] H fun t8 H =>
  p.store 3 t8 t36 H fun H =>
  p.load true 4 t3 H fun t37 =>
  p.call 27 (.fn 14 [] []) [t37] H fun t38 H =>
  p.new [(.sc (.string ⟨#[]⟩)), .nl, (.sc (.int .i64 0)), (.sc (.bool false))] H fun t9 H =>
  p.store 4 t9 t38 H fun H =>
  p.load true 3 t8 H fun t40 =>
  p.load true 4 t9 H fun t41 =>
  p.call 75 (.fn 45 [] []) [t40, t41] H fun t42 H =>
  p.extr t42 0 fun t43 =>
  p.extr t42 1 fun t44 =>
  p.new [(.sc (.int .i64 0)), .nl, .nl] H fun t10 H =>
  p.store 3 t10 t43 H fun H =>
  p.load true 3 t10 H fun t45 =>
  p.load true 3 t6 H fun t46 =>
  p.call 4 (.fn 26 [] []) [t45, t46] H fun t47 H =>
  p.un .not t47 fun t48 =>
  p.guard t48 false H (fun k' => k' t44 H) fun t50 H =>
  p.guard t48 false H (fun k' => k' t34 H) fun t51 H =>
  p.guard t48 false H (fun k' => p.bin .neq t50 t51 fun t' => k' t' H) fun t52 H =>
  p.pick t48 (.sc (.bool true)) t52 fun t53 =>
  p.cond t53
  (k (.sc (.bool false)) H)
  (p.load true 3 t8 H fun t54 =>
  p.load true 3 t2 H fun t55 =>
  p.call 45 (.fn 24 [] []) [t55] H fun t56 H =>
  p.call 4 (.fn 26 [] []) [t54, t56] H fun t57 H =>
  p.un .not t57 fun t58 =>
  p.cond t58
  (k (.sc (.bool false)) H)
  (p.load true 4 t9 H fun t59 =>
  p.load true 4 t3 H fun t60 =>
  p.call 27 (.fn 14 [] []) [t60] H fun t61 H =>
  p.call 4 (.fn 16 [] []) [t59, t61] H fun t62 H =>
  p.un .not t62 fun t63 =>
  p.cond t63
  (k (.sc (.bool false)) H)
  (p.load true 3 t8 H fun t64 =>
  p.call 3 (.fn 46 [] []) [t64, (.sc (.int .i64 1))] H fun t66 H =>
  p.load true 4 t9 H fun t67 =>
  p.call 3 (.fn 42 [] []) [t67, t66] H fun t69 H =>
  p.bin .lss t69 (.sc (.int .i64 0)) fun t71 =>
  p.guard t71 false H (fun k' => p.load true 3 t10 H fun t' => k' t' H) fun t73 H =>
  p.guard t71 false H (fun k' => p.load true 3 t6 H fun t' => k' t' H) fun t74 H =>
  p.guard t71 false H (fun k' => p.call 4 (.fn 26 [] []) [t73, t74] H fun t' H => k' t' H) fun t75 H =>
  p.guard t71 false H (fun k' => p.un .not t75 fun t' => k' t' H) fun t76 H =>
  p.pick t71 (.sc (.bool true)) t76 fun t77 =>
  p.guard t77 false H (fun k' => k' t44 H) fun t79 H =>
  p.guard t77 false H (fun k' => k' t34 H) fun t80 H =>
  p.guard t77 false H (fun k' => p.bin .neq t79 t80 fun t' => k' t' H) fun t81 H =>
  p.pick t77 (.sc (.bool true)) t81 fun t82 =>
  p.cond t82
  (k (.sc (.bool false)) H)
  (p.load true 3 t10 H fun t83 =>
  p.call 3 (.fn 46 [] []) [t83, (.sc (.int .i64 1))] H fun t85 H =>
  p.load true 3 t10 H fun t86 =>
  p.call 3 (.fn 47 [] []) [t86, (.sc (.int .i64 1))] H fun t88 H =>
  p.bin .lss t88 (.sc (.int .i64 0)) fun t90 =>
  p.cond t90
  (k (.sc (.bool false)) H)
  (p.bin .neq t88 t85 fun t93 =>
  p.cond t93
  (k (.sc (.bool false)) H)
  (p.load true 3 t2 H fun t95 =>
  p.load true 4 t3 H fun t97 =>
  p.both
  (p.call 45 (.fn 24 [] []) [t95] H fun t96 H =>
  p.both
  (p.call 27 (.fn 14 [] []) [t97] H fun t98 H =>
  p.both
  (p.call 75 (.fn 45 [] []) [t96, t98] H fun t99 H =>
  p.extr t99 0 fun t100 =>
  p.extr t99 1 fun t101 =>
  p.new [(.sc (.int .i64 0)), .nl, .nl] H fun t15 H =>
  p.store 3 t15 t100 H fun H =>
  p.load true 3 t15 H fun t102 =>
  p.load true 3 t6 H fun t103 =>
  p.call 4 (.fn 26 [] []) [t102, t103] H fun t104 H =>
  p.un .not t104 fun t105 =>
  p.guard t105 false H (fun k' => k' t101 H) fun t107 H =>
  p.guard t105 false H (fun k' => k' t34 H) fun t108 H =>
  p.guard t105 false H (fun k' => p.bin .neq t107 t108 fun t' => k' t' H) fun t109 H =>
  p.pick t105 (.sc (.bool true)) t109 fun t110 =>
  p.cond t110
  (k (.sc (.bool false)) H)
  (p.load true 3 t10 H fun t111 =>
  p.call 3 (.fn 47 [] []) [t111, (.sc (.int .i64 1))] H fun t113 H =>
  p.bin .lss t113 (.sc (.int .i64 0)) fun t115 =>
  p.cond t115
  (k (.sc (.bool false)) H)
  (p.bin .neq t113 t85 fun t118 =>
  p.cond t118
  (k (.sc (.bool false)) H)
  (k (.sc (.bool true)) H))))
  (p.new [(.sc (.int .i64 0)), .nl, .nl] H fun t15 H =>
  p.call 75 (.fn 45 [] []) [t96, t98] H fun t99 H =>
  p.extr t99 0 fun t100 =>
  p.extr t99 1 fun t101 =>
  p.store 3 t15 t100 H fun H =>
  p.load true 3 t15 H fun t102 =>
  p.load true 3 t6 H fun t103 =>
  p.call 4 (.fn 26 [] []) [t102, t103] H fun t104 H =>
  p.un .not t104 fun t105 =>
  p.guard t105 false H (fun k' => k' t101 H) fun t107 H =>
  p.guard t105 false H (fun k' => k' t34 H) fun t108 H =>
  p.guard t105 false H (fun k' => p.bin .neq t107 t108 fun t' => k' t' H) fun t109 H =>
  p.pick t105 (.sc (.bool true)) t109 fun t110 =>
  p.cond t110
  (k (.sc (.bool false)) H)
  (p.load true 3 t10 H fun t111 =>
  p.call 3 (.fn 47 [] []) [t111, (.sc (.int .i64 1))] H fun t113 H =>
  p.bin .lss t113 (.sc (.int .i64 0)) fun t115 =>
  p.cond t115
  (k (.sc (.bool false)) H)
  (p.bin .neq t113 t85 fun t118 =>
  p.cond t118
  (k (.sc (.bool false)) H)
  (k (.sc (.bool true)) H)))))
  (p.new [(.sc (.int .i64 0)), .nl, .nl] H fun t15 H =>
  p.call 27 (.fn 14 [] []) [t97] H fun t98 H =>
  p.call 75 (.fn 45 [] []) [t96, t98] H fun t99 H =>
  p.extr t99 0 fun t100 =>
  p.extr t99 1 fun t101 =>
  p.store 3 t15 t100 H fun H =>
  p.load true 3 t15 H fun t102 =>
  p.load true 3 t6 H fun t103 =>
  p.call 4 (.fn 26 [] []) [t102, t103] H fun t104 H =>
  p.un .not t104 fun t105 =>
  p.guard t105 false H (fun k' => k' t101 H) fun t107 H =>
  p.guard t105 false H (fun k' => k' t34 H) fun t108 H =>
  p.guard t105 false H (fun k' => p.bin .neq t107 t108 fun t' => k' t' H) fun t109 H =>
  p.pick t105 (.sc (.bool true)) t109 fun t110 =>
  p.cond t110
  (k (.sc (.bool false)) H)
  (p.load true 3 t10 H fun t111 =>
  p.call 3 (.fn 47 [] []) [t111, (.sc (.int .i64 1))] H fun t113 H =>
  p.bin .lss t113 (.sc (.int .i64 0)) fun t115 =>
  p.cond t115
  (k (.sc (.bool false)) H)
  (p.bin .neq t113 t85 fun t118 =>
  p.cond t118
  (k (.sc (.bool false)) H)
  (k (.sc (.bool true)) H)))))
  (p.new [(.sc (.int .i64 0)), .nl, .nl] H fun t15 H =>
  p.call 45 (.fn 24 [] []) [t95] H fun t96 H =>
  p.call 27 (.fn 14 [] []) [t97] H fun t98 H =>
  p.call 75 (.fn 45 [] []) [t96, t98] H fun t99 H =>
  p.extr t99 0 fun t100 =>
  p.extr t99 1 fun t101 =>
  p.store 3 t15 t100 H fun H =>
  p.load true 3 t15 H fun t102 =>
  p.load true 3 t6 H fun t103 =>
  p.call 4 (.fn 26 [] []) [t102, t103] H fun t104 H =>
  p.un .not t104 fun t105 =>
  p.guard t105 false H (fun k' => k' t101 H) fun t107 H =>
  p.guard t105 false H (fun k' => k' t34 H) fun t108 H =>
  p.guard t105 false H (fun k' => p.bin .neq t107 t108 fun t' => k' t' H) fun t109 H =>
  p.pick t105 (.sc (.bool true)) t109 fun t110 =>
  p.cond t110
  (k (.sc (.bool false)) H)
  (p.load true 3 t10 H fun t111 =>
  p.call 3 (.fn 47 [] []) [t111, (.sc (.int .i64 1))] H fun t113 H =>
  p.bin .lss t113 (.sc (.int .i64 0)) fun t115 =>
  p.cond t115
  (k (.sc (.bool false)) H)
  (p.bin .neq t113 t85 fun t118 =>
  p.cond t118
  (k (.sc (.bool false)) H)
  (k (.sc (.bool true)) H)))))))))))
  (p.new [(.sc (.int .i64 0)), .nl, .nl] H fun t6 H =>
  p.call 75 (.fn 44 [] []) [t29, t31] H fun t32 H =>
  p.extr t32 0 fun t33 =>
  p.extr t32 1 fun t34 =>
  p.store 3 t6 t33 H fun H =>
  p.load true 3 t2 H fun t35 =>
  p.call 45 (.fn 24 [] []) [t35] H fun t36 H =>
  p.new [(.sc (.int .i64 0)), .nl, .nl] H fun t8 H =>
  p.store 3 t8 t36 H fun H =>
  p.load true 4 t3 H fun t37 =>
  p.call 27 (.fn 14 [] []) [t37] H fun t38 H =>
  p.new [(.sc (.string ⟨#[]⟩)), .nl, (.sc (.int .i64 0)), (.sc (.bool false))] H fun t9 H =>
  p.store 4 t9 t38 H fun H =>
  p.load true 3 t8 H fun t40 =>
  p.load true 4 t9 H fun t41 =>
  p.call 75 (.fn 45 [] []) [t40, t41] H fun t42 H =>
  p.extr t42 0 fun t43 =>
  p.extr t42 1 fun t44 =>
  p.new [(.sc (.int .i64 0)), .nl, .nl] H fun t10 H =>
  p.store 3 t10 t43 H fun H =>
  p.load true 3 t10 H fun t45 =>
  p.load true 3 t6 H fun t46 =>
  p.call 4 (.fn 26 [] []) [t45, t46] H fun t47 H =>
  p.un .not t47 fun t48 =>
  p.guard t48 false H (fun k' => k' t44 H) fun t50 H =>
  p.guard t48 false H (fun k' => k' t34 H) fun t51 H =>
  p.guard t48 false H (fun k' => p.bin .neq t50 t51 fun t' => k' t' H) fun t52 H =>
  p.pick t48 (.sc (.bool true)) t52 fun t53 =>
  p.cond t53
  (k (.sc (.bool false)) H)
  (p.load true 3 t8 H fun t54 =>
  p.load true 3 t2 H fun t55 =>
  p.call 45 (.fn 24 [] []) [t55] H fun t56 H =>
  p.call 4 (.fn 26 [] []) [t54, t56] H fun t57 H =>
  p.un .not t57 fun t58 =>
  p.cond t58
  (k (.sc (.bool false)) H)
  (p.load true 4 t9 H fun t59 =>
  p.load true 4 t3 H fun t60 =>
  p.call 27 (.fn 14 [] []) [t60] H fun t61 H =>
  p.call 4 (.fn 16 [] []) [t59, t61] H fun t62 H =>
  p.un .not t62 fun t63 =>
  p.cond t63
  (k (.sc (.bool false)) H)
  (p.load true 3 t8 H fun t64 =>
  p.call 3 (.fn 46 [] []) [t64, (.sc (.int .i64 1))] H fun t66 H =>
  p.load true 4 t9 H fun t67 =>
  p.call 3 (.fn 42 [] []) [t67, t66] H fun t69 H =>
  p.bin .lss t69 (.sc (.int .i64 0)) fun t71 =>
  p.guard t71 false H (fun k' => p.load true 3 t10 H fun t' => k' t' H) fun t73 H =>
  p.guard t71 false H (fun k' => p.load true 3 t6 H fun t' => k' t' H) fun t74 H =>
  p.guard t71 false H (fun k' => p.call 4 (.fn 26 [] []) [t73, t74] H fun t' H => k' t' H) fun t75 H =>
  p.guard t71 false H (fun k' => p.un .not t75 fun t' => k' t' H) fun t76 H =>
  p.pick t71 (.sc (.bool true)) t76 fun t77 =>
  p.guard t77 false H (fun k' => k' t44 H) fun t79 H =>
  p.guard t77 false H (fun k' => k' t34 H) fun t80 H =>
  p.guard t77 false H (fun k' => p.bin .neq t79 t80 fun t' => k' t' H) fun t81 H =>
  p.pick t77 (.sc (.bool true)) t81 fun t82 =>
  p.cond t82
  (k (.sc (.bool false)) H)
  (p.load true 3 t10 H fun t83 =>
  p.call 3 (.fn 46 [] []) [t83, (.sc (.int .i64 1))] H fun t85 H =>
  p.load true 3 t10 H fun t86 =>
  p.call 3 (.fn 47 [] []) [t86, (.sc (.int .i64 1))] H fun t88 H =>
  p.bin .lss t88 (.sc (.int .i64 0)) fun t90 =>
  p.cond t90
  (k (.sc (.bool false)) H)
  (p.bin .neq t88 t85 fun t93 =>
  p.cond t93
  (k (.sc (.bool false)) H)
  (p.load true 3 t2 H fun t95 =>
  p.load true 4 t3 H fun t97 =>
  p.both
  (p.call 45 (.fn 24 [] []) [t95] H fun t96 H =>
  p.both
  (p.call 27 (.fn 14 [] []) [t97] H fun t98 H =>
  p.both
  (p.call 75 (.fn 45 [] []) [t96, t98] H fun t99 H =>
  p.extr t99 0 fun t100 =>
  p.extr t99 1 fun t101 =>
  p.new [(.sc (.int .i64 0)), .nl, .nl] H fun t15 H =>
  p.store 3 t15 t100 H fun H =>
  p.load true 3 t15 H fun t102 =>
  p.load true 3 t6 H fun t103 =>
  p.call 4 (.fn 26 [] []) [t102, t103] H fun t104 H =>
  p.un .not t104 fun t105 =>
  p.guard t105 false H (fun k' => k' t101 H) fun t107 H =>
  p.guard t105 false H (fun k' => k' t34 H) fun t108 H =>
  p.guard t105 false H (fun k' => p.bin .neq t107 t108 fun t' => k' t' H) fun t109 H =>
  p.pick t105 (.sc (.bool true)) t109 fun t110 =>
  p.cond t110
  (k (.sc (.bool false)) H)
  (p.load true 3 t10 H fun t111 =>
  p.call 3 (.fn 47 [] []) [t111, (.sc (.int .i64 1))] H fun t113 H =>
  p.bin .lss t113 (.sc (.int .i64 0)) fun t115 =>
  p.cond t115
  (k (.sc (.bool false)) H)
  (p.bin .neq t113 t85 fun t118 =>
  p.cond t118
  (k (.sc (.bool false)) H)
  (k (.sc (.bool true)) H))))
  (p.new [(.sc (.int .i64 0)), .nl, .nl] H fun t15 H =>
  p.call 75 (.fn 45 [] []) [t96, t98] H fun t99 H =>
  p.extr t99 0 fun t100 =>
  p.extr t99 1 fun t101 =>
  p.store 3 t15 t100 H fun H =>
  p.load true 3 t15 H fun t102 =>
  p.load true 3 t6 H fun t103 =>
  p.call 4 (.fn 26 [] []) [t102, t103] H fun t104 H =>
  p.un .not t104 fun t105 =>
  p.guard t105 false H (fun k' => k' t101 H) fun t107 H =>
  p.guard t105 false H (fun k' => k' t34 H) fun t108 H =>
  p.guard t105 false H (fun k' => p.bin .neq t107 t108 fun t' => k' t' H) fun t109 H =>
  p.pick t105 (.sc (.bool true)) t109 fun t110 =>
  p.cond t110
  (k (.sc (.bool false)) H)
  (p.load true 3 t10 H fun t111 =>
  p.call 3 (.fn 47 [] []) [t111, (.sc (.int .i64 1))] H fun t113 H =>
  p.bin .lss t113 (.sc (.int .i64 0)) fun t115 =>
  p.cond t115
  (k (.sc (.bool false)) H)
  (p.bin .neq t113 t85 fun t118 =>
  p.cond t118
  (k (.sc (.bool false)) H)
  (k (.sc (.bool true)) H)))))
  (p.new [(.sc (.int .i64 0)), .nl, .nl] H fun t15 H =>
  p.call 27 (.fn 14 [] []) [t97] H fun t98 H =>
  p.call 75 (.fn 45 [] []) [t96, t98] H fun t99 H =>
  p.extr t99 0 fun t100 =>
  p.extr t99 1 fun t101 =>
  p.store 3 t15 t100 H fun H =>
  p.load true 3 t15 H fun t102 =>
  p.load true 3 t6 H fun t103 =>
  p.call 4 (.fn 26 [] []) [t102, t103] H fun t104 H =>
  p.un .not t104 fun t105 =>
  p.guard t105 false H (fun k' => k' t101 H) fun t107 H =>
  p.guard t105 false H (fun k' => k' t34 H) fun t108 H =>
  p.guard t105 false H (fun k' => p.bin .neq t107 t108 fun t' => k' t' H) fun t109 H =>
  p.pick t105 (.sc (.bool true)) t109 fun t110 =>
  p.cond t110
  (k (.sc (.bool false)) H)
  (p.load true 3 t10 H fun t111 =>
  p.call 3 (.fn 47 [] []) [t111, (.sc (.int .i64 1))] H fun t113 H =>
  p.bin .lss t113 (.sc (.int .i64 0)) fun t115 =>
  p.cond t115
  (k (.sc (.bool false)) H)
  (p.bin .neq t113 t85 fun t118 =>
  p.cond t118
  (k (.sc (.bool false)) H)
  (k (.sc (.bool true)) H)))))
  (p.new [(.sc (.int .i64 0)), .nl, .nl] H fun t15 H =>
  p.call 45 (.fn 24 [] []) [t95] H fun t96 H =>
  p.call 27 (.fn 14 [] []) [t97] H fun t98 H =>
  p.call 75 (.fn 45 [] []) [t96, t98] H fun t99 H =>
  p.extr t99 0 fun t100 =>
  p.extr t99 1 fun t101 =>
  p.store 3 t15 t100 H fun H =>
  p.load true 3 t15 H fun t102 =>
  p.load true 3 t6 H fun t103 =>
  p.call 4 (.fn 26 [] []) [t102, t103] H fun t104 H =>
  p.un .not t104 fun t105 =>
  p.guard t105 false H (fun k' => k' t101 H) fun t107 H =>
  p.guard t105 false H (fun k' => k' t34 H) fun t108 H =>
  p.guard t105 false H (fun k' => p.bin .neq t107 t108 fun t' => k' t' H) fun t109 H =>
  p.pick t105 (.sc (.bool true)) t109 fun t110 =>
  p.cond t110
  (k (.sc (.bool false)) H)
  (p.load true 3 t10 H fun t111 =>
  p.call 3 (.fn 47 [] []) [t111, (.sc (.int .i64 1))] H fun t113 H =>
  p.bin .lss t113 (.sc (.int .i64 0)) fun t115 =>
  p.cond t115
  (k (.sc (.bool false)) H)
  (p.bin .neq t113 t85 fun t118 =>
  p.cond t118
  (k (.sc (.bool false)) H)
  (k (.sc (.bool true)) H))))))))))))
  (p.new [(.sc (.int .i64 0)), .nl, .nl] H fun t6 H =>
  p.call 27 (.fn 14 [] []) [t30] H fun t31 H =>
  p.call 75 (.fn 44 [] []) [t29, t31] H fun t32 H =>
  p.extr t32 0 fun t33 =>
  p.extr t32 1 fun t34 =>
  p.store 3 t6 t33 H fun H =>
  p.load true 3 t2 H fun t35 =>
  p.call 45 (.fn 24 [] []) [t35] H fun t36 H =>
  p.new [(.sc (.int .i64 0)), .nl, .nl] H fun t8 H =>
  p.store 3 t8 t36 H fun H =>
  p.load true 4 t3 H fun t37 =>
  p.call 27 (.fn 14 [] []) [t37] H fun t38 H =>
  p.new [(.sc (.string ⟨#[]⟩)), .nl, (.sc (.int .i64 0)), (.sc (.bool false))] H fun t9 H =>
  p.store 4 t9 t38 H fun H =>
  p.load true 3 t8 H fun t40 =>
  p.load true 4 t9 H fun t41 =>
  p.call 75 (.fn 45 [] []) [t40, t41] H fun t42 H =>
  p.extr t42 0 fun t43 =>
  p.extr t42 1 fun t44 =>
  p.new [(.sc (.int .i64 0)), .nl, .nl] H fun t10 H =>
  p.store 3 t10 t43 H fun H =>
  p.load true 3 t10 H fun t45 =>
  p.load true 3 t6 H fun t46 =>
  p.call 4 (.fn 26 [] []) [t45, t46] H fun t47 H =>
  p.un .not t47 fun t48 =>
  p.guard t48 false H (fun k' => k' t44 H) fun t50 H =>
  p.guard t48 false H (fun k' => k' t34 H) fun t51 H =>
  p.guard t48 false H (fun k' => p.bin .neq t50 t51 fun t' => k' t' H) fun t52 H =>
  p.pick t48 (.sc (.bool true)) t52 fun t53 =>
  p.cond t53
  (k (.sc (.bool false)) H)
  (p.load true 3 t8 H fun t54 =>
  p.load true 3 t2 H fun t55 =>
  p.call 45 (.fn 24 [] []) [t55] H fun t56 H =>
  p.call 4 (.fn 26 [] []) [t54, t56] H fun t57 H =>
  p.un .not t57 fun t58 =>
  p.cond t58
  (k (.sc (.bool false)) H)
  (p.load true 4 t9 H fun t59 =>
  p.load true 4 t3 H fun t60 =>
  p.call 27 (.fn 14 [] []) [t60] H fun t61 H =>
  p.call 4 (.fn 16 [] []) [t59, t61] H fun t62 H =>
  p.un .not t62 fun t63 =>
  p.cond t63
  (k (.sc (.bool false)) H)
  (p.load true 3 t8 H fun t64 =>
  p.call 3 (.fn 46 [] []) [t64, (.sc (.int .i64 1))] H fun t66 H =>
  p.load true 4 t9 H fun t67 =>
  p.call 3 (.fn 42 [] []) [t67, t66] H fun t69 H =>
  p.bin .lss t69 (.sc (.int .i64 0)) fun t71 =>
  p.guard t71 false H (fun k' => p.load true 3 t10 H fun t' => k' t' H) fun t73 H =>
  p.guard t71 false H (fun k' => p.load true 3 t6 H fun t' => k' t' H) fun t74 H =>
  p.guard t71 false H (fun k' => p.call 4 (.fn 26 [] []) [t73, t74] H fun t' H => k' t' H) fun t75 H =>
  p.guard t71 false H (fun k' => p.un .not t75 fun t' => k' t' H) fun t76 H =>
  p.pick t71 (.sc (.bool true)) t76 fun t77 =>
  p.guard t77 false H (fun k' => k' t44 H) fun t79 H =>
  p.guard t77 false H (fun k' => k' t34 H) fun t80 H =>
  p.guard t77 false H (fun k' => p.bin .neq t79 t80 fun t' => k' t' H) fun t81 H =>
  p.pick t77 (.sc (.bool true)) t81 fun t82 =>
  p.cond t82
  (k (.sc (.bool false)) H)
  (p.load true 3 t10 H fun t83 =>
  p.call 3 (.fn 46 [] []) [t83, (.sc (.int .i64 1))] H fun t85 H =>
  p.load true 3 t10 H fun t86 =>
  p.call 3 (.fn 47 [] []) [t86, (.sc (.int .i64 1))] H fun t88 H =>
  p.bin .lss t88 (.sc (.int .i64 0)) fun t90 =>
  p.cond t90
  (k (.sc (.bool false)) H)
  (p.bin .neq t88 t85 fun t93 =>
  p.cond t93
  (k (.sc (.bool false)) H)
  (p.load true 3 t2 H fun t95 =>
  p.load true 4 t3 H fun t97 =>
  p.both
  (p.call 45 (.fn 24 [] []) [t95] H fun t96 H =>
  p.both
  (p.call 27 (.fn 14 [] []) [t97] H fun t98 H =>
  p.both
  (p.call 75 (.fn 45 [] []) [t96, t98] H fun t99 H =>
  p.extr t99 0 fun t100 =>
  p.extr t99 1 fun t101 =>
  p.new [(.sc (.int .i64 0)), .nl, .nl] H fun t15 H =>
  p.store 3 t15 t100 H fun H =>
  p.load true 3 t15 H fun t102 =>
  p.load true 3 t6 H fun t103 =>
  p.call 4 (.fn 26 [] []) [t102, t103] H fun t104 H =>
  p.un .not t104 fun t105 =>
  p.guard t105 false H (fun k' => k' t101 H) fun t107 H =>
  p.guard t105 false H (fun k' => k' t34 H) fun t108 H =>
  p.guard t105 false H (fun k' => p.bin .neq t107 t108 fun t' => k' t' H) fun t109 H =>
  p.pick t105 (.sc (.bool true)) t109 fun t110 =>
  p.cond t110
  (k (.sc (.bool false)) H)
  (p.load true 3 t10 H fun t111 =>
  p.call 3 (.fn 47 [] []) [t111, (.sc (.int .i64 1))] H fun t113 H =>
  p.bin .lss t113 (.sc (.int .i64 0)) fun t115 =>
  p.cond t115
  (k (.sc (.bool false)) H)
  (p.bin .neq t113 t85 fun t118 =>
  p.cond t118
  (k (.sc (.bool false)) H)
  (k (.sc (.bool true)) H))))
  (p.new [(.sc (.int .i64 0)), .nl, .nl] H fun t15 H =>
  p.call 75 (.fn 45 [] []) [t96, t98] H fun t99 H =>
  p.extr t99 0 fun t100 =>
  p.extr t99 1 fun t101 =>
  p.store 3 t15 t100 H fun H =>
  p.load true 3 t15 H fun t102 =>
  p.load true 3 t6 H fun t103 =>
  p.call 4 (.fn 26 [] []) [t102, t103] H fun t104 H =>
  p.un .not t104 fun t105 =>
  p.guard t105 false H (fun k' => k' t101 H) fun t107 H =>
  p.guard t105 false H (fun k' => k' t34 H) fun t108 H =>
  p.guard t105 false H (fun k' => p.bin .neq t107 t108 fun t' => k' t' H) fun t109 H =>
  p.pick t105 (.sc (.bool true)) t109 fun t110 =>
  p.cond t110
  (k (.sc (.bool false)) H)
  (p.load true 3 t10 H fun t111 =>
  p.call 3 (.fn 47 [] []) [t111, (.sc (.int .i64 1))] H fun t113 H =>
  p.bin .lss t113 (.sc (.int .i64 0)) fun t115 =>
  p.cond t115
  (k (.sc (.bool false)) H)
  (p.bin .neq t113 t85 fun t118 =>
  p.cond t118
  (k (.sc (.bool false)) H)
  (k (.sc (.bool true)) H)))))
  (p.new [(.sc (.int .i64 0)), .nl, .nl] H fun t15 H =>
  p.call 27 (.fn 14 [] []) [t97] H fun t98 H =>
  p.call 75 (.fn 45 [] []) [t96, t98] H fun t99 H =>
  p.extr t99 0 fun t100 =>
  p.extr t99 1 fun t101 =>
  p.store 3 t15 t100 H fun H =>
  p.load true 3 t15 H fun t102 =>
  p.load true 3 t6 H fun t103 =>
  p.call 4 (.fn 26 [] []) [t102, t103] H fun t104 H =>
  p.un .not t104 fun t105 =>
  p.guard t105 false H (fun k' => k' t101 H) fun t107 H =>
  p.guard t105 false H (fun k' => k' t34 H) fun t108 H =>
  p.guard t105 false H (fun k' => p.bin .neq t107 t108 fun t' => k' t' H) fun t109 H =>
  p.pick t105 (.sc (.bool true)) t109 fun t110 =>
  p.cond t110
  (k (.sc (.bool false)) H)
  (p.load true 3 t10 H fun t111 =>
  p.call 3 (.fn 47 [] []) [t111, (.sc (.int .i64 1))] H fun t113 H =>
  p.bin .lss t113 (.sc (.int .i64 0)) fun t115 =>
  p.cond t115
  (k (.sc (.bool false)) H)
  (p.bin .neq t113 t85 fun t118 =>
  p.cond t118
  (k (.sc (.bool false)) H)
  (k (.sc (.bool true)) H)))))
  (p.new [(.sc (.int .i64 0)), .nl, .nl] H fun t15 H =>
  p.call 45 (.fn 24 [] []) [t95] H fun t96 H =>
  p.call 27 (.fn 14 [] []) [t97] H fun t98 H =>
  p.call 75 (.fn 45 [] []) [t96, t98] H fun t99 H =>
  p.extr t99 0 fun t100 =>
  p.extr t99 1 fun t101 =>
  p.store 3 t15 t100 H fun H =>
  p.load true 3 t15 H fun t102 =>
  p.load true 3 t6 H fun t103 =>
  p.call 4 (.fn 26 [] []) [t102, t103] H fun t104 H =>
  p.un .not t104 fun t105 =>
  p.guard t105 false H (fun k' => k' t101 H) fun t107 H =>
  p.guard t105 false H (fun k' => k' t34 H) fun t108 H =>
  p.guard t105 false H (fun k' => p.bin .neq t107 t108 fun t' => k' t' H) fun t109 H =>
  p.pick t105 (.sc (.bool true)) t109 fun t110 =>
  p.cond t110
  (k (.sc (.bool false)) H)
  (p.load true 3 t10 H fun t111 =>
  p.call 3 (.fn 47 [] []) [t111, (.sc (.int .i64 1))] H fun t113 H =>
  p.bin .lss t113 (.sc (.int .i64 0)) fun t115 =>
  p.cond t115
  (k (.sc (.bool false)) H)
  (p.bin .neq t113 t85 fun t118 =>
  p.cond t118
  (k (.sc (.bool false)) H)
  (k (.sc (.bool true)) H))))))))))))
  (p.new [(.sc (.int .i64 0)), .nl, .nl] H fun t6 H =>
  p.call 45 (.fn 24 [] []) [t28] H fun t29 H =>
  p.call 27 (.fn 14 [] []) [t30] H fun t31 H =>
  p.call 75 (.fn 44 [] []) [t29, t31] H fun t32 H =>
  p.extr t32 0 fun t33 =>
  p.extr t32 1 fun t34 =>
  p.store 3 t6 t33 H fun H =>
  p.load true 3 t2 H fun t35 =>
  p.call 45 (.fn 24 [] []) [t35] H fun t36 H =>
  p.new [(.sc (.int .i64 0)), .nl, .nl] H fun t8 H =>
  p.store 3 t8 t36 H fun H =>
  p.load true 4 t3 H fun t37 =>
  p.call 27 (.fn 14 [] []) [t37] H fun t38 H =>
  p.new [(.sc (.string ⟨#[]⟩)), .nl, (.sc (.int .i64 0)), (.sc (.bool false))] H fun t9 H =>
  p.store 4 t9 t38 H fun H =>
  p.load true 3 t8 H fun t40 =>
  p.load true 4 t9 H fun t41 =>
  p.call 75 (.fn 45 [] []) [t40, t41] H fun t42 H =>
  p.extr t42 0 fun t43 =>
  p.extr t42 1 fun t44 =>
  p.new [(.sc (.int .i64 0)), .nl, .nl] H fun t10 H =>
  p.store 3 t10 t43 H fun H =>
  p.load true 3 t10 H fun t45 =>
  p.load true 3 t6 H fun t46 =>
  p.call 4 (.fn 26 [] []) [t45, t46] H fun t47 H =>
  p.un .not t47 fun t48 =>
  p.guard t48 false H (fun k' => k' t44 H) fun t50 H =>
  p.guard t48 false H (fun k' => k' t34 H) fun t51 H =>
  p.guard t48 false H (fun k' => p.bin .neq t50 t51 fun t' => k' t' H) fun t52 H =>
  p.pick t48 (.sc (.bool true)) t52 fun t53 =>
  p.cond t53
  (k (.sc (.bool false)) H)
  (p.load true 3 t8 H fun t54 =>
  p.load true 3 t2 H fun t55 =>
  p.call 45 (.fn 24 [] []) [t55] H fun t56 H =>
  p.call 4 (.fn 26 [] []) [t54, t56] H fun t57 H =>
  p.un .not t57 fun t58 =>
  p.cond t58
  (k (.sc (.bool false)) H)
  (p.load true 4 t9 H fun t59 =>
  p.load true 4 t3 H fun t60 =>
  p.call 27 (.fn 14 [] []) [t60] H fun t61 H =>
  p.call 4 (.fn 16 [] []) [t59, t61] H fun t62 H =>
  p.un .not t62 fun t63 =>
  p.cond t63
  (k (.sc (.bool false)) H)
  (p.load true 3 t8 H fun t64 =>
  p.call 3 (.fn 46 [] []) [t64, (.sc (.int .i64 1))] H fun t66 H =>
  p.load true 4 t9 H fun t67 =>
  p.call 3 (.fn 42 [] []) [t67, t66] H fun t69 H =>
  p.bin .lss t69 (.sc (.int .i64 0)) fun t71 =>
  p.guard t71 false H (fun k' => p.load true 3 t10 H fun t' => k' t' H) fun t73 H =>
  p.guard t71 false H (fun k' => p.load true 3 t6 H fun t' => k' t' H) fun t74 H =>
  p.guard t71 false H (fun k' => p.call 4 (.fn 26 [] []) [t73, t74] H fun t' H => k' t' H) fun t75 H =>
  p.guard t71 false H (fun k' => p.un .not t75 fun t' => k' t' H) fun t76 H =>
  p.pick t71 (.sc (.bool true)) t76 fun t77 =>
  p.guard t77 false H (fun k' => k' t44 H) fun t79 H =>
  p.guard t77 false H (fun k' => k' t34 H) fun t80 H =>
  p.guard t77 false H (fun k' => p.bin .neq t79 t80 fun t' => k' t' H) fun t81 H =>
  p.pick t77 (.sc (.bool true)) t81 fun t82 =>
  p.cond t82
  (k (.sc (.bool false)) H)
  (p.load true 3 t10 H fun t83 =>
  p.call 3 (.fn 46 [] []) [t83, (.sc (.int .i64 1))] H fun t85 H =>
  p.load true 3 t10 H fun t86 =>
  p.call 3 (.fn 47 [] []) [t86, (.sc (.int .i64 1))] H fun t88 H =>
  p.bin .lss t88 (.sc (.int .i64 0)) fun t90 =>
  p.cond t90
  (k (.sc (.bool false)) H)
  (p.bin .neq t88 t85 fun t93 =>
  p.cond t93
  (k (.sc (.bool false)) H)
  (p.load true 3 t2 H fun t95 =>
  p.load true 4 t3 H fun t97 =>
  p.both
  (p.call 45 (.fn 24 [] []) [t95] H fun t96 H =>
  p.both
  (p.call 27 (.fn 14 [] []) [t97] H fun t98 H =>
  p.both
  (p.call 75 (.fn 45 [] []) [t96, t98] H fun t99 H =>
  p.extr t99 0 fun t100 =>
  p.extr t99 1 fun t101 =>
  p.new [(.sc (.int .i64 0)), .nl, .nl] H fun t15 H =>
  p.store 3 t15 t100 H fun H =>
  p.load true 3 t15 H fun t102 =>
  p.load true 3 t6 H fun t103 =>
  p.call 4 (.fn 26 [] []) [t102, t103] H fun t104 H =>
  p.un .not t104 fun t105 =>
  p.guard t105 false H (fun k' => k' t101 H) fun t107 H =>
  p.guard t105 false H (fun k' => k' t34 H) fun t108 H =>
  p.guard t105 false H (fun k' => p.bin .neq t107 t108 fun t' => k' t' H) fun t109 H =>
  p.pick t105 (.sc (.bool true)) t109 fun t110 =>
  p.cond t110
  (k (.sc (.bool false)) H)
  (p.load true 3 t10 H fun t111 =>
  p.call 3 (.fn 47 [] []) [t111, (.sc (.int .i64 1))] H fun t113 H =>
  p.bin .lss t113 (.sc (.int .i64 0)) fun t115 =>
  p.cond t115
  (k (.sc (.bool false)) H)
  (p.bin .neq t113 t85 fun t118 =>
  p.cond t118
  (k (.sc (.bool false)) H)
  (k (.sc (.bool true)) H))))
  (p.new [(.sc (.int .i64 0)), .nl, .nl] H fun t15 H =>
  p.call 75 (.fn 45 [] []) [t96, t98] H fun t99 H =>
  p.extr t99 0 fun t100 =>
  p.extr t99 1 fun t101 =>
  p.store 3 t15 t100 H fun H =>
  p.load true 3 t15 H fun t102 =>
  p.load true 3 t6 H fun t103 =>
  p.call 4 (.fn 26 [] []) [t102, t103] H fun t104 H =>
  p.un .not t104 fun t105 =>
  p.guard t105 false H (fun k' => k' t101 H) fun t107 H =>
  p.guard t105 false H (fun k' => k' t34 H) fun t108 H =>
  p.guard t105 false H (fun k' => p.bin .neq t107 t108 fun t' => k' t' H) fun t109 H =>
  p.pick t105 (.sc (.bool true)) t109 fun t110 =>
  p.cond t110
  (k (.sc (.bool false)) H)
  (p.load true 3 t10 H fun t111 =>
  p.call 3 (.fn 47 [] []) [t111, (.sc (.int .i64 1))] H fun t113 H =>
  p.bin .lss t113 (.sc (.int .i64 0)) fun t115 =>
  p.cond t115
  (k (.sc (.bool false)) H)
  (p.bin .neq t113 t85 fun t118 =>
  p.cond t118
  (k (.sc (.bool false)) H)
  (k (.sc (.bool true)) H)))))
  (p.new [(.sc (.int .i64 0)), .nl, .nl] H fun t15 H =>
  p.call 27 (.fn 14 [] []) [t97] H fun t98 H =>
  p.call 75 (.fn 45 [] []) [t96, t98] H fun t99 H =>
  p.extr t99 0 fun t100 =>
  p.extr t99 1 fun t101 =>
  p.store 3 t15 t100 H fun H =>
  p.load true 3 t15 H fun t102 =>
  p.load true 3 t6 H fun t103 =>
  p.call 4 (.fn 26 [] []) [t102, t103] H fun t104 H =>
  p.un .not t104 fun t105 =>
  p.guard t105 false H (fun k' => k' t101 H) fun t107 H =>
  p.guard t105 false H (fun k' => k' t34 H) fun t108 H =>
  p.guard t105 false H (fun k' => p.bin .neq t107 t108 fun t' => k' t' H) fun t109 H =>
  p.pick t105 (.sc (.bool true)) t109 fun t110 =>
  p.cond t110
  (k (.sc (.bool false)) H)
  (p.load true 3 t10 H fun t111 =>
  p.call 3 (.fn 47 [] []) [t111, (.sc (.int .i64 1))] H fun t113 H =>
  p.bin .lss t113 (.sc (.int .i64 0)) fun t115 =>
  p.cond t115
  (k (.sc (.bool false)) H)
  (p.bin .neq t113 t85 fun t118 =>
  p.cond t118
  (k (.sc (.bool false)) H)
  (k (.sc (.bool true)) H)))))
  (p.new [(.sc (.int .i64 0)), .nl, .nl] H fun t15 H =>
  p.call 45 (.fn 24 [] []) [t95] H fun t96 H =>
  p.call 27 (.fn 14 [] []) [t97] H fun t98 H =>
  p.call 75 (.fn 45 [] []) [t96, t98] H fun t99 H =>
  p.extr t99 0 fun t100 =>
  p.extr t99 1 fun t101 =>
  p.store 3 t15 t100 H fun H =>
  p.load true 3 t15 H fun t102 =>
  p.load true 3 t6 H fun t103 =>
  p.call 4 (.fn 26 [] []) [t102, t103] H fun t104 H =>
  p.un .not t104 fun t105 =>
  p.guard t105 false H (fun k' => k' t101 H) fun t107 H =>
  p.guard t105 false H (fun k' => k' t34 H) fun t108 H =>
  p.guard t105 false H (fun k' => p.bin .neq t107 t108 fun t' => k' t' H) fun t109 H =>
  p.pick t105 (.sc (.bool true)) t109 fun t110 =>
  p.cond t110
  (k (.sc (.bool false)) H)
  (p.load true 3 t10 H fun t111 =>
  p.call 3 (.fn 47 [] []) [t111, (.sc (.int .i64 1))] H fun t113 H =>
  p.bin .lss t113 (.sc (.int .i64 0)) fun t115 =>
  p.cond t115
  (k (.sc (.bool false)) H)
  (p.bin .neq t113 t85 fun t118 =>
  p.cond t118
  (k (.sc (.bool false)) H)
  (k (.sc (.bool true)) H)))))))))))))
theorem f10_body (p : Pr β) (n : Nat) (a0 a1 : AV) (H : Heap) (k : AV → Heap → Option β) : evalBody ti0 p n ⟨c10, 119, Go.Proofs.Tryd.f10.results.toList, o10⟩ [a0, a1] H k = f10 p n a0 a1 H k := by kernel_rfl

/-! 70 loop.example/g00480/spec.InOk -/
noncomputable def f70_l0 (p : Pr β) (n : Nat)  (k : AV → Heap → Option β) : Nat → AV → AV → Heap → Option β
  | 0, _, _, _ => none
  | m + 1, t0, t3, H => p.len t0 fun t6 =>
      p.bin .lss t3 t6 fun t7 =>
      p.cond t7
      (p.iadr 1 t0 t3 fun t12 =>
      p.load false 1 t12 H fun t13 =>
      p.call 4 (.fn 54 [] []) [t13, (.sc (.int .i64 1)), (.sc (.int .i64 65535))] H fun t14 H =>
      p.un .not t14 fun t15 =>
      p.guard t15 false H (fun k' => k' t3 H) fun t17 H =>
      p.guard t15 false H (fun k' => p.bin .gtr t17 (.sc (.int .i64 0)) fun t' => k' t' H) fun t18 H =>
      p.guard t15 false H (fun k' => k' t18 H) fun t19 H =>
      p.guard t19 true H (fun k' => k' t0 H) fun t20 H =>
      p.guard t19 true H (fun k' => k' t3 H) fun t21 H =>
      p.guard t19 true H (fun k' => p.bin .sub t21 (.sc (.int .i64 1)) fun t' => k' t' H) fun t22 H =>
      p.guard t19 true H (fun k' => p.iadr 1 t20 t22 fun t' => k' t' H) fun t23 H =>
      p.guard t19 true H (fun k' => p.load false 1 t23 H fun t' => k' t' H) fun t24 H =>
      p.guard t19 true H (fun k' => k' t0 H) fun t25 H =>
      p.guard t19 true H (fun k' => k' t3 H) fun t26 H =>
      p.guard t19 true H (fun k' => p.iadr 1 t25 t26 fun t' => k' t' H) fun t27 H =>
      p.guard t19 true H (fun k' => p.load false 1 t27 H fun t' => k' t' H) fun t28 H =>
      p.guard t19 true H (fun k' => p.bin .geq t24 t28 fun t' => k' t' H) fun t29 H =>
      p.guard t15 false H (fun k' => p.pick t19 t29 (.sc (.bool false)) fun t' => k' t' H) fun t30 H =>
      p.pick t15 (.sc (.bool true)) t30 fun t31 =>
      p.cond t31
      (k (.sc (.bool false)) H)
      (p.bin .add t3 (.sc (.int .i64 1)) fun t9 =>
      f70_l0 p n  k m t0 t9 H))
      (p.len t0 fun t33 =>
      p.bin .leq t33 (.sc (.int .i64 4)) fun t34 =>
      k t34 H)
noncomputable def f70 (p : Pr β) (n : Nat) (a0 : AV) (H : Heap) (k : AV → Heap → Option β) : Option β :=
  f70_l0 p n  k n a0 (.sc (.int .i64 0)) H
noncomputable def f70_L0 (p : Pr β) (n : Nat)  (k : AV → Heap → Option β) (m : Nat) (tm : Tm) (H : Heap) : Option β :=
  iterC 35 (fun tm H k => evalCode ti0 p o70 35 n (cd c70 [1, 0, 1, 0, 0]) tm H k) (blkK 0 (seqK (fun tm H => evalCode ti0 p o70 35 n (cd c70 [1, 1]) tm H (endK ti0 p Go.Proofs.Tryd.f70.results.toList k)) (endK ti0 p Go.Proofs.Tryd.f70.results.toList k))) m tm H
theorem f70_L0_step (p : Pr β) (n : Nat)  (k : AV → Heap → Option β) (m0 : Nat) (t0 t1 t2 t3 t4 t5 t6 t7 t8 t9 t10 t11 t12 t13 t14 t15 t16 t17 t18 t19 t20 t21 t22 t23 t24 t25 t26 t27 t28 t29 t30 t31 t32 t33 t34 : AV) (H : Heap) : f70_L0 p n  k (m0 + 1) [(0, t0), (1, t1), (2, t2), (3, t3), (4, t4), (5, t5), (6, t6), (7, t7), (8, t8), (9, t9), (10, t10), (11, t11), (12, t12), (13, t13), (14, t14), (15, t15), (16, t16), (17, t17), (18, t18), (19, t19), (20, t20), (21, t21), (22, t22), (23, t23), (24, t24), (25, t25), (26, t26), (27, t27), (28, t28), (29, t29), (30, t30), (31, t31), (32, t32), (33, t33), (34, t34)] H =
  p.len t0 fun t6 =>
  p.bin .lss t3 t6 fun t7 =>
  p.cond t7
  (p.iadr 1 t0 t3 fun t12 =>
  p.load false 1 t12 H fun t13 =>
  p.call 4 (.fn 54 [] []) [t13, (.sc (.int .i64 1)), (.sc (.int .i64 65535))] H fun t14 H =>
  p.un .not t14 fun t15 =>
  p.guard t15 false H (fun k' => k' t3 H) fun t17 H =>
  p.guard t15 false H (fun k' => p.bin .gtr t17 (.sc (.int .i64 0)) fun t' => k' t' H) fun t18 H =>
  p.guard t15 false H (fun k' => k' t18 H) fun t19 H =>
  p.guard t19 true H (fun k' => k' t0 H) fun t20 H =>
  p.guard t19 true H (fun k' => k' t3 H) fun t21 H =>
  p.guard t19 true H (fun k' => p.bin .sub t21 (.sc (.int .i64 1)) fun t' => k' t' H) fun t22 H =>
  p.guard t19 true H (fun k' => p.iadr 1 t20 t22 fun t' => k' t' H) fun t23 H =>
  p.guard t19 true H (fun k' => p.load false 1 t23 H fun t' => k' t' H) fun t24 H =>
  p.guard t19 true H (fun k' => k' t0 H) fun t25 H =>
  p.guard t19 true H (fun k' => k' t3 H) fun t26 H =>
  p.guard t19 true H (fun k' => p.iadr 1 t25 t26 fun t' => k' t' H) fun t27 H =>
  p.guard t19 true H (fun k' => p.load false 1 t27 H fun t' => k' t' H) fun t28 H =>
  p.guard t19 true H (fun k' => p.bin .geq t24 t28 fun t' => k' t' H) fun t29 H =>
  p.guard t15 false H (fun k' => p.pick t19 t29 (.sc (.bool false)) fun t' => k' t' H) fun t30 H =>
  p.pick t15 (.sc (.bool true)) t30 fun t31 =>
  p.cond t31
  (k (.sc (.bool false)) H)
  (p.bin .add t3 (.sc (.int .i64 1)) fun t9 =>
  f70_L0 p n  k m0 [(0, t0), (1, t1), (2, t2), (3, t9), (4, t3), (5, t0), (6, t6), (7, t7), (8, t3), (9, t9), (10, t0), (11, t3), (12, t12), (13, t13), (14, t14), (15, t15), (16, t15), (17, t17), (18, t18), (19, t19), (20, t20), (21, t21), (22, t22), (23, t23), (24, t24), (25, t25), (26, t26), (27, t27), (28, t28), (29, t29), (30, t30), (31, t31), (32, t32), (33, t33), (34, t34)] H))
  (p.len t0 fun t33 =>
  p.bin .leq t33 (.sc (.int .i64 4)) fun t34 =>
  k t34 H) := by kernel_rfl
theorem f70_l0_eq (p : Pr β) (n : Nat)  (k : AV → Heap → Option β)   (m0 : Nat) : ∀ (t0 t1 t2 t3 t4 t5 t6 t7 t8 t9 t10 t11 t12 t13 t14 t15 t16 t17 t18 t19 t20 t21 t22 t23 t24 t25 t26 t27 t28 t29 t30 t31 t32 t33 t34 : AV) (H : Heap), f70_L0 p n  k m0 [(0, t0), (1, t1), (2, t2), (3, t3), (4, t4), (5, t5), (6, t6), (7, t7), (8, t8), (9, t9), (10, t10), (11, t11), (12, t12), (13, t13), (14, t14), (15, t15), (16, t16), (17, t17), (18, t18), (19, t19), (20, t20), (21, t21), (22, t22), (23, t23), (24, t24), (25, t25), (26, t26), (27, t27), (28, t28), (29, t29), (30, t30), (31, t31), (32, t32), (33, t33), (34, t34)] H = f70_l0 p n  k m0 t0 t3 H := by
  induction m0 with
  | zero => intros; rfl
  | succ m0 ih =>
    intro t0 t1 t2 t3 t4 t5 t6 t7 t8 t9 t10 t11 t12 t13 t14 t15 t16 t17 t18 t19 t20 t21 t22 t23 t24 t25 t26 t27 t28 t29 t30 t31 t32 t33 t34 H
    rw [f70_L0_step]
    simp only [ih]
    rfl
theorem f70_raw (p : Pr β) (n : Nat) (a0 : AV) (H : Heap) (k : AV → Heap → Option β) : evalBody ti0 p n ⟨c70, 35, Go.Proofs.Tryd.f70.results.toList, o70⟩ [a0] H k =
  f70_L0 p n  k n [(0, a0), (1, (.sc undef)), (2, (.sc (.bool false))), (3, (.sc (.int .i64 0))), (4, (.sc undef)), (5, (.sc undef)), (6, (.sc undef)), (7, (.sc undef)), (8, (.sc undef)), (9, (.sc undef)), (10, (.sc undef)), (11, (.sc undef)), (12, (.sc undef)), (13, (.sc undef)), (14, (.sc undef)), (15, (.sc undef)), (16, (.sc undef)), (17, (.sc undef)), (18, (.sc undef)), (19, (.sc undef)), (20, (.sc undef)), (21, (.sc undef)), (22, (.sc undef)), (23, (.sc undef)), (24, (.sc undef)), (25, (.sc undef)), (26, (.sc undef)), (27, (.sc undef)), (28, (.sc undef)), (29, (.sc undef)), (30, (.sc undef)), (31, (.sc undef)), (32, (.sc undef)), (33, (.sc undef)), (34, (.sc undef))] H := by kernel_rfl
theorem f70_body (p : Pr β) (n : Nat) (a0 : AV) (H : Heap) (k : AV → Heap → Option β) : evalBody ti0 p n ⟨c70, 35, Go.Proofs.Tryd.f70.results.toList, o70⟩ [a0] H k = f70 p n a0 H k := by
  rw [f70_raw]
  simp only [f70_l0_eq]
  rfl

/-! 30 loop.example/g00480/spec.SessOk -/
noncomputable def f30 (p : Pr β) (n : Nat) (a0 : AV) (H : Heap) (k : AV → Heap → Option β) : Option β :=
  p.box a0 H fun t1 H =>
  p.fadr 3 t1 fun t3 =>
  p.load false 1 t3 H fun t4 =>
  p.bin .eql t4 (.sc (.int .i64 (-1))) fun t5 =>
  p.guard t5 true H (fun k' => p.fadr 2 t1 fun t' => k' t' H) fun t7 H =>
  p.guard t5 true H (fun k' => p.load false 1 t7 H fun t' => k' t' H) fun t8 H =>
  p.guard t5 true H (fun k' => k' t8 H) fun t9 H =>
  p.guard t9 false H (fun k' => p.fadr 4 t1 fun t' => k' t' H) fun t10 H =>
  p.guard t9 false H (fun k' => p.load false 1 t10 H fun t' => k' t' H) fun t11 H =>
  p.guard t9 false H (fun k' => p.bin .neq t11 (.sc (.int .i64 0)) fun t' => k' t' H) fun t12 H =>
  p.guard t5 true H (fun k' => p.pick t9 (.sc (.bool true)) t12 fun t' => k' t' H) fun t13 H =>
  p.pick t5 t13 (.sc (.bool false)) fun t14 =>
  p.cond t14
  (k (.sc (.bool false)) H)
  (p.fadr 0 t1 fun t15 =>
  p.load false 1 t15 H fun t16 =>
  p.call 4 (.fn 69 [] []) [t16] H fun t17 H =>
  p.guard t17 true H (fun k' => p.fadr 0 t1 fun t' => k' t' H) fun t19 H =>
  p.guard t17 true H (fun k' => p.load false 1 t19 H fun t' => k' t' H) fun t20 H =>
  p.guard t17 true H (fun k' => p.bin .neq t20 (.sc (.string ⟨#[]⟩)) fun t' => k' t' H) fun t21 H =>
  p.pick t17 t21 (.sc (.bool false)) fun t22 =>
  p.guard t22 true H (fun k' => p.fadr 1 t1 fun t' => k' t' H) fun t24 H =>
  p.guard t22 true H (fun k' => p.load false 1 t24 H fun t' => k' t' H) fun t25 H =>
  p.guard t22 true H (fun k' => p.bin .geq t25 (.sc (.int .i64 0)) fun t' => k' t' H) fun t26 H =>
  p.pick t22 t26 (.sc (.bool false)) fun t27 =>
  p.guard t27 true H (fun k' => p.fadr 3 t1 fun t' => k' t' H) fun t29 H =>
  p.guard t27 true H (fun k' => p.load false 1 t29 H fun t' => k' t' H) fun t30 H =>
  p.guard t27 true H (fun k' => p.call 4 (.fn 54 [] []) [t30, (.sc (.int .i64 (-1))), (.sc (.int .i64 3))] H fun t' H => k' t' H) fun t31 H =>
  p.pick t27 t31 (.sc (.bool false)) fun t32 =>
  p.guard t32 true H (fun k' => p.fadr 4 t1 fun t' => k' t' H) fun t34 H =>
  p.guard t32 true H (fun k' => p.load false 1 t34 H fun t' => k' t' H) fun t35 H =>
  p.guard t32 true H (fun k' => p.bin .geq t35 (.sc (.int .i64 0)) fun t' => k' t' H) fun t36 H =>
  p.pick t32 t36 (.sc (.bool false)) fun t37 =>
  p.guard t37 true H (fun k' => p.fadr 5 t1 fun t' => k' t' H) fun t39 H =>
  p.guard t37 true H (fun k' => p.load true 3 t39 H fun t' => k' t' H) fun t40 H =>
  p.guard t37 true H (fun k' => p.call 4 (.fn 23 [] []) [t40] H fun t' H => k' t' H) fun t41 H =>
  p.pick t37 t41 (.sc (.bool false)) fun t42 =>
  p.guard t42 true H (fun k' => p.fadr 8 t1 fun t' => k' t' H) fun t44 H =>
  p.guard t42 true H (fun k' => p.load false 1 t44 H fun t' => k' t' H) fun t45 H =>
  p.guard t42 true H (fun k' => p.call 4 (.fn 70 [] []) [t45] H fun t' H => k' t' H) fun t46 H =>
  p.pick t42 t46 (.sc (.bool false)) fun t47 =>
  k t47 H)
theorem f30_body (p : Pr β) (n : Nat) (a0 : AV) (H : Heap) (k : AV → Heap → Option β) : evalBody ti0 p n ⟨c30, 48, Go.Proofs.Tryd.f30.results.toList, o30⟩ [a0] H k = f30 p n a0 H k := by kernel_rfl

/-! 48 loop.example/g00480/spec.SessNew -/
noncomputable def f48 (p : Pr β) (n : Nat) (a0 a1 a2 a3 a4 : AV) (H : Heap) (k : AV → Heap → Option β) : Option β :=
  p.new [(.sc (.string ⟨#[]⟩)), (.sc (.int .i64 0)), (.sc (.bool false)), (.sc (.int .i64 0)), (.sc (.int .i64 0)), (.sc (.int .i64 0)), .nl, .nl, .nl] H fun t10 H =>
  p.fill [(.sc (.string ⟨#[]⟩)), (.sc (.int .i64 0)), (.sc (.bool false)), (.sc (.int .i64 0)), (.sc (.int .i64 0)), (.sc (.int .i64 0)), .nl, .nl, .nl] [(0, 1, a0), (1, 1, a1), (2, 1, a2), (3, 1, a3), (4, 1, a4)] fun ct17 =>
  p.new [(.sc (.string ⟨#[]⟩)), (.sc (.int .i64 0)), (.sc (.bool false)), (.sc (.int .i64 0)), (.sc (.int .i64 0)), (.sc (.int .i64 0)), .nl, .nl, .nl] H fun t11 H =>
  p.store 9 t11 (.agg ct17) H fun H =>
  p.load true 9 t11 H fun t18 =>
  p.call 4 (.fn 30 [] []) [t18] H fun t19 H =>
  p.un .not t19 fun t20 =>
  p.cond t20
  (p.fill [(.sc (.string ⟨#[]⟩)), (.sc (.int .i64 0)), (.sc (.bool false)), (.sc (.int .i64 0)), (.sc (.int .i64 0)), (.sc (.int .i64 0)), .nl, .nl, .nl] [] fun ct21 =>
  p.store 9 t10 (.agg ct21) H fun H =>
  p.load true 9 t10 H fun r0 =>
  k r0 H)
  (p.load true 9 t11 H fun t22 =>
  p.store 9 t10 t22 H fun H =>
  p.load true 9 t10 H fun r0 =>
  k r0 H)
theorem f48_body (p : Pr β) (n : Nat) (a0 a1 a2 a3 a4 : AV) (H : Heap) (k : AV → Heap → Option β) : evalBody ti0 p n ⟨c48, 23, Go.Proofs.Tryd.f48.results.toList, o48⟩ [a0, a1, a2, a3, a4] H k = f48 p n a0 a1 a2 a3 a4 H k := by kernel_rfl

/-! 72 loop.example/g00480/impl.nameOk -/
noncomputable def f72 (p : Pr β) (n : Nat) (a0 : AV) (H : Heap) (k : AV → Heap → Option β) : Option β :=
  p.call 4 (.fn 96 [] []) [a0] H fun t4 H =>
  p.guard t4 true H (fun k' => k' a0 H) fun t6 H =>
  p.guard t4 true H (fun k' => p.bin .neq t6 (.sc (.string ⟨#[]⟩)) fun t' => k' t' H) fun t7 H =>
  p.pick t4 t7 (.sc (.bool false)) fun t8 =>
  k t8 H
theorem f72_body (p : Pr β) (n : Nat) (a0 : AV) (H : Heap) (k : AV → Heap → Option β) : evalBody ti0 p n ⟨c72, 9, Go.Proofs.Tryd.f72.results.toList, o72⟩ [a0] H k = f72 p n a0 H k := by kernel_rfl

/-! 73 loop.example/g00480/impl.placeOk -/
noncomputable def f73 (p : Pr β) (n : Nat) (a0 a1 a2 : AV) (H : Heap) (k : AV → Heap → Option β) : Option β :=
  p.bin .eql a1 (.sc (.int .i64 (-1))) fun t8 =>
  p.cond t8
  (p.un .not a0 fun t10 =>
  p.guard t10 true H (fun k' => k' a2 H) fun t12 H =>
  p.guard t10 true H (fun k' => p.bin .eql t12 (.sc (.int .i64 0)) fun t' => k' t' H) fun t13 H =>
  p.pick t10 t13 (.sc (.bool false)) fun t14 =>
  k t14 H)
  (p.call 4 (.fn 65 [] []) [a1, (.sc (.int .i64 0)), (.sc (.int .i64 3))] H fun t16 H =>
  p.guard t16 true H (fun k' => k' a2 H) fun t18 H =>
  p.guard t16 true H (fun k' => p.bin .geq t18 (.sc (.int .i64 0)) fun t' => k' t' H) fun t19 H =>
  p.pick t16 t19 (.sc (.bool false)) fun t20 =>
  k t20 H)
theorem f73_body (p : Pr β) (n : Nat) (a0 a1 a2 : AV) (H : Heap) (k : AV → Heap → Option β) : evalBody ti0 p n ⟨c73, 21, Go.Proofs.Tryd.f73.results.toList, o73⟩ [a0, a1, a2] H k = f73 p n a0 a1 a2 H k := by kernel_rfl

/-! 74 loop.example/g00480/impl.InOk -/
noncomputable def f74_l0 (p : Pr β) (n : Nat)  (k : AV → Heap → Option β) : Nat → AV → AV → AV → AV → Heap → Option β
  | 0, _, _, _, _, _ => none
  | m + 1, t0, t5, t6, t7, H => p.bin .lss t7 t6 fun t8 =>
      p.cond t8
      (p.iadr 1 t5 t7 fun t10 =>
      p.load false 1 t10 H fun t11 =>
      p.call 4 (.fn 63 [] []) [t11] H fun t13 H =>
      p.un .not t13 fun t14 =>
      p.guard t14 false H (fun k' => k' t7 H) fun t16 H =>
      p.guard t14 false H (fun k' => p.bin .gtr t16 (.sc (.int .i64 0)) fun t' => k' t' H) fun t17 H =>
      p.guard t14 false H (fun k' => k' t17 H) fun t18 H =>
      p.guard t18 true H (fun k' => k' t0 H) fun t19 H =>
      p.guard t18 true H (fun k' => k' t7 H) fun t20 H =>
      p.guard t18 true H (fun k' => p.bin .sub t20 (.sc (.int .i64 1)) fun t' => k' t' H) fun t21 H =>
      p.guard t18 true H (fun k' => p.iadr 1 t19 t21 fun t' => k' t' H) fun t22 H =>
      p.guard t18 true H (fun k' => p.load false 1 t22 H fun t' => k' t' H) fun t23 H =>
      p.guard t18 true H (fun k' => k' t11 H) fun t24 H =>
      p.guard t18 true H (fun k' => p.bin .geq t23 t24 fun t' => k' t' H) fun t25 H =>
      p.guard t14 false H (fun k' => p.pick t18 t25 (.sc (.bool false)) fun t' => k' t' H) fun t26 H =>
      p.pick t14 (.sc (.bool true)) t26 fun t27 =>
      p.cond t27
      (k (.sc (.bool false)) H)
      (p.bin .add t7 (.sc (.int .i64 1)) fun t28 =>
      f74_l0 p n  k m t0 t5 t6 t28 H))
      (p.len t0 fun t30 =>
      p.bin .leq t30 (.sc (.int .i64 4)) fun t31 =>
      k t31 H)
noncomputable def f74 (p : Pr β) (n : Nat) (a0 : AV) (H : Heap) (k : AV → Heap → Option β) : Option β :=
  p.len a0 fun t6 =>
  f74_l0 p n  k n a0 a0 t6 (.sc (.int .i64 0)) H
noncomputable def f74_L0 (p : Pr β) (n : Nat)  (k : AV → Heap → Option β) (m : Nat) (tm : Tm) (H : Heap) : Option β :=
  iterC 32 (fun tm H k => evalCode ti0 p o74 32 n (cd c74 [1, 0, 1, 0, 0]) tm H k) (blkK 0 (seqK (fun tm H => evalCode ti0 p o74 32 n (cd c74 [1, 1]) tm H (endK ti0 p Go.Proofs.Tryd.f74.results.toList k)) (endK ti0 p Go.Proofs.Tryd.f74.results.toList k))) m tm H
theorem f74_L0_step (p : Pr β) (n : Nat)  (k : AV → Heap → Option β) (m0 : Nat) (t0 t1 t2 t3 t4 t5 t6 t7 t8 t9 t10 t11 t12 t13 t14 t15 t16 t17 t18 t19 t20 t21 t22 t23 t24 t25 t26 t27 t28 t29 t30 t31 : AV) (H : Heap) : f74_L0 p n  k (m0 + 1) [(0, t0), (1, t1), (2, t2), (3, t3), (4, t4), (5, t5), (6, t6), (7, t7), (8, t8), (9, t9), (10, t10), (11, t11), (12, t12), (13, t13), (14, t14), (15, t15), (16, t16), (17, t17), (18, t18), (19, t19), (20, t20), (21, t21), (22, t22), (23, t23), (24, t24), (25, t25), (26, t26), (27, t27), (28, t28), (29, t29), (30, t30), (31, t31)] H =
  p.bin .lss t7 t6 fun t8 =>
  p.cond t8
  (p.iadr 1 t5 t7 fun t10 =>
  p.load false 1 t10 H fun t11 =>
  p.call 4 (.fn 63 [] []) [t11] H fun t13 H =>
  p.un .not t13 fun t14 =>
  p.guard t14 false H (fun k' => k' t7 H) fun t16 H =>
  p.guard t14 false H (fun k' => p.bin .gtr t16 (.sc (.int .i64 0)) fun t' => k' t' H) fun t17 H =>
  p.guard t14 false H (fun k' => k' t17 H) fun t18 H =>
  p.guard t18 true H (fun k' => k' t0 H) fun t19 H =>
  p.guard t18 true H (fun k' => k' t7 H) fun t20 H =>
  p.guard t18 true H (fun k' => p.bin .sub t20 (.sc (.int .i64 1)) fun t' => k' t' H) fun t21 H =>
  p.guard t18 true H (fun k' => p.iadr 1 t19 t21 fun t' => k' t' H) fun t22 H =>
  p.guard t18 true H (fun k' => p.load false 1 t22 H fun t' => k' t' H) fun t23 H =>
  p.guard t18 true H (fun k' => k' t11 H) fun t24 H =>
  p.guard t18 true H (fun k' => p.bin .geq t23 t24 fun t' => k' t' H) fun t25 H =>
  p.guard t14 false H (fun k' => p.pick t18 t25 (.sc (.bool false)) fun t' => k' t' H) fun t26 H =>
  p.pick t14 (.sc (.bool true)) t26 fun t27 =>
  p.cond t27
  (k (.sc (.bool false)) H)
  (p.bin .add t7 (.sc (.int .i64 1)) fun t28 =>
  f74_L0 p n  k m0 [(0, t0), (1, t1), (2, t2), (3, t7), (4, t11), (5, t5), (6, t6), (7, t28), (8, t8), (9, t7), (10, t10), (11, t11), (12, t11), (13, t13), (14, t14), (15, t14), (16, t16), (17, t17), (18, t18), (19, t19), (20, t20), (21, t21), (22, t22), (23, t23), (24, t24), (25, t25), (26, t26), (27, t27), (28, t28), (29, t29), (30, t30), (31, t31)] H))
  (p.len t0 fun t30 =>
  p.bin .leq t30 (.sc (.int .i64 4)) fun t31 =>
  k t31 H) := by kernel_rfl
theorem f74_l0_eq (p : Pr β) (n : Nat)  (k : AV → Heap → Option β)   (m0 : Nat) : ∀ (t0 t1 t2 t3 t4 t5 t6 t7 t8 t9 t10 t11 t12 t13 t14 t15 t16 t17 t18 t19 t20 t21 t22 t23 t24 t25 t26 t27 t28 t29 t30 t31 : AV) (H : Heap), f74_L0 p n  k m0 [(0, t0), (1, t1), (2, t2), (3, t3), (4, t4), (5, t5), (6, t6), (7, t7), (8, t8), (9, t9), (10, t10), (11, t11), (12, t12), (13, t13), (14, t14), (15, t15), (16, t16), (17, t17), (18, t18), (19, t19), (20, t20), (21, t21), (22, t22), (23, t23), (24, t24), (25, t25), (26, t26), (27, t27), (28, t28), (29, t29), (30, t30), (31, t31)] H = f74_l0 p n  k m0 t0 t5 t6 t7 H := by
  induction m0 with
  | zero => intros; rfl
  | succ m0 ih =>
    intro t0 t1 t2 t3 t4 t5 t6 t7 t8 t9 t10 t11 t12 t13 t14 t15 t16 t17 t18 t19 t20 t21 t22 t23 t24 t25 t26 t27 t28 t29 t30 t31 H
    rw [f74_L0_step]
    simp only [ih]
    rfl
theorem f74_raw (p : Pr β) (n : Nat) (a0 : AV) (H : Heap) (k : AV → Heap → Option β) : evalBody ti0 p n ⟨c74, 32, Go.Proofs.Tryd.f74.results.toList, o74⟩ [a0] H k =
  p.len a0 fun t6 =>
  f74_L0 p n  k n [(0, a0), (1, (.sc undef)), (2, (.sc (.bool false))), (3, (.sc undef)), (4, (.sc undef)), (5, a0), (6, t6), (7, (.sc (.int .i64 0))), (8, (.sc undef)), (9, (.sc undef)), (10, (.sc undef)), (11, (.sc undef)), (12, (.sc undef)), (13, (.sc undef)), (14, (.sc undef)), (15, (.sc undef)), (16, (.sc undef)), (17, (.sc undef)), (18, (.sc undef)), (19, (.sc undef)), (20, (.sc undef)), (21, (.sc undef)), (22, (.sc undef)), (23, (.sc undef)), (24, (.sc undef)), (25, (.sc undef)), (26, (.sc undef)), (27, (.sc undef)), (28, (.sc undef)), (29, (.sc undef)), (30, (.sc undef)), (31, (.sc undef))] H := by kernel_rfl
theorem f74_body (p : Pr β) (n : Nat) (a0 : AV) (H : Heap) (k : AV → Heap → Option β) : evalBody ti0 p n ⟨c74, 32, Go.Proofs.Tryd.f74.results.toList, o74⟩ [a0] H k = f74 p n a0 H k := by
  rw [f74_raw]
  simp only [f74_l0_eq]
  rfl

/-! 32 loop.example/g00480/impl.SessOk -/
noncomputable def f32 (p : Pr β) (n : Nat) (a0 : AV) (H : Heap) (k : AV → Heap → Option β) : Option β :=
  p.box a0 H fun t1 H =>
  p.fadr 0 t1 fun t3 =>
  p.load false 1 t3 H fun t4 =>
  p.call 4 (.fn 72 [] []) [t4] H fun t5 H =>
  p.guard t5 true H (fun k' => p.fadr 1 t1 fun t' => k' t' H) fun t7 H =>
  p.guard t5 true H (fun k' => p.load false 1 t7 H fun t' => k' t' H) fun t8 H =>
  p.guard t5 true H (fun k' => p.bin .geq t8 (.sc (.int .i64 0)) fun t' => k' t' H) fun t9 H =>
  p.pick t5 t9 (.sc (.bool false)) fun t10 =>
  p.guard t10 true H (fun k' => p.fadr 2 t1 fun t' => k' t' H) fun t12 H =>
  p.guard t10 true H (fun k' => p.load false 1 t12 H fun t' => k' t' H) fun t13 H =>
  p.guard t10 true H (fun k' => p.fadr 3 t1 fun t' => k' t' H) fun t14 H =>
  p.guard t10 true H (fun k' => p.load false 1 t14 H fun t' => k' t' H) fun t15 H =>
  p.guard t10 true H (fun k' => p.fadr 4 t1 fun t' => k' t' H) fun t16 H =>
  p.guard t10 true H (fun k' => p.load false 1 t16 H fun t' => k' t' H) fun t17 H =>
  p.guard t10 true H (fun k' => p.call 4 (.fn 73 [] []) [t13, t15, t17] H fun t' H => k' t' H) fun t18 H =>
  p.pick t10 t18 (.sc (.bool false)) fun t19 =>
  p.guard t19 true H (fun k' => p.fadr 5 t1 fun t' => k' t' H) fun t21 H =>
  p.guard t19 true H (fun k' => p.load true 3 t21 H fun t' => k' t' H) fun t22 H =>
  p.guard t19 true H (fun k' => p.call 4 (.fn 25 [] []) [t22] H fun t' H => k' t' H) fun t23 H =>
  p.pick t19 t23 (.sc (.bool false)) fun t24 =>
  p.guard t24 true H (fun k' => p.fadr 8 t1 fun t' => k' t' H) fun t26 H =>
  p.guard t24 true H (fun k' => p.load false 1 t26 H fun t' => k' t' H) fun t27 H =>
  p.guard t24 true H (fun k' => p.call 4 (.fn 74 [] []) [t27] H fun t' H => k' t' H) fun t28 H =>
  p.pick t24 t28 (.sc (.bool false)) fun t29 =>
  k t29 H
theorem f32_body (p : Pr β) (n : Nat) (a0 : AV) (H : Heap) (k : AV → Heap → Option β) : evalBody ti0 p n ⟨c32, 30, Go.Proofs.Tryd.f32.results.toList, o32⟩ [a0] H k = f32 p n a0 H k := by kernel_rfl

/-! 49 loop.example/g00480/impl.SessNew -/
noncomputable def f49 (p : Pr β) (n : Nat) (a0 a1 a2 a3 a4 : AV) (H : Heap) (k : AV → Heap → Option β) : Option β :=
  p.new [(.sc (.string ⟨#[]⟩)), (.sc (.int .i64 0)), (.sc (.bool false)), (.sc (.int .i64 0)), (.sc (.int .i64 0)), (.sc (.int .i64 0)), .nl, .nl, .nl] H fun t10 H =>
  p.fill [(.sc (.string ⟨#[]⟩)), (.sc (.int .i64 0)), (.sc (.bool false)), (.sc (.int .i64 0)), (.sc (.int .i64 0)), (.sc (.int .i64 0)), .nl, .nl, .nl] [(0, 1, a0), (1, 1, a1), (2, 1, a2), (3, 1, a3), (4, 1, a4)] fun ct17 =>
  p.new [(.sc (.string ⟨#[]⟩)), (.sc (.int .i64 0)), (.sc (.bool false)), (.sc (.int .i64 0)), (.sc (.int .i64 0)), (.sc (.int .i64 0)), .nl, .nl, .nl] H fun t11 H =>
  p.store 9 t11 (.agg ct17) H fun H =>
  p.load true 9 t11 H fun t18 =>
  p.call 4 (.fn 32 [] []) [t18] H fun t19 H =>
  p.un .not t19 fun t20 =>
  p.cond t20
  (p.fill [(.sc (.string ⟨#[]⟩)), (.sc (.int .i64 0)), (.sc (.bool false)), (.sc (.int .i64 0)), (.sc (.int .i64 0)), (.sc (.int .i64 0)), .nl, .nl, .nl] [] fun ct21 =>
  p.store 9 t10 (.agg ct21) H fun H =>
  p.load true 9 t10 H fun r0 =>
  k r0 H)
  (p.load true 9 t11 H fun t22 =>
  p.store 9 t10 t22 H fun H =>
  p.load true 9 t10 H fun r0 =>
  k r0 H)
theorem f49_body (p : Pr β) (n : Nat) (a0 a1 a2 a3 a4 : AV) (H : Heap) (k : AV → Heap → Option β) : evalBody ti0 p n ⟨c49, 23, Go.Proofs.Tryd.f49.results.toList, o49⟩ [a0, a1, a2, a3, a4] H k = f49 p n a0 a1 a2 a3 a4 H k := by kernel_rfl

/-! 75 loop.example/g00480/laws.eqIntS -/
noncomputable def f75_l0 (p : Pr β) (n : Nat)  (k : AV → Heap → Option β) : Nat → AV → AV → AV → Heap → Option β
  | 0, _, _, _, _ => none
  | m + 1, t0, t1, t5, H => p.len t0 fun t13 =>
      p.bin .lss t5 t13 fun t14 =>
      p.cond t14
      (p.iadr 1 t0 t5 fun t19 =>
      p.load false 1 t19 H fun t20 =>
      p.iadr 1 t1 t5 fun t23 =>
      p.load false 1 t23 H fun t24 =>
      p.bin .neq t20 t24 fun t25 =>
      p.cond t25
      (k (.sc (.bool false)) H)
      (p.bin .add t5 (.sc (.int .i64 1)) fun t16 =>
      f75_l0 p n  k m t0 t1 t16 H))
      (k (.sc (.bool true)) H)
noncomputable def f75 (p : Pr β) (n : Nat) (a0 a1 : AV) (H : Heap) (k : AV → Heap → Option β) : Option β :=
  p.len a0 fun t7 =>
  p.len a1 fun t9 =>
  p.bin .neq t7 t9 fun t10 =>
  p.cond t10
  (k (.sc (.bool false)) H)
  (f75_l0 p n  k n a0 a1 (.sc (.int .i64 0)) H)
noncomputable def f75_L0 (p : Pr β) (n : Nat)  (k : AV → Heap → Option β) (m : Nat) (tm : Tm) (H : Heap) : Option β :=
  iterC 26 (fun tm H k => evalCode ti0 p o75 26 n (cd c75 [1, 1, 0, 1, 0, 0]) tm H k) (blkK 0 (seqK (fun tm H => evalCode ti0 p o75 26 n (cd c75 [1, 1, 1]) tm H (endK ti0 p Go.Proofs.Tryd.f75.results.toList k)) (endK ti0 p Go.Proofs.Tryd.f75.results.toList k))) m tm H
theorem f75_L0_step (p : Pr β) (n : Nat)  (k : AV → Heap → Option β) (m0 : Nat) (t0 t1 t2 t3 t4 t5 t6 t7 t8 t9 t10 t11 t12 t13 t14 t15 t16 t17 t18 t19 t20 t21 t22 t23 t24 t25 : AV) (H : Heap) : f75_L0 p n  k (m0 + 1) [(0, t0), (1, t1), (2, t2), (3, t3), (4, t4), (5, t5), (6, t6), (7, t7), (8, t8), (9, t9), (10, t10), (11, t11), (12, t12), (13, t13), (14, t14), (15, t15), (16, t16), (17, t17), (18, t18), (19, t19), (20, t20), (21, t21), (22, t22), (23, t23), (24, t24), (25, t25)] H =
  p.len t0 fun t13 =>
  p.bin .lss t5 t13 fun t14 =>
  p.cond t14
  (p.iadr 1 t0 t5 fun t19 =>
  p.load false 1 t19 H fun t20 =>
  p.iadr 1 t1 t5 fun t23 =>
  p.load false 1 t23 H fun t24 =>
  p.bin .neq t20 t24 fun t25 =>
  p.cond t25
  (k (.sc (.bool false)) H)
  (p.bin .add t5 (.sc (.int .i64 1)) fun t16 =>
  f75_L0 p n  k m0 [(0, t0), (1, t1), (2, t2), (3, t3), (4, t4), (5, t16), (6, t6), (7, t7), (8, t8), (9, t9), (10, t10), (11, t5), (12, t0), (13, t13), (14, t14), (15, t5), (16, t16), (17, t0), (18, t5), (19, t19), (20, t20), (21, t1), (22, t5), (23, t23), (24, t24), (25, t25)] H))
  (k (.sc (.bool true)) H) := by kernel_rfl
theorem f75_l0_eq (p : Pr β) (n : Nat)  (k : AV → Heap → Option β)   (m0 : Nat) : ∀ (t0 t1 t2 t3 t4 t5 t6 t7 t8 t9 t10 t11 t12 t13 t14 t15 t16 t17 t18 t19 t20 t21 t22 t23 t24 t25 : AV) (H : Heap), f75_L0 p n  k m0 [(0, t0), (1, t1), (2, t2), (3, t3), (4, t4), (5, t5), (6, t6), (7, t7), (8, t8), (9, t9), (10, t10), (11, t11), (12, t12), (13, t13), (14, t14), (15, t15), (16, t16), (17, t17), (18, t18), (19, t19), (20, t20), (21, t21), (22, t22), (23, t23), (24, t24), (25, t25)] H = f75_l0 p n  k m0 t0 t1 t5 H := by
  induction m0 with
  | zero => intros; rfl
  | succ m0 ih =>
    intro t0 t1 t2 t3 t4 t5 t6 t7 t8 t9 t10 t11 t12 t13 t14 t15 t16 t17 t18 t19 t20 t21 t22 t23 t24 t25 H
    rw [f75_L0_step]
    simp only [ih]
    rfl
theorem f75_raw (p : Pr β) (n : Nat) (a0 a1 : AV) (H : Heap) (k : AV → Heap → Option β) : evalBody ti0 p n ⟨c75, 26, Go.Proofs.Tryd.f75.results.toList, o75⟩ [a0, a1] H k =
  p.len a0 fun t7 =>
  p.len a1 fun t9 =>
  p.bin .neq t7 t9 fun t10 =>
  p.cond t10
  (k (.sc (.bool false)) H)
  (f75_L0 p n  k n [(0, a0), (1, a1), (2, (.sc undef)), (3, (.sc undef)), (4, (.sc (.bool false))), (5, (.sc (.int .i64 0))), (6, a0), (7, t7), (8, a1), (9, t9), (10, t10), (11, (.sc undef)), (12, (.sc undef)), (13, (.sc undef)), (14, (.sc undef)), (15, (.sc undef)), (16, (.sc undef)), (17, (.sc undef)), (18, (.sc undef)), (19, (.sc undef)), (20, (.sc undef)), (21, (.sc undef)), (22, (.sc undef)), (23, (.sc undef)), (24, (.sc undef)), (25, (.sc undef))] H) := by kernel_rfl
theorem f75_body (p : Pr β) (n : Nat) (a0 a1 : AV) (H : Heap) (k : AV → Heap → Option β) : evalBody ti0 p n ⟨c75, 26, Go.Proofs.Tryd.f75.results.toList, o75⟩ [a0, a1] H k = f75 p n a0 a1 H k := by
  rw [f75_raw]
  simp only [f75_l0_eq]
  rfl

/-! 33 loop.example/g00480/laws.eqSess -/
noncomputable def f33 (p : Pr β) (n : Nat) (a0 a1 : AV) (H : Heap) (k : AV → Heap → Option β) : Option β :=
  p.box a0 H fun t2 H =>
  p.box a1 H fun t3 H =>
  p.fadr 0 t2 fun t5 =>
  p.load false 1 t5 H fun t6 =>
  p.fadr 0 t3 fun t7 =>
  p.load false 1 t7 H fun t8 =>
  p.bin .neq t6 t8 fun t9 =>
  p.cond t9
  (k (.sc (.bool false)) H)
  (p.fadr 1 t2 fun t10 =>
  p.load false 1 t10 H fun t11 =>
  p.fadr 1 t3 fun t12 =>
  p.load false 1 t12 H fun t13 =>
  p.bin .neq t11 t13 fun t14 =>
  p.cond t14
  (k (.sc (.bool false)) H)
  (p.fadr 2 t2 fun t15 =>
  p.load false 1 t15 H fun t16 =>
  p.fadr 2 t3 fun t17 =>
  p.load false 1 t17 H fun t18 =>
  p.binB .neq t16 t18 fun t19 =>
  p.cond t19
  (k (.sc (.bool false)) H)
  (p.fadr 3 t2 fun t20 =>
  p.load false 1 t20 H fun t21 =>
  p.fadr 3 t3 fun t22 =>
  p.load false 1 t22 H fun t23 =>
  p.bin .neq t21 t23 fun t24 =>
  p.cond t24
  (k (.sc (.bool false)) H)
  (p.fadr 4 t2 fun t25 =>
  p.load false 1 t25 H fun t26 =>
  p.fadr 4 t3 fun t27 =>
  p.load false 1 t27 H fun t28 =>
  p.bin .neq t26 t28 fun t29 =>
  p.cond t29
  (k (.sc (.bool false)) H)
  (p.fadr 5 t2 fun t30 =>
  p.load true 3 t30 H fun t31 =>
  p.fadr 5 t3 fun t32 =>
  p.load true 3 t32 H fun t33 =>
  p.call 4 (.fn 26 [] []) [t31, t33] H fun t34 H =>
  p.un .not t34 fun t35 =>
  p.cond t35
  (k (.sc (.bool false)) H)
  (p.fadr 8 t2 fun t36 =>
  p.load false 1 t36 H fun t37 =>
  p.fadr 8 t3 fun t38 =>
  p.load false 1 t38 H fun t39 =>
  p.call 4 (.fn 75 [] []) [t37, t39] H fun t40 H =>
  p.un .not t40 fun t41 =>
  p.cond t41
  (k (.sc (.bool false)) H)
  (k (.sc (.bool true)) H)))))))
theorem f33_body (p : Pr β) (n : Nat) (a0 a1 : AV) (H : Heap) (k : AV → Heap → Option β) : evalBody ti0 p n ⟨c33, 42, Go.Proofs.Tryd.f33.results.toList, o33⟩ [a0, a1] H k = f33 p n a0 a1 H k := by kernel_rfl

/-! 92 loop.example/g00480/laws.markIntS -/
noncomputable def f92_l0 (p : Pr β) (n : Nat)  (k : AV → Heap → Option β) : Nat → AV → AV → AV → Heap → Option β
  | 0, _, _, _, _ => none
  | m + 1, t0, t1, t5, H => p.len t0 fun t8 =>
      p.bin .lss t5 t8 fun t9 =>
      p.cond t9
      (p.iadr 1 t0 t5 fun t15 =>
      p.store 1 t15 t1 H fun H =>
      p.bin .add t1 (.sc (.int .i64 1)) fun t17 =>
      p.bin .add t5 (.sc (.int .i64 1)) fun t11 =>
      f92_l0 p n  k m t0 t17 t11 H)
      (k t1 H)
noncomputable def f92 (p : Pr β) (n : Nat) (a0 a1 : AV) (H : Heap) (k : AV → Heap → Option β) : Option β :=
  f92_l0 p n  k n a0 a1 (.sc (.int .i64 0)) H
noncomputable def f92_L0 (p : Pr β) (n : Nat)  (k : AV → Heap → Option β) (m : Nat) (tm : Tm) (H : Heap) : Option β :=
  iterC 19 (fun tm H k => evalCode ti0 p o92 19 n (cd c92 [1, 0, 1, 0, 0]) tm H k) (blkK 0 (seqK (fun tm H => evalCode ti0 p o92 19 n (cd c92 [1, 1]) tm H (endK ti0 p Go.Proofs.Tryd.f92.results.toList k)) (endK ti0 p Go.Proofs.Tryd.f92.results.toList k))) m tm H
theorem f92_L0_step (p : Pr β) (n : Nat)  (k : AV → Heap → Option β) (m0 : Nat) (t0 t1 t2 t3 t4 t5 t6 t7 t8 t9 t10 t11 t12 t13 t14 t15 t16 t17 t18 : AV) (H : Heap) : f92_L0 p n  k (m0 + 1) [(0, t0), (1, t1), (2, t2), (3, t3), (4, t4), (5, t5), (6, t6), (7, t7), (8, t8), (9, t9), (10, t10), (11, t11), (12, t12), (13, t13), (14, t14), (15, t15), (16, t16), (17, t17), (18, t18)] H =
  p.len t0 fun t8 =>
  p.bin .lss t5 t8 fun t9 =>
  p.cond t9
  (p.iadr 1 t0 t5 fun t15 =>
  p.store 1 t15 t1 H fun H =>
  p.bin .add t1 (.sc (.int .i64 1)) fun t17 =>
  p.bin .add t5 (.sc (.int .i64 1)) fun t11 =>
  f92_L0 p n  k m0 [(0, t0), (1, t17), (2, t2), (3, t3), (4, t4), (5, t11), (6, t5), (7, t0), (8, t8), (9, t9), (10, t5), (11, t11), (12, t0), (13, t5), (14, t1), (15, t15), (16, t1), (17, t17), (18, t18)] H)
  (k t1 H) := by kernel_rfl
theorem f92_l0_eq (p : Pr β) (n : Nat)  (k : AV → Heap → Option β)   (m0 : Nat) : ∀ (t0 t1 t2 t3 t4 t5 t6 t7 t8 t9 t10 t11 t12 t13 t14 t15 t16 t17 t18 : AV) (H : Heap), f92_L0 p n  k m0 [(0, t0), (1, t1), (2, t2), (3, t3), (4, t4), (5, t5), (6, t6), (7, t7), (8, t8), (9, t9), (10, t10), (11, t11), (12, t12), (13, t13), (14, t14), (15, t15), (16, t16), (17, t17), (18, t18)] H = f92_l0 p n  k m0 t0 t1 t5 H := by
  induction m0 with
  | zero => intros; rfl
  | succ m0 ih =>
    intro t0 t1 t2 t3 t4 t5 t6 t7 t8 t9 t10 t11 t12 t13 t14 t15 t16 t17 t18 H
    rw [f92_L0_step]
    simp only [ih]
    rfl
theorem f92_raw (p : Pr β) (n : Nat) (a0 a1 : AV) (H : Heap) (k : AV → Heap → Option β) : evalBody ti0 p n ⟨c92, 19, Go.Proofs.Tryd.f92.results.toList, o92⟩ [a0, a1] H k =
  f92_L0 p n  k n [(0, a0), (1, a1), (2, (.sc undef)), (3, (.sc undef)), (4, (.sc (.int .i64 0))), (5, (.sc (.int .i64 0))), (6, (.sc undef)), (7, (.sc undef)), (8, (.sc undef)), (9, (.sc undef)), (10, (.sc undef)), (11, (.sc undef)), (12, (.sc undef)), (13, (.sc undef)), (14, (.sc undef)), (15, (.sc undef)), (16, (.sc undef)), (17, (.sc undef)), (18, (.sc undef))] H := by kernel_rfl
theorem f92_body (p : Pr β) (n : Nat) (a0 a1 : AV) (H : Heap) (k : AV → Heap → Option β) : evalBody ti0 p n ⟨c92, 19, Go.Proofs.Tryd.f92.results.toList, o92⟩ [a0, a1] H k = f92 p n a0 a1 H k := by
  rw [f92_raw]
  simp only [f92_l0_eq]
  rfl

/-! 50 loop.example/g00480/laws.markSess -/
noncomputable def f50 (p : Pr β) (n : Nat) (a0 a1 : AV) (H : Heap) (k : AV → Heap → Option β) : Option β :=
  p.box a0 H fun t2 H =>
  p.fadr 5 t2 fun t5 =>
  p.load true 3 t5 H fun t6 =>
  p.call 3 (.fn 46 [] []) [t6, a1] H fun t8 H =>
  p.fadr 8 t2 fun t9 =>
  p.load false 1 t9 H fun t10 =>
  p.call 3 (.fn 92 [] []) [t10, t8] H fun t12 H =>
  k t12 H
theorem f50_body (p : Pr β) (n : Nat) (a0 a1 : AV) (H : Heap) (k : AV → Heap → Option β) : evalBody ti0 p n ⟨c50, 14, Go.Proofs.Tryd.f50.results.toList, o50⟩ [a0, a1] H k = f50 p n a0 a1 H k := by kernel_rfl

/-! 93 loop.example/g00480/laws.heldIntS -/
noncomputable def f93_l0 (p : Pr β) (n : Nat)  (k : AV → Heap → Option β) : Nat → AV → AV → AV → Heap → Option β
  | 0, _, _, _, _ => none
  | m + 1, t0, t1, t5, H => p.len t0 fun t8 =>
      p.bin .lss t5 t8 fun t9 =>
      p.cond t9
      (p.iadr 1 t0 t5 fun t14 =>
      p.load false 1 t14 H fun t15 =>
      p.bin .neq t15 t1 fun t17 =>
      p.cond t17
      (k (.sc (.int .i64 (-1))) H)
      (p.bin .add t1 (.sc (.int .i64 1)) fun t19 =>
      p.bin .add t5 (.sc (.int .i64 1)) fun t11 =>
      f93_l0 p n  k m t0 t19 t11 H))
      (k t1 H)
noncomputable def f93 (p : Pr β) (n : Nat) (a0 a1 : AV) (H : Heap) (k : AV → Heap → Option β) : Option β :=
  f93_l0 p n  k n a0 a1 (.sc (.int .i64 0)) H
noncomputable def f93_L0 (p : Pr β) (n : Nat)  (k : AV → Heap → Option β) (m : Nat) (tm : Tm) (H : Heap) : Option β :=
  iterC 21 (fun tm H k => evalCode ti0 p o93 21 n (cd c93 [1, 0, 1, 0, 0]) tm H k) (blkK 0 (seqK (fun tm H => evalCode ti0 p o93 21 n (cd c93 [1, 1]) tm H (endK ti0 p Go.Proofs.Tryd.f93.results.toList k)) (endK ti0 p Go.Proofs.Tryd.f93.results.toList k))) m tm H
theorem f93_L0_step (p : Pr β) (n : Nat)  (k : AV → Heap → Option β) (m0 : Nat) (t0 t1 t2 t3 t4 t5 t6 t7 t8 t9 t10 t11 t12 t13 t14 t15 t16 t17 t18 t19 t20 : AV) (H : Heap) : f93_L0 p n  k (m0 + 1) [(0, t0), (1, t1), (2, t2), (3, t3), (4, t4), (5, t5), (6, t6), (7, t7), (8, t8), (9, t9), (10, t10), (11, t11), (12, t12), (13, t13), (14, t14), (15, t15), (16, t16), (17, t17), (18, t18), (19, t19), (20, t20)] H =
  p.len t0 fun t8 =>
  p.bin .lss t5 t8 fun t9 =>
  p.cond t9
  (p.iadr 1 t0 t5 fun t14 =>
  p.load false 1 t14 H fun t15 =>
  p.bin .neq t15 t1 fun t17 =>
  p.cond t17
  (k (.sc (.int .i64 (-1))) H)
  (p.bin .add t1 (.sc (.int .i64 1)) fun t19 =>
  p.bin .add t5 (.sc (.int .i64 1)) fun t11 =>
  f93_L0 p n  k m0 [(0, t0), (1, t19), (2, t2), (3, t3), (4, t4), (5, t11), (6, t5), (7, t0), (8, t8), (9, t9), (10, t5), (11, t11), (12, t0), (13, t5), (14, t14), (15, t15), (16, t1), (17, t17), (18, t1), (19, t19), (20, t20)] H))
  (k t1 H) := by kernel_rfl
theorem f93_l0_eq (p : Pr β) (n : Nat)  (k : AV → Heap → Option β)   (m0 : Nat) : ∀ (t0 t1 t2 t3 t4 t5 t6 t7 t8 t9 t10 t11 t12 t13 t14 t15 t16 t17 t18 t19 t20 : AV) (H : Heap), f93_L0 p n  k m0 [(0, t0), (1, t1), (2, t2), (3, t3), (4, t4), (5, t5), (6, t6), (7, t7), (8, t8), (9, t9), (10, t10), (11, t11), (12, t12), (13, t13), (14, t14), (15, t15), (16, t16), (17, t17), (18, t18), (19, t19), (20, t20)] H = f93_l0 p n  k m0 t0 t1 t5 H := by
  induction m0 with
  | zero => intros; rfl
  | succ m0 ih =>
    intro t0 t1 t2 t3 t4 t5 t6 t7 t8 t9 t10 t11 t12 t13 t14 t15 t16 t17 t18 t19 t20 H
    rw [f93_L0_step]
    simp only [ih]
    rfl
theorem f93_raw (p : Pr β) (n : Nat) (a0 a1 : AV) (H : Heap) (k : AV → Heap → Option β) : evalBody ti0 p n ⟨c93, 21, Go.Proofs.Tryd.f93.results.toList, o93⟩ [a0, a1] H k =
  f93_L0 p n  k n [(0, a0), (1, a1), (2, (.sc undef)), (3, (.sc undef)), (4, (.sc (.int .i64 0))), (5, (.sc (.int .i64 0))), (6, (.sc undef)), (7, (.sc undef)), (8, (.sc undef)), (9, (.sc undef)), (10, (.sc undef)), (11, (.sc undef)), (12, (.sc undef)), (13, (.sc undef)), (14, (.sc undef)), (15, (.sc undef)), (16, (.sc undef)), (17, (.sc undef)), (18, (.sc undef)), (19, (.sc undef)), (20, (.sc undef))] H := by kernel_rfl
theorem f93_body (p : Pr β) (n : Nat) (a0 a1 : AV) (H : Heap) (k : AV → Heap → Option β) : evalBody ti0 p n ⟨c93, 21, Go.Proofs.Tryd.f93.results.toList, o93⟩ [a0, a1] H k = f93 p n a0 a1 H k := by
  rw [f93_raw]
  simp only [f93_l0_eq]
  rfl

/-! 51 loop.example/g00480/laws.heldSess -/
noncomputable def f51 (p : Pr β) (n : Nat) (a0 a1 : AV) (H : Heap) (k : AV → Heap → Option β) : Option β :=
  p.box a0 H fun t2 H =>
  p.fadr 5 t2 fun t5 =>
  p.load true 3 t5 H fun t6 =>
  p.call 3 (.fn 47 [] []) [t6, a1] H fun t8 H =>
  p.bin .lss t8 (.sc (.int .i64 0)) fun t10 =>
  p.cond t10
  (k (.sc (.int .i64 (-1))) H)
  (p.fadr 8 t2 fun t11 =>
  p.load false 1 t11 H fun t12 =>
  p.call 3 (.fn 93 [] []) [t12, t8] H fun t14 H =>
  p.bin .lss t14 (.sc (.int .i64 0)) fun t16 =>
  p.cond t16
  (k (.sc (.int .i64 (-1))) H)
  (k t14 H))
theorem f51_body (p : Pr β) (n : Nat) (a0 a1 : AV) (H : Heap) (k : AV → Heap → Option β) : evalBody ti0 p n ⟨c51, 18, Go.Proofs.Tryd.f51.results.toList, o51⟩ [a0, a1] H k = f51 p n a0 a1 H k := by kernel_rfl

/-! 11 loop.example/g00480/laws.FnExactSessNew -/
noncomputable def f11 (p : Pr β) (n : Nat) (a0 a1 a2 a3 a4 : AV) (H : Heap) (k : AV → Heap → Option β) : Option β :=
  p.lenS a0 fun t17 =>
  p.bin .gtr t17 (.sc (.int .i64 1048576)) fun t18 =>
  p.cond t18
  (k (.sc (.bool true)) H)
  (p.call 55 (.fn 48 [] []) [a0, a1, a2, a3, a4] H fun t24 H =>
  p.new [(.sc (.string ⟨#[]⟩)), (.sc (.int .i64 0)), (.sc (.bool false)), (.sc (.int .i64 0)), (.sc (.int .i64 0)), (.sc (.int .i64 0)), .nl, .nl, .nl] H fun t11 H =>
  p.store 9 t11 t24 H fun H =>
  p.call 55 (.fn 49 [] []) [a0, a1, a2, a3, a4] H fun t30 H =>
  p.new [(.sc (.string ⟨#[]⟩)), (.sc (.int .i64 0)), (.sc (.bool false)), (.sc (.int .i64 0)), (.sc (.int .i64 0)), (.sc (.int .i64 0)), .nl, .nl, .nl] H fun t12 H =>
  p.store 9 t12 t30 H fun H =>
  p.load true 9 t12 H fun t31 =>
  p.load true 9 t11 H fun t32 =>
  p.call 4 (.fn 33 [] []) [t31, t32] H fun t33 H =>
  p.un .not t33 fun t34 =>
  p.cond t34
  (k (.sc (.bool false)) H)
  (p.load true 9 t12 H fun t35 =>
  p.call 3 (.fn 50 [] []) [t35, (.sc (.int .i64 1))] H fun t37 H =>
  p.load true 9 t12 H fun t38 =>
  p.call 3 (.fn 51 [] []) [t38, (.sc (.int .i64 1))] H fun t40 H =>
  p.bin .lss t40 (.sc (.int .i64 0)) fun t42 =>
  p.cond t42
  (k (.sc (.bool false)) H)
  (p.bin .neq t40 t37 fun t45 =>
  p.cond t45
  (k (.sc (.bool false)) H)
  (p.call 55 (.fn 49 [] []) [a0, a1, a2, a3, a4] H fun t51 H =>
  p.new [(.sc (.string ⟨#[]⟩)), (.sc (.int .i64 0)), (.sc (.bool false)), (.sc (.int .i64 0)), (.sc (.int .i64 0)), (.sc (.int .i64 0)), .nl, .nl, .nl] H fun t15 H =>
  p.store 9 t15 t51 H fun H =>
  p.load true 9 t15 H fun t52 =>
  p.load true 9 t11 H fun t53 =>
  p.call 4 (.fn 33 [] []) [t52, t53] H fun t54 H =>
  p.un .not t54 fun t55 =>
  p.cond t55
  (k (.sc (.bool false)) H)
  (p.load true 9 t12 H fun t56 =>
  p.call 3 (.fn 51 [] []) [t56, (.sc (.int .i64 1))] H fun t58 H =>
  p.bin .lss t58 (.sc (.int .i64 0)) fun t60 =>
  p.cond t60
  (k (.sc (.bool false)) H)
  (p.bin .neq t58 t37 fun t63 =>
  p.cond t63
  (k (.sc (.bool false)) H)
  (k (.sc (.bool true)) H)))))))
theorem f11_body (p : Pr β) (n : Nat) (a0 a1 a2 a3 a4 : AV) (H : Heap) (k : AV → Heap → Option β) : evalBody ti0 p n ⟨c11, 64, Go.Proofs.Tryd.f11.results.toList, o11⟩ [a0, a1, a2, a3, a4] H k = f11 p n a0 a1 a2 a3 a4 H k := by kernel_rfl

noncomputable def fss : List (Option FnI) := [none, none, none, none, none, none, none, none, none, some ⟨c9, 119, Go.Proofs.Tryd.f9.results.toList, o9⟩, some ⟨c10, 119, Go.Proofs.Tryd.f10.results.toList, o10⟩, some ⟨c11, 64, Go.Proofs.Tryd.f11.results.toList, o11⟩, some ⟨c12, 19, Go.Proofs.Tryd.f12.results.toList, o12⟩, some ⟨c13, 17, Go.Proofs.Tryd.f13.results.toList, o13⟩, some ⟨c14, 18, Go.Proofs.Tryd.f14.results.toList, o14⟩, some ⟨c15, 17, Go.Proofs.Tryd.f15.results.toList, o15⟩, some ⟨c16, 26, Go.Proofs.Tryd.f16.results.toList, o16⟩, some ⟨c17, 27, Go.Proofs.Tryd.f17.results.toList, o17⟩, some ⟨c18, 19, Go.Proofs.Tryd.f18.results.toList, o18⟩, some ⟨c19, 23, Go.Proofs.Tryd.f19.results.toList, o19⟩, some ⟨c20, 10, Go.Proofs.Tryd.f20.results.toList, o20⟩, some ⟨c21, 27, Go.Proofs.Tryd.f21.results.toList, o21⟩, some ⟨c22, 18, Go.Proofs.Tryd.f22.results.toList, o22⟩, some ⟨c23, 71, Go.Proofs.Tryd.f23.results.toList, o23⟩, some ⟨c24, 16, Go.Proofs.Tryd.f24.results.toList, o24⟩, some ⟨c25, 67, Go.Proofs.Tryd.f25.results.toList, o25⟩, some ⟨c26, 22, Go.Proofs.Tryd.f26.results.toList, o26⟩, none, none, none, some ⟨c30, 48, Go.Proofs.Tryd.f30.results.toList, o30⟩, none, some ⟨c32, 30, Go.Proofs.Tryd.f32.results.toList, o32⟩, some ⟨c33, 42, Go.Proofs.Tryd.f33.results.toList, o33⟩, none, none, none, none, none, some ⟨c39, 31, Go.Proofs.Tryd.f39.results.toList, o39⟩, some ⟨c40, 34, Go.Proofs.Tryd.f40.results.toList, o40⟩, some ⟨c41, 44, Go.Proofs.Tryd.f41.results.toList, o41⟩, some ⟨c42, 10, Go.Proofs.Tryd.f42.results.toList, o42⟩, some ⟨c43, 52, Go.Proofs.Tryd.f43.results.toList, o43⟩, some ⟨c44, 26, Go.Proofs.Tryd.f44.results.toList, o44⟩, some ⟨c45, 26, Go.Proofs.Tryd.f45.results.toList, o45⟩, some ⟨c46, 14, Go.Proofs.Tryd.f46.results.toList, o46⟩, some ⟨c47, 18, Go.Proofs.Tryd.f47.results.toList, o47⟩, some ⟨c48, 23, Go.Proofs.Tryd.f48.results.toList, o48⟩, some ⟨c49, 23, Go.Proofs.Tryd.f49.results.toList, o49⟩, some ⟨c50, 14, Go.Proofs.Tryd.f50.results.toList, o50⟩, some ⟨c51, 18, Go.Proofs.Tryd.f51.results.toList, o51⟩, some ⟨c52, 12, Go.Proofs.Tryd.f52.results.toList, o52⟩, some ⟨c53, 25, Go.Proofs.Tryd.f53.results.toList, o53⟩, some ⟨c54, 15, Go.Proofs.Tryd.f54.results.toList, o54⟩, some ⟨c55, 22, Go.Proofs.Tryd.f55.results.toList, o55⟩, some ⟨c56, 20, Go.Proofs.Tryd.f56.results.toList, o56⟩, some ⟨c57, 5, Go.Proofs.Tryd.f57.results.toList, o57⟩, some ⟨c58, 26, Go.Proofs.Tryd.f58.results.toList, o58⟩, some ⟨c59, 15, Go.Proofs.Tryd.f59.results.toList, o59⟩, some ⟨c60, 27, Go.Proofs.Tryd.f60.results.toList, o60⟩, some ⟨c61, 24, Go.Proofs.Tryd.f61.results.toList, o61⟩, some ⟨c62, 23, Go.Proofs.Tryd.f62.results.toList, o62⟩, some ⟨c63, 5, Go.Proofs.Tryd.f63.results.toList, o63⟩, some ⟨c64, 8, Go.Proofs.Tryd.f64.results.toList, o64⟩, some ⟨c65, 15, Go.Proofs.Tryd.f65.results.toList, o65⟩, some ⟨c66, 5, Go.Proofs.Tryd.f66.results.toList, o66⟩, some ⟨c67, 27, Go.Proofs.Tryd.f67.results.toList, o67⟩, none, some ⟨c69, 6, Go.Proofs.Tryd.f69.results.toList, o69⟩, some ⟨c70, 35, Go.Proofs.Tryd.f70.results.toList, o70⟩, none, some ⟨c72, 9, Go.Proofs.Tryd.f72.results.toList, o72⟩, some ⟨c73, 21, Go.Proofs.Tryd.f73.results.toList, o73⟩, some ⟨c74, 32, Go.Proofs.Tryd.f74.results.toList, o74⟩, some ⟨c75, 26, Go.Proofs.Tryd.f75.results.toList, o75⟩, none, none, none, none, none, some ⟨c81, 21, Go.Proofs.Tryd.f81.results.toList, o81⟩, some ⟨c82, 14, Go.Proofs.Tryd.f82.results.toList, o82⟩, some ⟨c83, 20, Go.Proofs.Tryd.f83.results.toList, o83⟩, some ⟨c84, 9, Go.Proofs.Tryd.f84.results.toList, o84⟩, some ⟨c85, 20, Go.Proofs.Tryd.f85.results.toList, o85⟩, some ⟨c86, 20, Go.Proofs.Tryd.f86.results.toList, o86⟩, some ⟨c87, 22, Go.Proofs.Tryd.f87.results.toList, o87⟩, some ⟨c88, 44, Go.Proofs.Tryd.f88.results.toList, o88⟩, some ⟨c89, 34, Go.Proofs.Tryd.f89.results.toList, o89⟩, some ⟨c90, 62, Go.Proofs.Tryd.f90.results.toList, o90⟩, some ⟨c91, 74, Go.Proofs.Tryd.f91.results.toList, o91⟩, some ⟨c92, 19, Go.Proofs.Tryd.f92.results.toList, o92⟩, some ⟨c93, 21, Go.Proofs.Tryd.f93.results.toList, o93⟩, some ⟨c94, 17, Go.Proofs.Tryd.f94.results.toList, o94⟩, some ⟨c95, 33, Go.Proofs.Tryd.f95.results.toList, o95⟩, none, none, some ⟨c98, 5, Go.Proofs.Tryd.f98.results.toList, o98⟩, some ⟨c99, 12, Go.Proofs.Tryd.f99.results.toList, o99⟩, some ⟨c100, 15, Go.Proofs.Tryd.f100.results.toList, o100⟩, some ⟨c101, 19, Go.Proofs.Tryd.f101.results.toList, o101⟩, some ⟨c102, 8, Go.Proofs.Tryd.f102.results.toList, o102⟩, some ⟨c103, 21, Go.Proofs.Tryd.f103.results.toList, o103⟩, some ⟨c104, 35, Go.Proofs.Tryd.f104.results.toList, o104⟩, some ⟨c105, 18, Go.Proofs.Tryd.f105.results.toList, o105⟩, none, none, none, some ⟨c109, 104, Go.Proofs.Tryd.f109.results.toList, o109⟩]
noncomputable def tps : List (Nat × List Nat) := [(70, [34, 3]), (75, [45, 3]), (121, [3, 3, 4]), (133, [132, 4]), (143, [21, 3]), (146, [145, 145])]
noncomputable def E0 : Env := { ti := ti0, tp := fun t => ordOf tps t, fs := fun f => (fss[f]?).getD none, ext := fun f => if Nat.beq f 96 then some ext96 else if Nat.beq f 97 then some ext97 else if Nat.beq f 108 then some ext108 else none, hm := fun f => [41, 42, 46, 50, 86, 90, 92, 114, 140, 141, 142, 143, 144].contains f }
noncomputable def PR (n : Nat) (β : Type) : Pr β := prims E0 (evalFn E0 n) β
theorem f52_eq (n : Nat) (a0 a1 : AV) (H : Heap) (k : AV → Heap → Option β) : evalFn E0 (n + 1) β 52 [a0, a1] H k = f52 (PR n β) n a0 a1 H k := f52_body (PR n β) n a0 a1 H k
theorem f12_eq (n : Nat) (a0 a1 : AV) (H : Heap) (k : AV → Heap → Option β) : evalFn E0 (n + 1) β 12 [a0, a1] H k = f12 (PR n β) n a0 a1 H k := f12_body (PR n β) n a0 a1 H k
theorem f17_eq (n : Nat) (a0 a1 : AV) (H : Heap) (k : AV → Heap → Option β) : evalFn E0 (n + 1) β 17 [a0, a1] H k = f17 (PR n β) n a0 a1 H k := f17_body (PR n β) n a0 a1 H k
theorem f55_eq (n : Nat) (a0 : AV) (H : Heap) (k : AV → Heap → Option β) : evalFn E0 (n + 1) β 55 [a0] H k = f55 (PR n β) n a0 H k := f55_body (PR n β) n a0 H k
theorem f14_eq (n : Nat) (a0 : AV) (H : Heap) (k : AV → Heap → Option β) : evalFn E0 (n + 1) β 14 [a0] H k = f14 (PR n β) n a0 H k := f14_body (PR n β) n a0 H k
theorem f19_eq (n : Nat) (a0 : AV) (H : Heap) (k : AV → Heap → Option β) : evalFn E0 (n + 1) β 19 [a0] H k = f19 (PR n β) n a0 H k := f19_body (PR n β) n a0 H k
theorem f82_eq (n : Nat) (a0 : AV) (H : Heap) (k : AV → Heap → Option β) : evalFn E0 (n + 1) β 82 [a0] H k = f82 (PR n β) n a0 H k := f82_body (PR n β) n a0 H k
theorem f81_eq (n : Nat) (a0 : AV) (H : Heap) (k : AV → Heap → Option β) : evalFn E0 (n + 1) β 81 [a0] H k = f81 (PR n β) n a0 H k := f81_body (PR n β) n a0 H k
theorem f54_eq (n : Nat) (a0 a1 a2 : AV) (H : Heap) (k : AV → Heap → Option β) : evalFn E0 (n + 1) β 54 [a0, a1, a2] H k = f54 (PR n β) n a0 a1 a2 H k := f54_body (PR n β) n a0 a1 a2 H k
theorem f109_eq (n : Nat) (a0 a1 : AV) (H : Heap) (k : AV → Heap → Option β) : evalFn E0 (n + 1) β 109 [a0, a1] H k = f109 (PR n β) n a0 a1 H k := f109_body (PR n β) n a0 a1 H k
theorem f104_eq (n : Nat) (a0 : AV) (H : Heap) (k : AV → Heap → Option β) : evalFn E0 (n + 1) β 104 [a0] H k = f104 (PR n β) n a0 H k := f104_body (PR n β) n a0 H k
theorem f69_eq (n : Nat) (a0 : AV) (H : Heap) (k : AV → Heap → Option β) : evalFn E0 (n + 1) β 69 [a0] H k = f69 (PR n β) n a0 H k := f69_body (PR n β) n a0 H k
theorem f94_eq (n : Nat) (a0 a1 : AV) (H : Heap) (k : AV → Heap → Option β) : evalFn E0 (n + 1) β 94 [a0, a1] H k = f94 (PR n β) n a0 a1 H k := f94_body (PR n β) n a0 a1 H k
theorem f95_eq (n : Nat) (a0 : AV) (H : Heap) (k : AV → Heap → Option β) : evalFn E0 (n + 1) β 95 [a0] H k = f95 (PR n β) n a0 H k := f95_body (PR n β) n a0 H k
theorem f53_eq (n : Nat) (a0 : AV) (H : Heap) (k : AV → Heap → Option β) : evalFn E0 (n + 1) β 53 [a0] H k = f53 (PR n β) n a0 H k := f53_body (PR n β) n a0 H k
theorem f13_eq (n : Nat) (a0 : AV) (H : Heap) (k : AV → Heap → Option β) : evalFn E0 (n + 1) β 13 [a0] H k = f13 (PR n β) n a0 H k := f13_body (PR n β) n a0 H k
theorem f18_eq (n : Nat) (a0 : AV) (H : Heap) (k : AV → Heap → Option β) : evalFn E0 (n + 1) β 18 [a0] H k = f18 (PR n β) n a0 H k := f18_body (PR n β) n a0 H k
theorem f39_eq (n : Nat) (a0 a1 : AV) (H : Heap) (k : AV → Heap → Option β) : evalFn E0 (n + 1) β 39 [a0, a1] H k = f39 (PR n β) n a0 a1 H k := f39_body (PR n β) n a0 a1 H k
theorem f105_eq (n : Nat) (a0 : AV) (H : Heap) (k : AV → Heap → Option β) : evalFn E0 (n + 1) β 105 [a0] H k = f105 (PR n β) n a0 H k := f105_body (PR n β) n a0 H k
theorem f84_eq (n : Nat) (a0 : AV) (H : Heap) (k : AV → Heap → Option β) : evalFn E0 (n + 1) β 84 [a0] H k = f84 (PR n β) n a0 H k := f84_body (PR n β) n a0 H k
theorem f83_eq (n : Nat) (a0 : AV) (H : Heap) (k : AV → Heap → Option β) : evalFn E0 (n + 1) β 83 [a0] H k = f83 (PR n β) n a0 H k := f83_body (PR n β) n a0 H k
theorem f98_eq (n : Nat) (a0 : AV) (H : Heap) (k : AV → Heap → Option β) : evalFn E0 (n + 1) β 98 [a0] H k = f98 (PR n β) n a0 H k := f98_body (PR n β) n a0 H k
theorem f56_eq (n : Nat) (a0 : AV) (H : Heap) (k : AV → Heap → Option β) : evalFn E0 (n + 1) β 56 [a0] H k = f56 (PR n β) n a0 H k := f56_body (PR n β) n a0 H k
theorem f65_eq (n : Nat) (a0 a1 a2 : AV) (H : Heap) (k : AV → Heap → Option β) : evalFn E0 (n + 1) β 65 [a0, a1, a2] H k = f65 (PR n β) n a0 a1 a2 H k := f65_body (PR n β) n a0 a1 a2 H k
theorem f57_eq (n : Nat) (a0 : AV) (H : Heap) (k : AV → Heap → Option β) : evalFn E0 (n + 1) β 57 [a0] H k = f57 (PR n β) n a0 H k := f57_body (PR n β) n a0 H k
theorem f15_eq (n : Nat) (a0 : AV) (H : Heap) (k : AV → Heap → Option β) : evalFn E0 (n + 1) β 15 [a0] H k = f15 (PR n β) n a0 H k := f15_body (PR n β) n a0 H k
theorem f59_eq (n : Nat) (a0 : AV) (H : Heap) (k : AV → Heap → Option β) : evalFn E0 (n + 1) β 59 [a0] H k = f59 (PR n β) n a0 H k := f59_body (PR n β) n a0 H k
theorem f20_eq (n : Nat) (a0 : AV) (H : Heap) (k : AV → Heap → Option β) : evalFn E0 (n + 1) β 20 [a0] H k = f20 (PR n β) n a0 H k := f20_body (PR n β) n a0 H k
theorem f40_eq (n : Nat) (a0 a1 : AV) (H : Heap) (k : AV → Heap → Option β) : evalFn E0 (n + 1) β 40 [a0, a1] H k = f40 (PR n β) n a0 a1 H k := f40_body (PR n β) n a0 a1 H k
theorem f58_eq (n : Nat) (a0 a1 : AV) (H : Heap) (k : AV → Heap → Option β) : evalFn E0 (n + 1) β 58 [a0, a1] H k = f58 (PR n β) n a0 a1 H k := f58_body (PR n β) n a0 a1 H k
theorem f16_eq (n : Nat) (a0 a1 : AV) (H : Heap) (k : AV → Heap → Option β) : evalFn E0 (n + 1) β 16 [a0, a1] H k = f16 (PR n β) n a0 a1 H k := f16_body (PR n β) n a0 a1 H k
theorem f21_eq (n : Nat) (a0 a1 : AV) (H : Heap) (k : AV → Heap → Option β) : evalFn E0 (n + 1) β 21 [a0, a1] H k = f21 (PR n β) n a0 a1 H k := f21_body (PR n β) n a0 a1 H k
theorem f85_eq (n : Nat) (a0 : AV) (H : Heap) (k : AV → Heap → Option β) : evalFn E0 (n + 1) β 85 [a0] H k = f85 (PR n β) n a0 H k := f85_body (PR n β) n a0 H k
theorem f86_eq (n : Nat) (a0 a1 : AV) (H : Heap) (k : AV → Heap → Option β) : evalFn E0 (n + 1) β 86 [a0, a1] H k = f86 (PR n β) n a0 a1 H k := f86_body (PR n β) n a0 a1 H k
theorem f41_eq (n : Nat) (a0 a1 : AV) (H : Heap) (k : AV → Heap → Option β) : evalFn E0 (n + 1) β 41 [a0, a1] H k = f41 (PR n β) n a0 a1 H k := f41_body (PR n β) n a0 a1 H k
theorem f42_eq (n : Nat) (a0 a1 : AV) (H : Heap) (k : AV → Heap → Option β) : evalFn E0 (n + 1) β 42 [a0, a1] H k = f42 (PR n β) n a0 a1 H k := f42_body (PR n β) n a0 a1 H k
theorem f87_eq (n : Nat) (a0 a1 : AV) (H : Heap) (k : AV → Heap → Option β) : evalFn E0 (n + 1) β 87 [a0, a1] H k = f87 (PR n β) n a0 a1 H k := f87_body (PR n β) n a0 a1 H k
theorem f43_eq (n : Nat) (a0 a1 : AV) (H : Heap) (k : AV → Heap → Option β) : evalFn E0 (n + 1) β 43 [a0, a1] H k = f43 (PR n β) n a0 a1 H k := f43_body (PR n β) n a0 a1 H k
theorem f9_eq (n : Nat) (a0 a1 : AV) (H : Heap) (k : AV → Heap → Option β) : evalFn E0 (n + 1) β 9 [a0, a1] H k = f9 (PR n β) n a0 a1 H k := f9_body (PR n β) n a0 a1 H k
theorem f99_eq (n : Nat) (a0 a1 : AV) (H : Heap) (k : AV → Heap → Option β) : evalFn E0 (n + 1) β 99 [a0, a1] H k = f99 (PR n β) n a0 a1 H k := f99_body (PR n β) n a0 a1 H k
theorem f60_eq (n : Nat) (a0 a1 : AV) (H : Heap) (k : AV → Heap → Option β) : evalFn E0 (n + 1) β 60 [a0, a1] H k = f60 (PR n β) n a0 a1 H k := f60_body (PR n β) n a0 a1 H k
theorem f22_eq (n : Nat) (a0 a1 : AV) (H : Heap) (k : AV → Heap → Option β) : evalFn E0 (n + 1) β 22 [a0, a1] H k = f22 (PR n β) n a0 a1 H k := f22_body (PR n β) n a0 a1 H k
theorem f100_eq (n : Nat) (a0 : AV) (H : Heap) (k : AV → Heap → Option β) : evalFn E0 (n + 1) β 100 [a0] H k = f100 (PR n β) n a0 H k := f100_body (PR n β) n a0 H k
theorem f62_eq (n : Nat) (a0 : AV) (H : Heap) (k : AV → Heap → Option β) : evalFn E0 (n + 1) β 62 [a0] H k = f62 (PR n β) n a0 H k := f62_body (PR n β) n a0 H k
theorem f24_eq (n : Nat) (a0 : AV) (H : Heap) (k : AV → Heap → Option β) : evalFn E0 (n + 1) β 24 [a0] H k = f24 (PR n β) n a0 H k := f24_body (PR n β) n a0 H k
theorem f88_eq (n : Nat) (a0 : AV) (H : Heap) (k : AV → Heap → Option β) : evalFn E0 (n + 1) β 88 [a0] H k = f88 (PR n β) n a0 H k := f88_body (PR n β) n a0 H k
theorem f61_eq (n : Nat) (a0 : AV) (H : Heap) (k : AV → Heap → Option β) : evalFn E0 (n + 1) β 61 [a0] H k = f61 (PR n β) n a0 H k := f61_body (PR n β) n a0 H k
theorem f23_eq (n : Nat) (a0 : AV) (H : Heap) (k : AV → Heap → Option β) : evalFn E0 (n + 1) β 23 [a0] H k = f23 (PR n β) n a0 H k := f23_body (PR n β) n a0 H k
theorem f44_eq (n : Nat) (a0 a1 : AV) (H : Heap) (k : AV → Heap → Option β) : evalFn E0 (n + 1) β 44 [a0, a1] H k = f44 (PR n β) n a0 a1 H k := f44_body (PR n β) n a0 a1 H k
theorem f89_eq (n : Nat) (a0 : AV) (H : Heap) (k : AV → Heap → Option β) : evalFn E0 (n + 1) β 89 [a0] H k = f89 (PR n β) n a0 H k := f89_body (PR n β) n a0 H k
theorem f63_eq (n : Nat) (a0 : AV) (H : Heap) (k : AV → Heap → Option β) : evalFn E0 (n + 1) β 63 [a0] H k = f63 (PR n β) n a0 H k := f63_body (PR n β) n a0 H k
theorem f102_eq (n : Nat) (a0 a1 : AV) (H : Heap) (k : AV → Heap → Option β) : evalFn E0 (n + 1) β 102 [a0, a1] H k = f102 (PR n β) n a0 a1 H k := f102_body (PR n β) n a0 a1 H k
theorem f101_eq (n : Nat) (a0 a1 : AV) (H : Heap) (k : AV → Heap → Option β) : evalFn E0 (n + 1) β 101 [a0, a1] H k = f101 (PR n β) n a0 a1 H k := f101_body (PR n β) n a0 a1 H k
theorem f64_eq (n : Nat) (a0 a1 : AV) (H : Heap) (k : AV → Heap → Option β) : evalFn E0 (n + 1) β 64 [a0, a1] H k = f64 (PR n β) n a0 a1 H k := f64_body (PR n β) n a0 a1 H k
theorem f66_eq (n : Nat) (a0 : AV) (H : Heap) (k : AV → Heap → Option β) : evalFn E0 (n + 1) β 66 [a0] H k = f66 (PR n β) n a0 H k := f66_body (PR n β) n a0 H k
theorem f25_eq (n : Nat) (a0 : AV) (H : Heap) (k : AV → Heap → Option β) : evalFn E0 (n + 1) β 25 [a0] H k = f25 (PR n β) n a0 H k := f25_body (PR n β) n a0 H k
theorem f45_eq (n : Nat) (a0 a1 : AV) (H : Heap) (k : AV → Heap → Option β) : evalFn E0 (n + 1) β 45 [a0, a1] H k = f45 (PR n β) n a0 a1 H k := f45_body (PR n β) n a0 a1 H k
theorem f103_eq (n : Nat) (a0 a1 : AV) (H : Heap) (k : AV → Heap → Option β) : evalFn E0 (n + 1) β 103 [a0, a1] H k = f103 (PR n β) n a0 a1 H k := f103_body (PR n β) n a0 a1 H k
theorem f67_eq (n : Nat) (a0 a1 : AV) (H : Heap) (k : AV → Heap → Option β) : evalFn E0 (n + 1) β 67 [a0, a1] H k = f67 (PR n β) n a0 a1 H k := f67_body (PR n β) n a0 a1 H k
theorem f26_eq (n : Nat) (a0 a1 : AV) (H : Heap) (k : AV → Heap → Option β) : evalFn E0 (n + 1) β 26 [a0, a1] H k = f26 (PR n β) n a0 a1 H k := f26_body (PR n β) n a0 a1 H k
theorem f90_eq (n : Nat) (a0 a1 : AV) (H : Heap) (k : AV → Heap → Option β) : evalFn E0 (n + 1) β 90 [a0, a1] H k = f90 (PR n β) n a0 a1 H k := f90_body (PR n β) n a0 a1 H k
theorem f46_eq (n : Nat) (a0 a1 : AV) (H : Heap) (k : AV → Heap → Option β) : evalFn E0 (n + 1) β 46 [a0, a1] H k = f46 (PR n β) n a0 a1 H k := f46_body (PR n β) n a0 a1 H k
theorem f91_eq (n : Nat) (a0 a1 : AV) (H : Heap) (k : AV → Heap → Option β) : evalFn E0 (n + 1) β 91 [a0, a1] H k = f91 (PR n β) n a0 a1 H k := f91_body (PR n β) n a0 a1 H k
theorem f47_eq (n : Nat) (a0 a1 : AV) (H : Heap) (k : AV → Heap → Option β) : evalFn E0 (n + 1) β 47 [a0, a1] H k = f47 (PR n β) n a0 a1 H k := f47_body (PR n β) n a0 a1 H k
theorem f10_eq (n : Nat) (a0 a1 : AV) (H : Heap) (k : AV → Heap → Option β) : evalFn E0 (n + 1) β 10 [a0, a1] H k = f10 (PR n β) n a0 a1 H k := f10_body (PR n β) n a0 a1 H k
theorem f70_eq (n : Nat) (a0 : AV) (H : Heap) (k : AV → Heap → Option β) : evalFn E0 (n + 1) β 70 [a0] H k = f70 (PR n β) n a0 H k := f70_body (PR n β) n a0 H k
theorem f30_eq (n : Nat) (a0 : AV) (H : Heap) (k : AV → Heap → Option β) : evalFn E0 (n + 1) β 30 [a0] H k = f30 (PR n β) n a0 H k := f30_body (PR n β) n a0 H k
theorem f48_eq (n : Nat) (a0 a1 a2 a3 a4 : AV) (H : Heap) (k : AV → Heap → Option β) : evalFn E0 (n + 1) β 48 [a0, a1, a2, a3, a4] H k = f48 (PR n β) n a0 a1 a2 a3 a4 H k := f48_body (PR n β) n a0 a1 a2 a3 a4 H k
theorem f72_eq (n : Nat) (a0 : AV) (H : Heap) (k : AV → Heap → Option β) : evalFn E0 (n + 1) β 72 [a0] H k = f72 (PR n β) n a0 H k := f72_body (PR n β) n a0 H k
theorem f73_eq (n : Nat) (a0 a1 a2 : AV) (H : Heap) (k : AV → Heap → Option β) : evalFn E0 (n + 1) β 73 [a0, a1, a2] H k = f73 (PR n β) n a0 a1 a2 H k := f73_body (PR n β) n a0 a1 a2 H k
theorem f74_eq (n : Nat) (a0 : AV) (H : Heap) (k : AV → Heap → Option β) : evalFn E0 (n + 1) β 74 [a0] H k = f74 (PR n β) n a0 H k := f74_body (PR n β) n a0 H k
theorem f32_eq (n : Nat) (a0 : AV) (H : Heap) (k : AV → Heap → Option β) : evalFn E0 (n + 1) β 32 [a0] H k = f32 (PR n β) n a0 H k := f32_body (PR n β) n a0 H k
theorem f49_eq (n : Nat) (a0 a1 a2 a3 a4 : AV) (H : Heap) (k : AV → Heap → Option β) : evalFn E0 (n + 1) β 49 [a0, a1, a2, a3, a4] H k = f49 (PR n β) n a0 a1 a2 a3 a4 H k := f49_body (PR n β) n a0 a1 a2 a3 a4 H k
theorem f75_eq (n : Nat) (a0 a1 : AV) (H : Heap) (k : AV → Heap → Option β) : evalFn E0 (n + 1) β 75 [a0, a1] H k = f75 (PR n β) n a0 a1 H k := f75_body (PR n β) n a0 a1 H k
theorem f33_eq (n : Nat) (a0 a1 : AV) (H : Heap) (k : AV → Heap → Option β) : evalFn E0 (n + 1) β 33 [a0, a1] H k = f33 (PR n β) n a0 a1 H k := f33_body (PR n β) n a0 a1 H k
theorem f92_eq (n : Nat) (a0 a1 : AV) (H : Heap) (k : AV → Heap → Option β) : evalFn E0 (n + 1) β 92 [a0, a1] H k = f92 (PR n β) n a0 a1 H k := f92_body (PR n β) n a0 a1 H k
theorem f50_eq (n : Nat) (a0 a1 : AV) (H : Heap) (k : AV → Heap → Option β) : evalFn E0 (n + 1) β 50 [a0, a1] H k = f50 (PR n β) n a0 a1 H k := f50_body (PR n β) n a0 a1 H k
theorem f93_eq (n : Nat) (a0 a1 : AV) (H : Heap) (k : AV → Heap → Option β) : evalFn E0 (n + 1) β 93 [a0, a1] H k = f93 (PR n β) n a0 a1 H k := f93_body (PR n β) n a0 a1 H k
theorem f51_eq (n : Nat) (a0 a1 : AV) (H : Heap) (k : AV → Heap → Option β) : evalFn E0 (n + 1) β 51 [a0, a1] H k = f51 (PR n β) n a0 a1 H k := f51_body (PR n β) n a0 a1 H k
theorem f11_eq (n : Nat) (a0 a1 a2 a3 a4 : AV) (H : Heap) (k : AV → Heap → Option β) : evalFn E0 (n + 1) β 11 [a0, a1, a2, a3, a4] H k = f11 (PR n β) n a0 a1 a2 a3 a4 H k := f11_body (PR n β) n a0 a1 a2 a3 a4 H k
end Go.Proofs.YtpcgppelelfmiaaDoor.Abs
