/- What the proof needs, part 3: a sound evaluator over trees, the program's functions on it, and what they come to. -/
import Derived.Test.YtdameggfgnpehaaGreatDoorMb
import Derived.Shelf.Strings.IndexAnyAll
import Derived.Shelf.Small.Utf8
import Derived.Lib.TrimUEq
import Derived.Lib.QuoteLoop
import Derived.Laws.RangeAny
import Derived.Laws.Runes
import Derived.WalkKit
import Derived.WalkMore
import Derived.Below
import Derived.LoopTactic
import Derived.Shelf.RegionOpenPlain
import Derived.Test.YtdameggfgnpehaaGreatDoorChecked
import Derived.Shelf.Unicode.ValidAny
import Derived.Shelf.Strings.Split
import Derived.Shelf.Vars
import Derived.Lib.ValidLaws
set_option linter.unusedVariables false
set_option linter.unusedSimpArgs false
set_option maxRecDepth 100000
namespace Go.Proofs.YtdameggfgnpehaaGreatDoor.Abs
open Go
variable {β : Type}
noncomputable def f114_l0 (p : Pr β) (n : Nat)  (k : AV → Heap → Option β) : Nat → AV → AV → AV → Heap → Option β
 | 0, _, _, _, _ => none
 | m + 1, t0, t1, t5, H => p.len t0 fun t8 =>
   p.bin .lss t5 t8 fun t9 =>
   p.cond t9
   (p.iadr 6 t0 t5 fun t14 =>
   p.fadr 0 t14 fun t15 =>
   p.load false 1 t15 H fun t16 =>
   p.bin .neq t16 t1 fun t18 =>
   p.cond t18
   (k (.sc (.int .i64 (-1))) H)
   (p.bin .add t1 (.sc (.int .i64 1)) fun t20 =>
   p.iadr 6 t0 t5 fun t23 =>
   p.fadr 1 t23 fun t24 =>
   p.fadr 0 t24 fun t25 =>
   p.load false 1 t25 H fun t26 =>
   p.call 9 (.fn 98 [] []) [t20] H fun t28 H =>
   p.bin .neq t26 t28 fun t29 =>
   p.cond t29
   (k (.sc (.int .i64 (-1))) H)
   (p.bin .add t20 (.sc (.int .i64 1)) fun t31 =>
   p.iadr 6 t0 t5 fun t34 =>
   p.fadr 1 t34 fun t35 =>
   p.fadr 1 t35 fun t36 =>
   p.load false 1 t36 H fun t37 =>
   p.call 3 (.fn 101 [] []) [t37, t31] H fun t39 H =>
   p.bin .lss t39 (.sc (.int .i64 0)) fun t41 =>
   p.cond t41
   (k (.sc (.int .i64 (-1))) H)
   (p.iadr 6 t0 t5 fun t44 =>
   p.fadr 1 t44 fun t45 =>
   p.fadr 2 t45 fun t46 =>
   p.load false 1 t46 H fun t47 =>
   p.bin .neq t47 t39 fun t49 =>
   p.cond t49
   (k (.sc (.int .i64 (-1))) H)
   (p.bin .add t39 (.sc (.int .i64 1)) fun t51 =>
   p.iadr 6 t0 t5 fun t54 =>
   p.fadr 1 t54 fun t55 =>
   p.fadr 3 t55 fun t56 =>
   p.load false 1 t56 H fun t57 =>
   p.bin .rem t51 (.sc (.int .i64 3)) fun t59 =>
   p.bin .eql t59 (.sc (.int .i64 0)) fun t60 =>
   p.binB .neq t57 t60 fun t61 =>
   p.cond t61
   (k (.sc (.int .i64 (-1))) H)
   (p.bin .add t51 (.sc (.int .i64 1)) fun t63 =>
   p.iadr 6 t0 t5 fun t66 =>
   p.fadr 5 t66 fun t67 =>
   p.load false 1 t67 H fun t68 =>
   p.bin .neq t68 t63 fun t70 =>
   p.cond t70
   (k (.sc (.int .i64 (-1))) H)
   (p.bin .add t63 (.sc (.int .i64 1)) fun t72 =>
   p.bin .add t5 (.sc (.int .i64 1)) fun t11 =>
   f114_l0 p n  k m t0 t72 t11 H)))))))
   (k t1 H)
noncomputable def f114 (p : Pr β) (n : Nat) (a0 a1 : AV) (H : Heap) (k : AV → Heap → Option β) : Option β :=
 f114_l0 p n  k n a0 a1 (.sc (.int .i64 0)) H
noncomputable def f114_L0 (p : Pr β) (n : Nat)  (k : AV → Heap → Option β) (m : Nat) (tm : Tm) (H : Heap) : Option β :=
 iterC 74 (fun tm H k => evalCode ti0 p o114 74 n (cd c114 [1, 0, 1, 0, 0]) tm H k) (blkK 0 (seqK (fun tm H => evalCode ti0 p o114 74 n (cd c114 [1, 1]) tm H (endK ti0 p Go.Proofs.Tryz.f114.results.toList k)) (endK ti0 p Go.Proofs.Tryz.f114.results.toList k))) m tm H
theorem f114_L0_step (p : Pr β) (n : Nat)  (k : AV → Heap → Option β) (m0 : Nat) (t0 t1 t2 t3 t4 t5 t6 t7 t8 t9 t10 t11 t12 t13 t14 t15 t16 t17 t18 t19 t20 t21 t22 t23 t24 t25 t26 t27 t28 t29 t30 t31 t32 t33 t34 t35 t36 t37 t38 t39 t40 t41 t42 t43 t44 t45 t46 t47 t48 t49 t50 t51 t52 t53 t54 t55 t56 t57 t58 t59 t60 t61 t62 t63 t64 t65 t66 t67 t68 t69 t70 t71 t72 t73 : AV) (H : Heap) : f114_L0 p n  k (m0 + 1) (tz [t0, t1, t2, t3, t4, t5, t6, t7, t8, t9, t10, t11, t12, t13, t14, t15, t16, t17, t18, t19, t20, t21, t22, t23, t24, t25, t26, t27, t28, t29, t30, t31, t32, t33, t34, t35, t36, t37, t38, t39, t40, t41, t42, t43, t44, t45, t46, t47, t48, t49, t50, t51, t52, t53, t54, t55, t56, t57, t58, t59, t60, t61, t62, t63, t64, t65, t66, t67, t68, t69, t70, t71, t72, t73]) H =
 p.len t0 fun t8 =>
 p.bin .lss t5 t8 fun t9 =>
 p.cond t9
 (p.iadr 6 t0 t5 fun t14 =>
 p.fadr 0 t14 fun t15 =>
 p.load false 1 t15 H fun t16 =>
 p.bin .neq t16 t1 fun t18 =>
 p.cond t18
 (k (.sc (.int .i64 (-1))) H)
 (p.bin .add t1 (.sc (.int .i64 1)) fun t20 =>
 p.iadr 6 t0 t5 fun t23 =>
 p.fadr 1 t23 fun t24 =>
 p.fadr 0 t24 fun t25 =>
 p.load false 1 t25 H fun t26 =>
 p.call 9 (.fn 98 [] []) [t20] H fun t28 H =>
 p.bin .neq t26 t28 fun t29 =>
 p.cond t29
 (k (.sc (.int .i64 (-1))) H)
 (p.bin .add t20 (.sc (.int .i64 1)) fun t31 =>
 p.iadr 6 t0 t5 fun t34 =>
 p.fadr 1 t34 fun t35 =>
 p.fadr 1 t35 fun t36 =>
 p.load false 1 t36 H fun t37 =>
 p.call 3 (.fn 101 [] []) [t37, t31] H fun t39 H =>
 p.bin .lss t39 (.sc (.int .i64 0)) fun t41 =>
 p.cond t41
 (k (.sc (.int .i64 (-1))) H)
 (p.iadr 6 t0 t5 fun t44 =>
 p.fadr 1 t44 fun t45 =>
 p.fadr 2 t45 fun t46 =>
 p.load false 1 t46 H fun t47 =>
 p.bin .neq t47 t39 fun t49 =>
 p.cond t49
 (k (.sc (.int .i64 (-1))) H)
 (p.bin .add t39 (.sc (.int .i64 1)) fun t51 =>
 p.iadr 6 t0 t5 fun t54 =>
 p.fadr 1 t54 fun t55 =>
 p.fadr 3 t55 fun t56 =>
 p.load false 1 t56 H fun t57 =>
 p.bin .rem t51 (.sc (.int .i64 3)) fun t59 =>
 p.bin .eql t59 (.sc (.int .i64 0)) fun t60 =>
 p.binB .neq t57 t60 fun t61 =>
 p.cond t61
 (k (.sc (.int .i64 (-1))) H)
 (p.bin .add t51 (.sc (.int .i64 1)) fun t63 =>
 p.iadr 6 t0 t5 fun t66 =>
 p.fadr 5 t66 fun t67 =>
 p.load false 1 t67 H fun t68 =>
 p.bin .neq t68 t63 fun t70 =>
 p.cond t70
 (k (.sc (.int .i64 (-1))) H)
 (p.bin .add t63 (.sc (.int .i64 1)) fun t72 =>
 p.bin .add t5 (.sc (.int .i64 1)) fun t11 =>
 f114_L0 p n  k m0 (tz [t0, t72, t2, t3, t4, t11, t5, t0, t8, t9, t5, t11, t0, t5, t14, t15, t16, t1, t18, t1, t20, t0, t5, t23, t24, t25, t26, t20, t28, t29, t20, t31, t0, t5, t34, t35, t36, t37, t31, t39, t39, t41, t0, t5, t44, t45, t46, t47, t39, t49, t39, t51, t0, t5, t54, t55, t56, t57, t51, t59, t60, t61, t51, t63, t0, t5, t66, t67, t68, t63, t70, t63, t72, t73]) H)))))))
 (k t1 H) := by kernel_rfl
theorem f114_l0_eq (p : Pr β) (n : Nat)  (k : AV → Heap → Option β)   (m0 : Nat) : ∀ (t0 t1 t2 t3 t4 t5 t6 t7 t8 t9 t10 t11 t12 t13 t14 t15 t16 t17 t18 t19 t20 t21 t22 t23 t24 t25 t26 t27 t28 t29 t30 t31 t32 t33 t34 t35 t36 t37 t38 t39 t40 t41 t42 t43 t44 t45 t46 t47 t48 t49 t50 t51 t52 t53 t54 t55 t56 t57 t58 t59 t60 t61 t62 t63 t64 t65 t66 t67 t68 t69 t70 t71 t72 t73 : AV) (H : Heap), f114_L0 p n  k m0 (tz [t0, t1, t2, t3, t4, t5, t6, t7, t8, t9, t10, t11, t12, t13, t14, t15, t16, t17, t18, t19, t20, t21, t22, t23, t24, t25, t26, t27, t28, t29, t30, t31, t32, t33, t34, t35, t36, t37, t38, t39, t40, t41, t42, t43, t44, t45, t46, t47, t48, t49, t50, t51, t52, t53, t54, t55, t56, t57, t58, t59, t60, t61, t62, t63, t64, t65, t66, t67, t68, t69, t70, t71, t72, t73]) H = f114_l0 p n  k m0 t0 t1 t5 H := by
 induction m0 with
 | zero => intros; rfl
 | succ m0 ih =>
  intro t0 t1 t2 t3 t4 t5 t6 t7 t8 t9 t10 t11 t12 t13 t14 t15 t16 t17 t18 t19 t20 t21 t22 t23 t24 t25 t26 t27 t28 t29 t30 t31 t32 t33 t34 t35 t36 t37 t38 t39 t40 t41 t42 t43 t44 t45 t46 t47 t48 t49 t50 t51 t52 t53 t54 t55 t56 t57 t58 t59 t60 t61 t62 t63 t64 t65 t66 t67 t68 t69 t70 t71 t72 t73 H
  rw [f114_L0_step]
  simp only [ih]
  rfl
theorem f114_raw (p : Pr β) (n : Nat) (a0 a1 : AV) (H : Heap) (k : AV → Heap → Option β) : evalBody ti0 p n ⟨c114, 74, Go.Proofs.Tryz.f114.results.toList, o114⟩ [a0, a1] H k =
 f114_L0 p n  k n (tz [a0, a1, uu, uu, (.sc (.int .i64 0)), (.sc (.int .i64 0)), uu, uu, uu, uu, uu, uu, uu, uu, uu, uu, uu, uu, uu, uu, uu, uu, uu, uu, uu, uu, uu, uu, uu, uu, uu, uu, uu, uu, uu, uu, uu, uu, uu, uu, uu, uu, uu, uu, uu, uu, uu, uu, uu, uu, uu, uu, uu, uu, uu, uu, uu, uu, uu, uu, uu, uu, uu, uu, uu, uu, uu, uu, uu, uu, uu, uu, uu, uu]) H := by kernel_rfl
theorem f114_body (p : Pr β) (n : Nat) (a0 a1 : AV) (H : Heap) (k : AV → Heap → Option β) : evalBody ti0 p n ⟨c114, 74, Go.Proofs.Tryz.f114.results.toList, o114⟩ [a0, a1] H k = f114 p n a0 a1 H k := by
 rw [f114_raw]
 simp only [f114_l0_eq]
 rfl
noncomputable def f115_l0 (p : Pr β) (n : Nat)  (k : AV → Heap → Option β) : Nat → AV → AV → AV → Heap → Option β
 | 0, _, _, _, _ => none
 | m + 1, t0, t1, t5, H => p.len t0 fun t8 =>
   p.bin .lss t5 t8 fun t9 =>
   p.cond t9
   (p.iadr 4 t0 t5 fun t14 =>
   p.fadr 0 t14 fun t15 =>
   p.load false 1 t15 H fun t16 =>
   p.call 9 (.fn 98 [] []) [t1] H fun t18 H =>
   p.bin .neq t16 t18 fun t19 =>
   p.cond t19
   (k (.sc (.int .i64 (-1))) H)
   (p.bin .add t1 (.sc (.int .i64 1)) fun t21 =>
   p.iadr 4 t0 t5 fun t24 =>
   p.fadr 1 t24 fun t25 =>
   p.load false 1 t25 H fun t26 =>
   p.call 3 (.fn 101 [] []) [t26, t21] H fun t28 H =>
   p.bin .lss t28 (.sc (.int .i64 0)) fun t30 =>
   p.cond t30
   (k (.sc (.int .i64 (-1))) H)
   (p.iadr 4 t0 t5 fun t33 =>
   p.fadr 2 t33 fun t34 =>
   p.load false 1 t34 H fun t35 =>
   p.bin .neq t35 t28 fun t37 =>
   p.cond t37
   (k (.sc (.int .i64 (-1))) H)
   (p.bin .add t28 (.sc (.int .i64 1)) fun t39 =>
   p.iadr 4 t0 t5 fun t42 =>
   p.fadr 3 t42 fun t43 =>
   p.load false 1 t43 H fun t44 =>
   p.bin .rem t39 (.sc (.int .i64 3)) fun t46 =>
   p.bin .eql t46 (.sc (.int .i64 0)) fun t47 =>
   p.binB .neq t44 t47 fun t48 =>
   p.cond t48
   (k (.sc (.int .i64 (-1))) H)
   (p.bin .add t39 (.sc (.int .i64 1)) fun t50 =>
   p.bin .add t5 (.sc (.int .i64 1)) fun t11 =>
   f115_l0 p n  k m t0 t50 t11 H)))))
   (k t1 H)
noncomputable def f115 (p : Pr β) (n : Nat) (a0 a1 : AV) (H : Heap) (k : AV → Heap → Option β) : Option β :=
 f115_l0 p n  k n a0 a1 (.sc (.int .i64 0)) H
noncomputable def f115_L0 (p : Pr β) (n : Nat)  (k : AV → Heap → Option β) (m : Nat) (tm : Tm) (H : Heap) : Option β :=
 iterC 52 (fun tm H k => evalCode ti0 p o115 52 n (cd c115 [1, 0, 1, 0, 0]) tm H k) (blkK 0 (seqK (fun tm H => evalCode ti0 p o115 52 n (cd c115 [1, 1]) tm H (endK ti0 p Go.Proofs.Tryz.f115.results.toList k)) (endK ti0 p Go.Proofs.Tryz.f115.results.toList k))) m tm H
theorem f115_L0_step (p : Pr β) (n : Nat)  (k : AV → Heap → Option β) (m0 : Nat) (t0 t1 t2 t3 t4 t5 t6 t7 t8 t9 t10 t11 t12 t13 t14 t15 t16 t17 t18 t19 t20 t21 t22 t23 t24 t25 t26 t27 t28 t29 t30 t31 t32 t33 t34 t35 t36 t37 t38 t39 t40 t41 t42 t43 t44 t45 t46 t47 t48 t49 t50 t51 : AV) (H : Heap) : f115_L0 p n  k (m0 + 1) (tz [t0, t1, t2, t3, t4, t5, t6, t7, t8, t9, t10, t11, t12, t13, t14, t15, t16, t17, t18, t19, t20, t21, t22, t23, t24, t25, t26, t27, t28, t29, t30, t31, t32, t33, t34, t35, t36, t37, t38, t39, t40, t41, t42, t43, t44, t45, t46, t47, t48, t49, t50, t51]) H =
 p.len t0 fun t8 =>
 p.bin .lss t5 t8 fun t9 =>
 p.cond t9
 (p.iadr 4 t0 t5 fun t14 =>
 p.fadr 0 t14 fun t15 =>
 p.load false 1 t15 H fun t16 =>
 p.call 9 (.fn 98 [] []) [t1] H fun t18 H =>
 p.bin .neq t16 t18 fun t19 =>
 p.cond t19
 (k (.sc (.int .i64 (-1))) H)
 (p.bin .add t1 (.sc (.int .i64 1)) fun t21 =>
 p.iadr 4 t0 t5 fun t24 =>
 p.fadr 1 t24 fun t25 =>
 p.load false 1 t25 H fun t26 =>
 p.call 3 (.fn 101 [] []) [t26, t21] H fun t28 H =>
 p.bin .lss t28 (.sc (.int .i64 0)) fun t30 =>
 p.cond t30
 (k (.sc (.int .i64 (-1))) H)
 (p.iadr 4 t0 t5 fun t33 =>
 p.fadr 2 t33 fun t34 =>
 p.load false 1 t34 H fun t35 =>
 p.bin .neq t35 t28 fun t37 =>
 p.cond t37
 (k (.sc (.int .i64 (-1))) H)
 (p.bin .add t28 (.sc (.int .i64 1)) fun t39 =>
 p.iadr 4 t0 t5 fun t42 =>
 p.fadr 3 t42 fun t43 =>
 p.load false 1 t43 H fun t44 =>
 p.bin .rem t39 (.sc (.int .i64 3)) fun t46 =>
 p.bin .eql t46 (.sc (.int .i64 0)) fun t47 =>
 p.binB .neq t44 t47 fun t48 =>
 p.cond t48
 (k (.sc (.int .i64 (-1))) H)
 (p.bin .add t39 (.sc (.int .i64 1)) fun t50 =>
 p.bin .add t5 (.sc (.int .i64 1)) fun t11 =>
 f115_L0 p n  k m0 (tz [t0, t50, t2, t3, t4, t11, t5, t0, t8, t9, t5, t11, t0, t5, t14, t15, t16, t1, t18, t19, t1, t21, t0, t5, t24, t25, t26, t21, t28, t28, t30, t0, t5, t33, t34, t35, t28, t37, t28, t39, t0, t5, t42, t43, t44, t39, t46, t47, t48, t39, t50, t51]) H)))))
 (k t1 H) := by kernel_rfl
theorem f115_l0_eq (p : Pr β) (n : Nat)  (k : AV → Heap → Option β)   (m0 : Nat) : ∀ (t0 t1 t2 t3 t4 t5 t6 t7 t8 t9 t10 t11 t12 t13 t14 t15 t16 t17 t18 t19 t20 t21 t22 t23 t24 t25 t26 t27 t28 t29 t30 t31 t32 t33 t34 t35 t36 t37 t38 t39 t40 t41 t42 t43 t44 t45 t46 t47 t48 t49 t50 t51 : AV) (H : Heap), f115_L0 p n  k m0 (tz [t0, t1, t2, t3, t4, t5, t6, t7, t8, t9, t10, t11, t12, t13, t14, t15, t16, t17, t18, t19, t20, t21, t22, t23, t24, t25, t26, t27, t28, t29, t30, t31, t32, t33, t34, t35, t36, t37, t38, t39, t40, t41, t42, t43, t44, t45, t46, t47, t48, t49, t50, t51]) H = f115_l0 p n  k m0 t0 t1 t5 H := by
 induction m0 with
 | zero => intros; rfl
 | succ m0 ih =>
  intro t0 t1 t2 t3 t4 t5 t6 t7 t8 t9 t10 t11 t12 t13 t14 t15 t16 t17 t18 t19 t20 t21 t22 t23 t24 t25 t26 t27 t28 t29 t30 t31 t32 t33 t34 t35 t36 t37 t38 t39 t40 t41 t42 t43 t44 t45 t46 t47 t48 t49 t50 t51 H
  rw [f115_L0_step]
  simp only [ih]
  rfl
theorem f115_raw (p : Pr β) (n : Nat) (a0 a1 : AV) (H : Heap) (k : AV → Heap → Option β) : evalBody ti0 p n ⟨c115, 52, Go.Proofs.Tryz.f115.results.toList, o115⟩ [a0, a1] H k =
 f115_L0 p n  k n (tz [a0, a1, uu, uu, (.sc (.int .i64 0)), (.sc (.int .i64 0)), uu, uu, uu, uu, uu, uu, uu, uu, uu, uu, uu, uu, uu, uu, uu, uu, uu, uu, uu, uu, uu, uu, uu, uu, uu, uu, uu, uu, uu, uu, uu, uu, uu, uu, uu, uu, uu, uu, uu, uu, uu, uu, uu, uu, uu, uu]) H := by kernel_rfl
theorem f115_body (p : Pr β) (n : Nat) (a0 a1 : AV) (H : Heap) (k : AV → Heap → Option β) : evalBody ti0 p n ⟨c115, 52, Go.Proofs.Tryz.f115.results.toList, o115⟩ [a0, a1] H k = f115 p n a0 a1 H k := by
 rw [f115_raw]
 simp only [f115_l0_eq]
 rfl
noncomputable def f48 (p : Pr β) (n : Nat) (a0 a1 : AV) (H : Heap) (k : AV → Heap → Option β) : Option β :=
 p.box a0 H fun t2 H =>
 p.fadr 1 t2 fun t5 =>
 p.load false 1 t5 H fun t6 =>
 p.call 3 (.fn 114 [] []) [t6, a1] H fun t8 H =>
 p.bin .lss t8 (.sc (.int .i64 0)) fun t10 =>
 p.cond t10
 (k (.sc (.int .i64 (-1))) H)
 (p.fadr 2 t2 fun t11 =>
 p.load false 1 t11 H fun t12 =>
 p.call 3 (.fn 115 [] []) [t12, t8] H fun t14 H =>
 p.bin .lss t14 (.sc (.int .i64 0)) fun t16 =>
 p.cond t16
 (k (.sc (.int .i64 (-1))) H)
 (k t14 H))
theorem f48_body (p : Pr β) (n : Nat) (a0 a1 : AV) (H : Heap) (k : AV → Heap → Option β) : evalBody ti0 p n ⟨c48, 18, Go.Proofs.Tryz.f48.results.toList, o48⟩ [a0, a1] H k = f48 p n a0 a1 H k := by kernel_rfl
noncomputable def f65_l0 (p : Pr β) (n : Nat)  (k : AV → Heap → Option β) : Nat → AV → AV → AV → Heap → Option β
 | 0, _, _, _, _ => none
 | m + 1, t0, t1, t5, H => p.len t0 fun t8 =>
   p.bin .lss t5 t8 fun t9 =>
   p.cond t9
   (p.iadr 1 t0 t5 fun t14 =>
   p.load false 1 t14 H fun t15 =>
   p.bin .neq t15 t1 fun t17 =>
   p.cond t17
   (k (.sc (.int .i64 (-1))) H)
   (p.bin .add t1 (.sc (.int .i64 1)) fun t19 =>
   p.bin .add t5 (.sc (.int .i64 1)) fun t11 =>
   f65_l0 p n  k m t0 t19 t11 H))
   (k t1 H)
noncomputable def f65 (p : Pr β) (n : Nat) (a0 a1 : AV) (H : Heap) (k : AV → Heap → Option β) : Option β :=
 f65_l0 p n  k n a0 a1 (.sc (.int .i64 0)) H
noncomputable def f65_L0 (p : Pr β) (n : Nat)  (k : AV → Heap → Option β) (m : Nat) (tm : Tm) (H : Heap) : Option β :=
 iterC 21 (fun tm H k => evalCode ti0 p o65 21 n (cd c65 [1, 0, 1, 0, 0]) tm H k) (blkK 0 (seqK (fun tm H => evalCode ti0 p o65 21 n (cd c65 [1, 1]) tm H (endK ti0 p Go.Proofs.Tryz.f65.results.toList k)) (endK ti0 p Go.Proofs.Tryz.f65.results.toList k))) m tm H
theorem f65_L0_step (p : Pr β) (n : Nat)  (k : AV → Heap → Option β) (m0 : Nat) (t0 t1 t2 t3 t4 t5 t6 t7 t8 t9 t10 t11 t12 t13 t14 t15 t16 t17 t18 t19 t20 : AV) (H : Heap) : f65_L0 p n  k (m0 + 1) (tz [t0, t1, t2, t3, t4, t5, t6, t7, t8, t9, t10, t11, t12, t13, t14, t15, t16, t17, t18, t19, t20]) H =
 p.len t0 fun t8 =>
 p.bin .lss t5 t8 fun t9 =>
 p.cond t9
 (p.iadr 1 t0 t5 fun t14 =>
 p.load false 1 t14 H fun t15 =>
 p.bin .neq t15 t1 fun t17 =>
 p.cond t17
 (k (.sc (.int .i64 (-1))) H)
 (p.bin .add t1 (.sc (.int .i64 1)) fun t19 =>
 p.bin .add t5 (.sc (.int .i64 1)) fun t11 =>
 f65_L0 p n  k m0 (tz [t0, t19, t2, t3, t4, t11, t5, t0, t8, t9, t5, t11, t0, t5, t14, t15, t1, t17, t1, t19, t20]) H))
 (k t1 H) := by kernel_rfl
theorem f65_l0_eq (p : Pr β) (n : Nat)  (k : AV → Heap → Option β)   (m0 : Nat) : ∀ (t0 t1 t2 t3 t4 t5 t6 t7 t8 t9 t10 t11 t12 t13 t14 t15 t16 t17 t18 t19 t20 : AV) (H : Heap), f65_L0 p n  k m0 (tz [t0, t1, t2, t3, t4, t5, t6, t7, t8, t9, t10, t11, t12, t13, t14, t15, t16, t17, t18, t19, t20]) H = f65_l0 p n  k m0 t0 t1 t5 H := by
 induction m0 with
 | zero => intros; rfl
 | succ m0 ih =>
  intro t0 t1 t2 t3 t4 t5 t6 t7 t8 t9 t10 t11 t12 t13 t14 t15 t16 t17 t18 t19 t20 H
  rw [f65_L0_step]
  simp only [ih]
  rfl
theorem f65_raw (p : Pr β) (n : Nat) (a0 a1 : AV) (H : Heap) (k : AV → Heap → Option β) : evalBody ti0 p n ⟨c65, 21, Go.Proofs.Tryz.f65.results.toList, o65⟩ [a0, a1] H k =
 f65_L0 p n  k n (tz [a0, a1, uu, uu, (.sc (.int .i64 0)), (.sc (.int .i64 0)), uu, uu, uu, uu, uu, uu, uu, uu, uu, uu, uu, uu, uu, uu, uu]) H := by kernel_rfl
theorem f65_body (p : Pr β) (n : Nat) (a0 a1 : AV) (H : Heap) (k : AV → Heap → Option β) : evalBody ti0 p n ⟨c65, 21, Go.Proofs.Tryz.f65.results.toList, o65⟩ [a0, a1] H k = f65 p n a0 a1 H k := by
 rw [f65_raw]
 simp only [f65_l0_eq]
 rfl
noncomputable def f17 (p : Pr β) (n : Nat) (a0 a1 : AV) (H : Heap) (k : AV → Heap → Option β) : Option β :=
 p.box a0 H fun t2 H =>
 p.fadr 5 t2 fun t5 =>
 p.load true 3 t5 H fun t6 =>
 p.call 3 (.fn 48 [] []) [t6, a1] H fun t8 H =>
 p.bin .lss t8 (.sc (.int .i64 0)) fun t10 =>
 p.cond t10
 (k (.sc (.int .i64 (-1))) H)
 (p.fadr 8 t2 fun t11 =>
 p.load false 1 t11 H fun t12 =>
 p.call 3 (.fn 65 [] []) [t12, t8] H fun t14 H =>
 p.bin .lss t14 (.sc (.int .i64 0)) fun t16 =>
 p.cond t16
 (k (.sc (.int .i64 (-1))) H)
 (k t14 H))
theorem f17_body (p : Pr β) (n : Nat) (a0 a1 : AV) (H : Heap) (k : AV → Heap → Option β) : evalBody ti0 p n ⟨c17, 18, Go.Proofs.Tryz.f17.results.toList, o17⟩ [a0, a1] H k = f17 p n a0 a1 H k := by kernel_rfl
noncomputable def f3 (p : Pr β) (n : Nat) (a0 : AV) (H : Heap) (k : AV → Heap → Option β) : Option β :=
 p.box a0 H fun t1 H =>
 p.load true 9 t1 H fun t11 =>
 p.call 3 (.fn 11 [] []) [t11, (.sc (.int .i64 1048576))] H fun t13 H =>
 p.bin .lss t13 (.sc (.int .i64 0)) fun t15 =>
 p.cond t15
 (k (.sc (.bool true)) H)
 (p.load true 9 t1 H fun t16 =>
 p.call 35 (.fn 13 [] []) [t16] H fun t17 H =>
 p.call 35 (.fn 12 [] []) [t17] H fun t18 H =>
 p.new [(.sc (.string ⟨#[]⟩)), (.sc (.int .i64 0)), (.sc (.bool false)), (.sc (.int .i64 0)), (.sc (.int .i64 0)), (.sc (.int .i64 0)), .nl, .nl, .nl] H fun t4 H =>
 p.store 9 t4 t18 H fun H =>
 p.load true 9 t1 H fun t19 =>
 p.call 35 (.fn 13 [] []) [t19] H fun t20 H =>
 p.new [(.sc (.string ⟨#[]⟩)), (.sc (.int .i64 0)), (.sc (.bool false)), (.sc (.int .i64 0)), (.sc (.int .i64 0)), (.sc (.int .i64 0)), .nl, .nl, .nl] H fun t5 H =>
 p.store 9 t5 t20 H fun H =>
 p.load true 9 t5 H fun t21 =>
 p.call 35 (.fn 14 [] []) [t21] H fun t22 H =>
 p.new [(.sc (.string ⟨#[]⟩)), (.sc (.int .i64 0)), (.sc (.bool false)), (.sc (.int .i64 0)), (.sc (.int .i64 0)), (.sc (.int .i64 0)), .nl, .nl, .nl] H fun t6 H =>
 p.store 9 t6 t22 H fun H =>
 p.load true 9 t6 H fun t23 =>
 p.load true 9 t4 H fun t24 =>
 p.call 4 (.fn 15 [] []) [t23, t24] H fun t25 H =>
 p.un .not t25 fun t26 =>
 p.cond t26
 (k (.sc (.bool false)) H)
 (p.load true 9 t5 H fun t27 =>
 p.load true 9 t1 H fun t28 =>
 p.call 35 (.fn 13 [] []) [t28] H fun t29 H =>
 p.call 4 (.fn 15 [] []) [t27, t29] H fun t30 H =>
 p.un .not t30 fun t31 =>
 p.cond t31
 (k (.sc (.bool false)) H)
 (p.load true 9 t5 H fun t32 =>
 p.call 3 (.fn 16 [] []) [t32, (.sc (.int .i64 1))] H fun t34 H =>
 p.bin .lss t34 (.sc (.int .i64 0)) fun t36 =>
 p.guard t36 false H (fun k' => p.load true 9 t6 H fun t' => k' t' H) fun t38 H =>
 p.guard t36 false H (fun k' => p.load true 9 t4 H fun t' => k' t' H) fun t39 H =>
 p.guard t36 false H (fun k' => p.call 4 (.fn 15 [] []) [t38, t39] H fun t' H => k' t' H) fun t40 H =>
 p.guard t36 false H (fun k' => p.un .not t40 fun t' => k' t' H) fun t41 H =>
 p.pick t36 (.sc (.bool true)) t41 fun t42 =>
 p.cond t42
 (k (.sc (.bool false)) H)
 (p.load true 9 t6 H fun t43 =>
 p.call 3 (.fn 16 [] []) [t43, (.sc (.int .i64 1))] H fun t45 H =>
 p.load true 9 t6 H fun t46 =>
 p.call 3 (.fn 17 [] []) [t46, (.sc (.int .i64 1))] H fun t48 H =>
 p.bin .lss t48 (.sc (.int .i64 0)) fun t50 =>
 p.cond t50
 (k (.sc (.bool false)) H)
 (p.bin .neq t48 t45 fun t53 =>
 p.cond t53
 (k (.sc (.bool false)) H)
 (p.load true 9 t1 H fun t54 =>
 p.call 35 (.fn 13 [] []) [t54] H fun t55 H =>
 p.call 35 (.fn 14 [] []) [t55] H fun t56 H =>
 p.new [(.sc (.string ⟨#[]⟩)), (.sc (.int .i64 0)), (.sc (.bool false)), (.sc (.int .i64 0)), (.sc (.int .i64 0)), (.sc (.int .i64 0)), .nl, .nl, .nl] H fun t10 H =>
 p.store 9 t10 t56 H fun H =>
 p.load true 9 t10 H fun t57 =>
 p.load true 9 t4 H fun t58 =>
 p.call 4 (.fn 15 [] []) [t57, t58] H fun t59 H =>
 p.un .not t59 fun t60 =>
 p.cond t60
 (k (.sc (.bool false)) H)
 (p.load true 9 t6 H fun t61 =>
 p.call 3 (.fn 17 [] []) [t61, (.sc (.int .i64 1))] H fun t63 H =>
 p.bin .lss t63 (.sc (.int .i64 0)) fun t65 =>
 p.cond t65
 (k (.sc (.bool false)) H)
 (p.bin .neq t63 t45 fun t68 =>
 p.cond t68
 (k (.sc (.bool false)) H)
 (k (.sc (.bool true)) H)))))))))
theorem f3_body (p : Pr β) (n : Nat) (a0 : AV) (H : Heap) (k : AV → Heap → Option β) : evalBody ti0 p n ⟨c3, 69, Go.Proofs.Tryz.f3.results.toList, o3⟩ [a0] H k = f3 p n a0 H k := by kernel_rfl
noncomputable def f18 (p : Pr β) (n : Nat) (a0 a1 a2 a3 : AV) (H : Heap) (k : AV → Heap → Option β) : Option β :=
 p.box a0 H fun t4 H =>
 p.new [(.sc (.string ⟨#[]⟩)), (.sc (.int .i64 0)), (.sc (.bool false)), (.sc (.int .i64 0)), (.sc (.int .i64 0)), (.sc (.int .i64 0)), .nl, .nl, .nl] H fun t8 H =>
 p.load true 9 t4 H fun t10 =>
 p.call 35 (.fn 60 [] []) [t10] H fun t11 H =>
 p.new [(.sc (.string ⟨#[]⟩)), (.sc (.int .i64 0)), (.sc (.bool false)), (.sc (.int .i64 0)), (.sc (.int .i64 0)), (.sc (.int .i64 0)), .nl, .nl, .nl] H fun t9 H =>
 p.store 9 t9 t11 H fun H =>
 p.fadr 2 t9 fun t13 =>
 p.store 1 t13 a1 H fun H =>
 p.fadr 3 t9 fun t15 =>
 p.store 1 t15 a2 H fun H =>
 p.fadr 4 t9 fun t17 =>
 p.store 1 t17 a3 H fun H =>
 p.load true 9 t4 H fun t18 =>
 p.call 4 (.fn 31 [] []) [t18] H fun t19 H =>
 p.un .not t19 fun t20 =>
 p.guard t20 false H (fun k' => p.load true 9 t9 H fun t' => k' t' H) fun t22 H =>
 p.guard t20 false H (fun k' => p.call 4 (.fn 31 [] []) [t22] H fun t' H => k' t' H) fun t23 H =>
 p.guard t20 false H (fun k' => p.un .not t23 fun t' => k' t' H) fun t24 H =>
 p.pick t20 (.sc (.bool true)) t24 fun t25 =>
 p.cond t25
 (p.load true 9 t4 H fun t26 =>
 p.call 35 (.fn 60 [] []) [t26] H fun t27 H =>
 p.store 9 t8 t27 H fun H =>
 p.load true 9 t8 H fun r0 =>
 k r0 H)
 (p.load true 9 t9 H fun t28 =>
 p.store 9 t8 t28 H fun H =>
 p.load true 9 t8 H fun r0 =>
 k r0 H)
theorem f18_body (p : Pr β) (n : Nat) (a0 a1 a2 a3 : AV) (H : Heap) (k : AV → Heap → Option β) : evalBody ti0 p n ⟨c18, 29, Go.Proofs.Tryz.f18.results.toList, o18⟩ [a0, a1, a2, a3] H k = f18 p n a0 a1 a2 a3 H k := by kernel_rfl
noncomputable def f19 (p : Pr β) (n : Nat) (a0 a1 a2 a3 : AV) (H : Heap) (k : AV → Heap → Option β) : Option β :=
 p.box a0 H fun t4 H =>
 p.new [(.sc (.string ⟨#[]⟩)), (.sc (.int .i64 0)), (.sc (.bool false)), (.sc (.int .i64 0)), (.sc (.int .i64 0)), (.sc (.int .i64 0)), .nl, .nl, .nl] H fun t8 H =>
 p.load true 9 t4 H fun t10 =>
 p.call 35 (.fn 62 [] []) [t10] H fun t11 H =>
 p.new [(.sc (.string ⟨#[]⟩)), (.sc (.int .i64 0)), (.sc (.bool false)), (.sc (.int .i64 0)), (.sc (.int .i64 0)), (.sc (.int .i64 0)), .nl, .nl, .nl] H fun t9 H =>
 p.store 9 t9 t11 H fun H =>
 p.load true 9 t4 H fun t12 =>
 p.call 4 (.fn 30 [] []) [t12] H fun t13 H =>
 p.guard t13 true H (fun k' => k' a1 H) fun t15 H =>
 p.guard t13 true H (fun k' => k' a2 H) fun t16 H =>
 p.guard t13 true H (fun k' => k' a3 H) fun t17 H =>
 p.guard t13 true H (fun k' => p.call 4 (.fn 66 [] []) [t15, t16, t17] H fun t' H => k' t' H) fun t18 H =>
 p.pick t13 t18 (.sc (.bool false)) fun t19 =>
 letJ (fun (t8 t9 : AV) (H : Heap) => p.load true 9 t9 H fun t26 =>
 p.store 9 t8 t26 H fun H =>
 p.load true 9 t8 H fun r0 =>
 k r0 H) fun j1 =>
 p.cond t19
 (p.fadr 2 t9 fun t23 =>
 p.store 1 t23 a1 H fun H =>
 p.fadr 3 t9 fun t24 =>
 p.store 1 t24 a2 H fun H =>
 p.fadr 4 t9 fun t25 =>
 p.store 1 t25 a3 H fun H =>
 j1 t8 t9 H)
 (j1 t8 t9 H)
theorem f19_body (p : Pr β) (n : Nat) (a0 a1 a2 a3 : AV) (H : Heap) (k : AV → Heap → Option β) : evalBody ti0 p n ⟨c19, 27, Go.Proofs.Tryz.f19.results.toList, o19⟩ [a0, a1, a2, a3] H k = f19 p n a0 a1 a2 a3 H k := by kernel_rfl
noncomputable def f4 (p : Pr β) (n : Nat) (a0 a1 a2 a3 : AV) (H : Heap) (k : AV → Heap → Option β) : Option β :=
 p.box a0 H fun t4 H =>
 p.load true 9 t4 H fun t17 =>
 p.call 3 (.fn 11 [] []) [t17, (.sc (.int .i64 1048576))] H fun t19 H =>
 p.bin .lss t19 (.sc (.int .i64 0)) fun t21 =>
 p.cond t21
 (k (.sc (.bool true)) H)
 (p.load true 9 t4 H fun t22 =>
 p.call 35 (.fn 13 [] []) [t22] H fun t23 H =>
 p.call 35 (.fn 18 [] []) [t23, a1, a2, a3] H fun t27 H =>
 p.new [(.sc (.string ⟨#[]⟩)), (.sc (.int .i64 0)), (.sc (.bool false)), (.sc (.int .i64 0)), (.sc (.int .i64 0)), (.sc (.int .i64 0)), .nl, .nl, .nl] H fun t10 H =>
 p.store 9 t10 t27 H fun H =>
 p.load true 9 t4 H fun t28 =>
 p.call 35 (.fn 13 [] []) [t28] H fun t29 H =>
 p.new [(.sc (.string ⟨#[]⟩)), (.sc (.int .i64 0)), (.sc (.bool false)), (.sc (.int .i64 0)), (.sc (.int .i64 0)), (.sc (.int .i64 0)), .nl, .nl, .nl] H fun t11 H =>
 p.store 9 t11 t29 H fun H =>
 p.load true 9 t11 H fun t30 =>
 p.call 35 (.fn 19 [] []) [t30, a1, a2, a3] H fun t34 H =>
 p.new [(.sc (.string ⟨#[]⟩)), (.sc (.int .i64 0)), (.sc (.bool false)), (.sc (.int .i64 0)), (.sc (.int .i64 0)), (.sc (.int .i64 0)), .nl, .nl, .nl] H fun t12 H =>
 p.store 9 t12 t34 H fun H =>
 p.load true 9 t12 H fun t35 =>
 p.load true 9 t10 H fun t36 =>
 p.call 4 (.fn 15 [] []) [t35, t36] H fun t37 H =>
 p.un .not t37 fun t38 =>
 p.cond t38
 (k (.sc (.bool false)) H)
 (p.load true 9 t11 H fun t39 =>
 p.load true 9 t4 H fun t40 =>
 p.call 35 (.fn 13 [] []) [t40] H fun t41 H =>
 p.call 4 (.fn 15 [] []) [t39, t41] H fun t42 H =>
 p.un .not t42 fun t43 =>
 p.cond t43
 (k (.sc (.bool false)) H)
 (p.load true 9 t11 H fun t44 =>
 p.call 3 (.fn 16 [] []) [t44, (.sc (.int .i64 1))] H fun t46 H =>
 p.bin .lss t46 (.sc (.int .i64 0)) fun t48 =>
 p.guard t48 false H (fun k' => p.load true 9 t12 H fun t' => k' t' H) fun t50 H =>
 p.guard t48 false H (fun k' => p.load true 9 t10 H fun t' => k' t' H) fun t51 H =>
 p.guard t48 false H (fun k' => p.call 4 (.fn 15 [] []) [t50, t51] H fun t' H => k' t' H) fun t52 H =>
 p.guard t48 false H (fun k' => p.un .not t52 fun t' => k' t' H) fun t53 H =>
 p.pick t48 (.sc (.bool true)) t53 fun t54 =>
 p.cond t54
 (k (.sc (.bool false)) H)
 (p.load true 9 t12 H fun t55 =>
 p.call 3 (.fn 16 [] []) [t55, (.sc (.int .i64 1))] H fun t57 H =>
 p.load true 9 t12 H fun t58 =>
 p.call 3 (.fn 17 [] []) [t58, (.sc (.int .i64 1))] H fun t60 H =>
 p.bin .lss t60 (.sc (.int .i64 0)) fun t62 =>
 p.cond t62
 (k (.sc (.bool false)) H)
 (p.bin .neq t60 t57 fun t65 =>
 p.cond t65
 (k (.sc (.bool false)) H)
 (p.load true 9 t4 H fun t66 =>
 p.call 35 (.fn 13 [] []) [t66] H fun t67 H =>
 p.call 35 (.fn 19 [] []) [t67, a1, a2, a3] H fun t71 H =>
 p.new [(.sc (.string ⟨#[]⟩)), (.sc (.int .i64 0)), (.sc (.bool false)), (.sc (.int .i64 0)), (.sc (.int .i64 0)), (.sc (.int .i64 0)), .nl, .nl, .nl] H fun t16 H =>
 p.store 9 t16 t71 H fun H =>
 p.load true 9 t16 H fun t72 =>
 p.load true 9 t10 H fun t73 =>
 p.call 4 (.fn 15 [] []) [t72, t73] H fun t74 H =>
 p.un .not t74 fun t75 =>
 p.cond t75
 (k (.sc (.bool false)) H)
 (p.load true 9 t12 H fun t76 =>
 p.call 3 (.fn 17 [] []) [t76, (.sc (.int .i64 1))] H fun t78 H =>
 p.bin .lss t78 (.sc (.int .i64 0)) fun t80 =>
 p.cond t80
 (k (.sc (.bool false)) H)
 (p.bin .neq t78 t57 fun t83 =>
 p.cond t83
 (k (.sc (.bool false)) H)
 (k (.sc (.bool true)) H)))))))))
theorem f4_body (p : Pr β) (n : Nat) (a0 a1 a2 a3 : AV) (H : Heap) (k : AV → Heap → Option β) : evalBody ti0 p n ⟨c4, 84, Go.Proofs.Tryz.f4.results.toList, o4⟩ [a0, a1, a2, a3] H k = f4 p n a0 a1 a2 a3 H k := by kernel_rfl
noncomputable def f129 (p : Pr β) (n : Nat) (a0 a1 : AV) (H : Heap) (k : AV → Heap → Option β) : Option β :=
 p.box a1 H fun t3 H =>
 p.call 31 (.fn 151 [] []) [a0] H fun t8 H =>
 p.call 4 (.fn 144 [] []) [a0] H fun t10 H =>
 p.un .not t10 fun t11 =>
 p.guard t11 false H (fun k' => p.load true 4 t3 H fun t' => k' t' H) fun t13 H =>
 p.guard t11 false H (fun k' => p.call 4 (.fn 142 [] []) [t13] H fun t' H => k' t' H) fun t14 H =>
 p.guard t11 false H (fun k' => p.un .not t14 fun t' => k' t' H) fun t15 H =>
 p.pick t11 (.sc (.bool true)) t15 fun t16 =>
 p.cond t16
 (k (packA [t8, (.sc (.int .i64 2))]) H)
 (p.len a0 fun t19 =>
 p.bin .eql t19 (.sc (.int .i64 6)) fun t20 =>
 p.cond t20
 (p.fadr 2 t3 fun t21 =>
 p.load false 1 t21 H fun t22 =>
 p.bin .eql t22 (.sc (.int .i64 0)) fun t23 =>
 p.cond t23
 (k (packA [t8, (.sc (.int .i64 1))]) H)
 (k (packA [t8, (.sc (.int .i64 2))]) H))
 (p.load true 4 t3 H fun t27 =>
 p.call 49 (.fn 152 [] []) [t27] H fun t28 H =>
 p.fill [(.sc (.string ⟨#[]⟩)), .nl, (.sc (.int .i64 0)), (.sc (.bool false))] [(0, 4, t28)] fun ct29 => p.newSl 1 4 ct29 true H fun t29 H =>
 p.app 4 56 t8 t29 H fun t30 H =>
 k (packA [t30, (.sc (.int .i64 0))]) H))
theorem f129_body (p : Pr β) (n : Nat) (a0 a1 : AV) (H : Heap) (k : AV → Heap → Option β) : evalBody ti0 p n ⟨c129, 31, Go.Proofs.Tryz.f129.results.toList, o129⟩ [a0, a1] H k = f129 p n a0 a1 H k := by kernel_rfl
noncomputable def f68 (p : Pr β) (n : Nat) (a0 a1 : AV) (H : Heap) (k : AV → Heap → Option β) : Option β :=
 p.box a0 H fun t2 H =>
 p.box a1 H fun t3 H =>
 p.new [(.sc (.int .i64 0)), .nl, .nl] H fun t4 H =>
 p.load true 3 t2 H fun t9 =>
 p.call 33 (.fn 104 [] []) [t9] H fun t10 H =>
 p.new [(.sc (.int .i64 0)), .nl, .nl] H fun t6 H =>
 p.store 3 t6 t10 H fun H =>
 p.load true 3 t2 H fun t11 =>
 p.call 4 (.fn 84 [] []) [t11] H fun t12 H =>
 p.un .not t12 fun t13 =>
 p.cond t13
 (p.load true 3 t6 H fun t14 =>
 p.store 3 t4 t14 H fun H =>
 p.load true 3 t4 H fun r0 =>
 k (packA [r0, (.sc (.int .i64 2))]) H)
 (p.fadr 2 t2 fun t16 =>
 p.load false 1 t16 H fun t17 =>
 p.load true 4 t3 H fun t18 =>
 p.call 143 (.fn 129 [] []) [t17, t18] H fun t19 H =>
 p.extr t19 0 fun t20 =>
 p.extr t19 1 fun t21 =>
 p.fadr 2 t6 fun t23 =>
 p.store 1 t23 t20 H fun H =>
 p.load true 3 t6 H fun t24 =>
 p.store 3 t4 t24 H fun H =>
 p.load true 3 t4 H fun r0 =>
 k (packA [r0, t21]) H)
theorem f68_body (p : Pr β) (n : Nat) (a0 a1 : AV) (H : Heap) (k : AV → Heap → Option β) : evalBody ti0 p n ⟨c68, 26, Go.Proofs.Tryz.f68.results.toList, o68⟩ [a0, a1] H k = f68 p n a0 a1 H k := by kernel_rfl
noncomputable def f21 (p : Pr β) (n : Nat) (a0 a1 a2 : AV) (H : Heap) (k : AV → Heap → Option β) : Option β :=
 p.box a0 H fun t3 H =>
 p.box a2 H fun t5 H =>
 p.new [(.sc (.string ⟨#[]⟩)), (.sc (.int .i64 0)), (.sc (.bool false)), (.sc (.int .i64 0)), (.sc (.int .i64 0)), (.sc (.int .i64 0)), .nl, .nl, .nl] H fun t6 H =>
 p.load true 9 t3 H fun t11 =>
 p.call 35 (.fn 60 [] []) [t11] H fun t12 H =>
 p.new [(.sc (.string ⟨#[]⟩)), (.sc (.int .i64 0)), (.sc (.bool false)), (.sc (.int .i64 0)), (.sc (.int .i64 0)), (.sc (.int .i64 0)), .nl, .nl, .nl] H fun t8 H =>
 p.store 9 t8 t12 H fun H =>
 p.load true 9 t3 H fun t13 =>
 p.call 4 (.fn 31 [] []) [t13] H fun t14 H =>
 p.un .not t14 fun t15 =>
 p.guard t15 false H (fun k' => p.fadr 1 t3 fun t' => k' t' H) fun t17 H =>
 p.guard t15 false H (fun k' => p.load false 1 t17 H fun t' => k' t' H) fun t18 H =>
 p.guard t15 false H (fun k' => k' a1 H) fun t19 H =>
 p.guard t15 false H (fun k' => p.bin .neq t18 t19 fun t' => k' t' H) fun t20 H =>
 p.pick t15 (.sc (.bool true)) t20 fun t21 =>
 p.cond t21
 (p.load true 9 t8 H fun t22 =>
 p.store 9 t6 t22 H fun H =>
 p.load true 9 t6 H fun r0 =>
 k (packA [r0, (.sc (.int .i64 3))]) H)
 (p.fadr 5 t3 fun t24 =>
 p.load true 3 t24 H fun t25 =>
 p.load true 4 t5 H fun t26 =>
 p.call 99 (.fn 68 [] []) [t25, t26] H fun t27 H =>
 p.extr t27 0 fun t28 =>
 p.extr t27 1 fun t29 =>
 p.new [(.sc (.int .i64 0)), .nl, .nl] H fun t9 H =>
 p.store 3 t9 t28 H fun H =>
 p.load true 3 t9 H fun t30 =>
 p.fadr 5 t8 fun t31 =>
 p.store 3 t31 t30 H fun H =>
 p.bin .eql t29 (.sc (.int .i64 2)) fun t33 =>
 p.guard t33 true H (fun k' => p.fadr 3 t3 fun t' => k' t' H) fun t35 H =>
 p.guard t33 true H (fun k' => p.load false 1 t35 H fun t' => k' t' H) fun t36 H =>
 p.guard t33 true H (fun k' => p.bin .eql t36 (.sc (.int .i64 (-1))) fun t' => k' t' H) fun t37 H =>
 p.pick t33 t37 (.sc (.bool false)) fun t38 =>
 letJ (fun (t6 t8 t10 : AV) (H : Heap) => p.load true 9 t8 H fun t39 =>
 p.store 9 t6 t39 H fun H =>
 p.load true 9 t6 H fun r0 =>
 k (packA [r0, t10]) H) fun j1 =>
 p.cond t38
 (j1 t6 t8 (.sc (.int .i64 1)) H)
 (j1 t6 t8 t29 H))
theorem f21_body (p : Pr β) (n : Nat) (a0 a1 a2 : AV) (H : Heap) (k : AV → Heap → Option β) : evalBody ti0 p n ⟨c21, 41, Go.Proofs.Tryz.f21.results.toList, o21⟩ [a0, a1, a2] H k = f21 p n a0 a1 a2 H k := by kernel_rfl
noncomputable def f130 (p : Pr β) (n : Nat) (a0 a1 : AV) (H : Heap) (k : AV → Heap → Option β) : Option β :=
 p.box a1 H fun t3 H =>
 p.call 31 (.fn 154 [] []) [a0] H fun t8 H =>
 p.call 4 (.fn 140 [] []) [a0] H fun t11 H =>
 p.un .not t11 fun t12 =>
 p.guard t12 false H (fun k' => p.load true 4 t3 H fun t' => k' t' H) fun t14 H =>
 p.guard t12 false H (fun k' => p.call 4 (.fn 138 [] []) [t14] H fun t' H => k' t' H) fun t15 H =>
 p.guard t12 false H (fun k' => p.un .not t15 fun t' => k' t' H) fun t16 H =>
 p.pick t12 (.sc (.bool true)) t16 fun t17 =>
 p.cond t17
 (k (packA [t8, (.sc (.int .i64 2))]) H)
 (p.len a0 fun t21 =>
 p.bin .lss t21 (.sc (.int .i64 6)) fun t22 =>
 p.cond t22
 (p.load true 4 t3 H fun t24 =>
 p.call 49 (.fn 155 [] []) [t24] H fun t25 H =>
 p.fill [(.sc (.string ⟨#[]⟩)), .nl, (.sc (.int .i64 0)), (.sc (.bool false))] [(0, 4, t25)] fun ct26 => p.newSl 1 4 ct26 true H fun t26 H =>
 p.app 4 56 t8 t26 H fun t27 H =>
 k (packA [t27, (.sc (.int .i64 0))]) H)
 (p.fadr 2 t3 fun t29 =>
 p.load false 1 t29 H fun t30 =>
 p.bin .eql t30 (.sc (.int .i64 0)) fun t31 =>
 p.cond t31
 (k (packA [t8, (.sc (.int .i64 1))]) H)
 (k (packA [t8, (.sc (.int .i64 2))]) H)))
theorem f130_body (p : Pr β) (n : Nat) (a0 a1 : AV) (H : Heap) (k : AV → Heap → Option β) : evalBody ti0 p n ⟨c130, 34, Go.Proofs.Tryz.f130.results.toList, o130⟩ [a0, a1] H k = f130 p n a0 a1 H k := by kernel_rfl
noncomputable def f70 (p : Pr β) (n : Nat) (a0 a1 : AV) (H : Heap) (k : AV → Heap → Option β) : Option β :=
 p.box a0 H fun t2 H =>
 p.box a1 H fun t3 H =>
 p.new [(.sc (.int .i64 0)), .nl, .nl] H fun t4 H =>
 p.load true 3 t2 H fun t9 =>
 p.call 33 (.fn 108 [] []) [t9] H fun t10 H =>
 p.new [(.sc (.int .i64 0)), .nl, .nl] H fun t6 H =>
 p.store 3 t6 t10 H fun H =>
 p.load true 3 t2 H fun t11 =>
 p.call 4 (.fn 80 [] []) [t11] H fun t12 H =>
 p.un .not t12 fun t13 =>
 p.cond t13
 (p.load true 3 t6 H fun t14 =>
 p.store 3 t4 t14 H fun H =>
 p.load true 3 t4 H fun r0 =>
 k (packA [r0, (.sc (.int .i64 2))]) H)
 (p.fadr 2 t2 fun t16 =>
 p.load false 1 t16 H fun t17 =>
 p.load true 4 t3 H fun t18 =>
 p.call 143 (.fn 130 [] []) [t17, t18] H fun t19 H =>
 p.extr t19 0 fun t20 =>
 p.extr t19 1 fun t21 =>
 p.fadr 2 t6 fun t23 =>
 p.store 1 t23 t20 H fun H =>
 p.load true 3 t6 H fun t24 =>
 p.store 3 t4 t24 H fun H =>
 p.load true 3 t4 H fun r0 =>
 k (packA [r0, t21]) H)
theorem f70_body (p : Pr β) (n : Nat) (a0 a1 : AV) (H : Heap) (k : AV → Heap → Option β) : evalBody ti0 p n ⟨c70, 26, Go.Proofs.Tryz.f70.results.toList, o70⟩ [a0, a1] H k = f70 p n a0 a1 H k := by kernel_rfl
noncomputable def f23 (p : Pr β) (n : Nat) (a0 a1 a2 : AV) (H : Heap) (k : AV → Heap → Option β) : Option β :=
 p.box a0 H fun t3 H =>
 p.box a2 H fun t5 H =>
 p.new [(.sc (.string ⟨#[]⟩)), (.sc (.int .i64 0)), (.sc (.bool false)), (.sc (.int .i64 0)), (.sc (.int .i64 0)), (.sc (.int .i64 0)), .nl, .nl, .nl] H fun t6 H =>
 p.load true 9 t3 H fun t11 =>
 p.call 35 (.fn 62 [] []) [t11] H fun t12 H =>
 p.new [(.sc (.string ⟨#[]⟩)), (.sc (.int .i64 0)), (.sc (.bool false)), (.sc (.int .i64 0)), (.sc (.int .i64 0)), (.sc (.int .i64 0)), .nl, .nl, .nl] H fun t8 H =>
 p.store 9 t8 t12 H fun H =>
 p.load true 9 t3 H fun t13 =>
 p.call 4 (.fn 30 [] []) [t13] H fun t14 H =>
 p.un .not t14 fun t15 =>
 p.guard t15 false H (fun k' => p.fadr 1 t3 fun t' => k' t' H) fun t17 H =>
 p.guard t15 false H (fun k' => p.load false 1 t17 H fun t' => k' t' H) fun t18 H =>
 p.guard t15 false H (fun k' => k' a1 H) fun t19 H =>
 p.guard t15 false H (fun k' => p.bin .neq t18 t19 fun t' => k' t' H) fun t20 H =>
 p.pick t15 (.sc (.bool true)) t20 fun t21 =>
 p.cond t21
 (p.load true 9 t8 H fun t22 =>
 p.store 9 t6 t22 H fun H =>
 p.load true 9 t6 H fun r0 =>
 k (packA [r0, (.sc (.int .i64 3))]) H)
 (p.fadr 5 t3 fun t24 =>
 p.load true 3 t24 H fun t25 =>
 p.load true 4 t5 H fun t26 =>
 p.call 99 (.fn 70 [] []) [t25, t26] H fun t27 H =>
 p.extr t27 0 fun t28 =>
 p.extr t27 1 fun t29 =>
 p.new [(.sc (.int .i64 0)), .nl, .nl] H fun t9 H =>
 p.store 3 t9 t28 H fun H =>
 p.load true 3 t9 H fun t30 =>
 p.fadr 5 t8 fun t31 =>
 p.store 3 t31 t30 H fun H =>
 p.bin .eql t29 (.sc (.int .i64 2)) fun t33 =>
 p.guard t33 true H (fun k' => p.fadr 3 t3 fun t' => k' t' H) fun t35 H =>
 p.guard t33 true H (fun k' => p.load false 1 t35 H fun t' => k' t' H) fun t36 H =>
 p.guard t33 true H (fun k' => p.bin .eql t36 (.sc (.int .i64 (-1))) fun t' => k' t' H) fun t37 H =>
 p.pick t33 t37 (.sc (.bool false)) fun t38 =>
 letJ (fun (t6 t8 t10 : AV) (H : Heap) => p.load true 9 t8 H fun t39 =>
 p.store 9 t6 t39 H fun H =>
 p.load true 9 t6 H fun r0 =>
 k (packA [r0, t10]) H) fun j1 =>
 p.cond t38
 (j1 t6 t8 (.sc (.int .i64 1)) H)
 (j1 t6 t8 t29 H))
theorem f23_body (p : Pr β) (n : Nat) (a0 a1 a2 : AV) (H : Heap) (k : AV → Heap → Option β) : evalBody ti0 p n ⟨c23, 41, Go.Proofs.Tryz.f23.results.toList, o23⟩ [a0, a1, a2] H k = f23 p n a0 a1 a2 H k := by kernel_rfl
noncomputable def f25 (p : Pr β) (n : Nat) (a0 a1 : AV) (H : Heap) (k : AV → Heap → Option β) : Option β :=
 p.box a0 H fun t2 H =>
 p.fadr 1 t2 fun t5 =>
 p.load false 1 t5 H fun t6 =>
 p.call 3 (.fn 72 [] []) [t6, a1] H fun t8 H =>
 k t8 H
theorem f25_body (p : Pr β) (n : Nat) (a0 a1 : AV) (H : Heap) (k : AV → Heap → Option β) : evalBody ti0 p n ⟨c25, 10, Go.Proofs.Tryz.f25.results.toList, o25⟩ [a0, a1] H k = f25 p n a0 a1 H k := by kernel_rfl
noncomputable def f5 (p : Pr β) (n : Nat) (a0 a1 a2 : AV) (H : Heap) (k : AV → Heap → Option β) : Option β :=
 p.box a0 H fun t3 H =>
 p.box a2 H fun t5 H =>
 p.load true 9 t3 H fun t19 =>
 p.call 3 (.fn 11 [] []) [t19, (.sc (.int .i64 1048576))] H fun t21 H =>
 p.bin .lss t21 (.sc (.int .i64 0)) fun t23 =>
 p.cond t23
 (k (.sc (.bool true)) H)
 (p.load true 4 t5 H fun t24 =>
 p.call 3 (.fn 20 [] []) [t24, t21] H fun t26 H =>
 p.bin .lss t26 (.sc (.int .i64 0)) fun t28 =>
 p.cond t28
 (k (.sc (.bool true)) H)
 (p.load true 9 t3 H fun t30 =>
 p.load true 4 t5 H fun t33 =>
 p.both
 (p.call 35 (.fn 13 [] []) [t30] H fun t31 H =>
 p.both
 (p.call 49 (.fn 22 [] []) [t33] H fun t34 H =>
 p.both
 (p.call 47 (.fn 21 [] []) [t31, a1, t34] H fun t35 H =>
 p.extr t35 0 fun t36 =>
 p.extr t35 1 fun t37 =>
 p.new [(.sc (.string ⟨#[]⟩)), (.sc (.int .i64 0)), (.sc (.bool false)), (.sc (.int .i64 0)), (.sc (.int .i64 0)), (.sc (.int .i64 0)), .nl, .nl, .nl] H fun t8 H =>
 p.store 9 t8 t36 H fun H =>
 p.load true 9 t3 H fun t38 =>
 p.call 35 (.fn 13 [] []) [t38] H fun t39 H =>
 p.new [(.sc (.string ⟨#[]⟩)), (.sc (.int .i64 0)), (.sc (.bool false)), (.sc (.int .i64 0)), (.sc (.int .i64 0)), (.sc (.int .i64 0)), .nl, .nl, .nl] H fun t10 H =>
 p.store 9 t10 t39 H fun H =>
 p.load true 4 t5 H fun t40 =>
 p.call 49 (.fn 22 [] []) [t40] H fun t41 H =>
 p.new [(.sc (.string ⟨#[]⟩)), .nl, (.sc (.int .i64 0)), (.sc (.bool false))] H fun t11 H =>
 p.store 4 t11 t41 H fun H =>
 p.load true 9 t10 H fun t43 =>
 p.load true 4 t11 H fun t45 =>
 p.call 47 (.fn 23 [] []) [t43, a1, t45] H fun t46 H =>
 p.extr t46 0 fun t47 =>
 p.extr t46 1 fun t48 =>
 p.new [(.sc (.string ⟨#[]⟩)), (.sc (.int .i64 0)), (.sc (.bool false)), (.sc (.int .i64 0)), (.sc (.int .i64 0)), (.sc (.int .i64 0)), .nl, .nl, .nl] H fun t12 H =>
 p.store 9 t12 t47 H fun H =>
 p.load true 9 t12 H fun t49 =>
 p.load true 9 t8 H fun t50 =>
 p.call 4 (.fn 15 [] []) [t49, t50] H fun t51 H =>
 p.un .not t51 fun t52 =>
 p.guard t52 false H (fun k' => k' t48 H) fun t54 H =>
 p.guard t52 false H (fun k' => k' t37 H) fun t55 H =>
 p.guard t52 false H (fun k' => p.bin .neq t54 t55 fun t' => k' t' H) fun t56 H =>
 p.pick t52 (.sc (.bool true)) t56 fun t57 =>
 p.cond t57
 (k (.sc (.bool false)) H)
 (p.load true 9 t10 H fun t58 =>
 p.load true 9 t3 H fun t59 =>
 p.call 35 (.fn 13 [] []) [t59] H fun t60 H =>
 p.call 4 (.fn 15 [] []) [t58, t60] H fun t61 H =>
 p.un .not t61 fun t62 =>
 p.cond t62
 (k (.sc (.bool false)) H)
 (p.load true 4 t11 H fun t63 =>
 p.load true 4 t5 H fun t64 =>
 p.call 49 (.fn 22 [] []) [t64] H fun t65 H =>
 p.call 4 (.fn 24 [] []) [t63, t65] H fun t66 H =>
 p.un .not t66 fun t67 =>
 p.cond t67
 (k (.sc (.bool false)) H)
 (p.load true 9 t10 H fun t68 =>
 p.call 3 (.fn 16 [] []) [t68, (.sc (.int .i64 1))] H fun t70 H =>
 p.load true 4 t11 H fun t71 =>
 p.call 3 (.fn 25 [] []) [t71, t70] H fun t73 H =>
 p.bin .lss t73 (.sc (.int .i64 0)) fun t75 =>
 p.guard t75 false H (fun k' => p.load true 9 t12 H fun t' => k' t' H) fun t77 H =>
 p.guard t75 false H (fun k' => p.load true 9 t8 H fun t' => k' t' H) fun t78 H =>
 p.guard t75 false H (fun k' => p.call 4 (.fn 15 [] []) [t77, t78] H fun t' H => k' t' H) fun t79 H =>
 p.guard t75 false H (fun k' => p.un .not t79 fun t' => k' t' H) fun t80 H =>
 p.pick t75 (.sc (.bool true)) t80 fun t81 =>
 p.guard t81 false H (fun k' => k' t48 H) fun t83 H =>
 p.guard t81 false H (fun k' => k' t37 H) fun t84 H =>
 p.guard t81 false H (fun k' => p.bin .neq t83 t84 fun t' => k' t' H) fun t85 H =>
 p.pick t81 (.sc (.bool true)) t85 fun t86 =>
 p.cond t86
 (k (.sc (.bool false)) H)
 (p.load true 9 t12 H fun t87 =>
 p.call 3 (.fn 16 [] []) [t87, (.sc (.int .i64 1))] H fun t89 H =>
 p.load true 9 t12 H fun t90 =>
 p.call 3 (.fn 17 [] []) [t90, (.sc (.int .i64 1))] H fun t92 H =>
 p.bin .lss t92 (.sc (.int .i64 0)) fun t94 =>
 p.cond t94
 (k (.sc (.bool false)) H)
 (p.bin .neq t92 t89 fun t97 =>
 p.cond t97
 (k (.sc (.bool false)) H)
 (p.load true 9 t3 H fun t99 =>
 p.load true 4 t5 H fun t102 =>
 p.both
 (p.call 35 (.fn 13 [] []) [t99] H fun t100 H =>
 p.both
 (p.call 49 (.fn 22 [] []) [t102] H fun t103 H =>
 p.both
 (p.call 47 (.fn 23 [] []) [t100, a1, t103] H fun t104 H =>
 p.extr t104 0 fun t105 =>
 p.extr t104 1 fun t106 =>
 p.new [(.sc (.string ⟨#[]⟩)), (.sc (.int .i64 0)), (.sc (.bool false)), (.sc (.int .i64 0)), (.sc (.int .i64 0)), (.sc (.int .i64 0)), .nl, .nl, .nl] H fun t17 H =>
 p.store 9 t17 t105 H fun H =>
 p.load true 9 t17 H fun t107 =>
 p.load true 9 t8 H fun t108 =>
 p.call 4 (.fn 15 [] []) [t107, t108] H fun t109 H =>
 p.un .not t109 fun t110 =>
 p.guard t110 false H (fun k' => k' t106 H) fun t112 H =>
 p.guard t110 false H (fun k' => k' t37 H) fun t113 H =>
 p.guard t110 false H (fun k' => p.bin .neq t112 t113 fun t' => k' t' H) fun t114 H =>
 p.pick t110 (.sc (.bool true)) t114 fun t115 =>
 p.cond t115
 (k (.sc (.bool false)) H)
 (p.load true 9 t12 H fun t116 =>
 p.call 3 (.fn 17 [] []) [t116, (.sc (.int .i64 1))] H fun t118 H =>
 p.bin .lss t118 (.sc (.int .i64 0)) fun t120 =>
 p.cond t120
 (k (.sc (.bool false)) H)
 (p.bin .neq t118 t89 fun t123 =>
 p.cond t123
 (k (.sc (.bool false)) H)
 (k (.sc (.bool true)) H))))
 (p.new [(.sc (.string ⟨#[]⟩)), (.sc (.int .i64 0)), (.sc (.bool false)), (.sc (.int .i64 0)), (.sc (.int .i64 0)), (.sc (.int .i64 0)), .nl, .nl, .nl] H fun t17 H =>
 p.call 47 (.fn 23 [] []) [t100, a1, t103] H fun t104 H =>
 p.extr t104 0 fun t105 =>
 p.extr t104 1 fun t106 =>
 p.store 9 t17 t105 H fun H =>
 p.load true 9 t17 H fun t107 =>
 p.load true 9 t8 H fun t108 =>
 p.call 4 (.fn 15 [] []) [t107, t108] H fun t109 H =>
 p.un .not t109 fun t110 =>
 p.guard t110 false H (fun k' => k' t106 H) fun t112 H =>
 p.guard t110 false H (fun k' => k' t37 H) fun t113 H =>
 p.guard t110 false H (fun k' => p.bin .neq t112 t113 fun t' => k' t' H) fun t114 H =>
 p.pick t110 (.sc (.bool true)) t114 fun t115 =>
 p.cond t115
 (k (.sc (.bool false)) H)
 (p.load true 9 t12 H fun t116 =>
 p.call 3 (.fn 17 [] []) [t116, (.sc (.int .i64 1))] H fun t118 H =>
 p.bin .lss t118 (.sc (.int .i64 0)) fun t120 =>
 p.cond t120
 (k (.sc (.bool false)) H)
 (p.bin .neq t118 t89 fun t123 =>
 p.cond t123
 (k (.sc (.bool false)) H)
 (k (.sc (.bool true)) H)))))
 (p.new [(.sc (.string ⟨#[]⟩)), (.sc (.int .i64 0)), (.sc (.bool false)), (.sc (.int .i64 0)), (.sc (.int .i64 0)), (.sc (.int .i64 0)), .nl, .nl, .nl] H fun t17 H =>
 p.call 49 (.fn 22 [] []) [t102] H fun t103 H =>
 p.call 47 (.fn 23 [] []) [t100, a1, t103] H fun t104 H =>
 p.extr t104 0 fun t105 =>
 p.extr t104 1 fun t106 =>
 p.store 9 t17 t105 H fun H =>
 p.load true 9 t17 H fun t107 =>
 p.load true 9 t8 H fun t108 =>
 p.call 4 (.fn 15 [] []) [t107, t108] H fun t109 H =>
 p.un .not t109 fun t110 =>
 p.guard t110 false H (fun k' => k' t106 H) fun t112 H =>
 p.guard t110 false H (fun k' => k' t37 H) fun t113 H =>
 p.guard t110 false H (fun k' => p.bin .neq t112 t113 fun t' => k' t' H) fun t114 H =>
 p.pick t110 (.sc (.bool true)) t114 fun t115 =>
 p.cond t115
 (k (.sc (.bool false)) H)
 (p.load true 9 t12 H fun t116 =>
 p.call 3 (.fn 17 [] []) [t116, (.sc (.int .i64 1))] H fun t118 H =>
 p.bin .lss t118 (.sc (.int .i64 0)) fun t120 =>
 p.cond t120
 (k (.sc (.bool false)) H)
 (p.bin .neq t118 t89 fun t123 =>
 p.cond t123
 (k (.sc (.bool false)) H)
 (k (.sc (.bool true)) H)))))
 (p.new [(.sc (.string ⟨#[]⟩)), (.sc (.int .i64 0)), (.sc (.bool false)), (.sc (.int .i64 0)), (.sc (.int .i64 0)), (.sc (.int .i64 0)), .nl, .nl, .nl] H fun t17 H =>
 p.call 35 (.fn 13 [] []) [t99] H fun t100 H =>
 p.call 49 (.fn 22 [] []) [t102] H fun t103 H =>
 p.call 47 (.fn 23 [] []) [t100, a1, t103] H fun t104 H =>
 p.extr t104 0 fun t105 =>
 p.extr t104 1 fun t106 =>
 p.store 9 t17 t105 H fun H =>
 p.load true 9 t17 H fun t107 =>
 p.load true 9 t8 H fun t108 =>
 p.call 4 (.fn 15 [] []) [t107, t108] H fun t109 H =>
 p.un .not t109 fun t110 =>
 p.guard t110 false H (fun k' => k' t106 H) fun t112 H =>
 p.guard t110 false H (fun k' => k' t37 H) fun t113 H =>
 p.guard t110 false H (fun k' => p.bin .neq t112 t113 fun t' => k' t' H) fun t114 H =>
 p.pick t110 (.sc (.bool true)) t114 fun t115 =>
 p.cond t115
 (k (.sc (.bool false)) H)
 (p.load true 9 t12 H fun t116 =>
 p.call 3 (.fn 17 [] []) [t116, (.sc (.int .i64 1))] H fun t118 H =>
 p.bin .lss t118 (.sc (.int .i64 0)) fun t120 =>
 p.cond t120
 (k (.sc (.bool false)) H)
 (p.bin .neq t118 t89 fun t123 =>
 p.cond t123
 (k (.sc (.bool false)) H)
 (k (.sc (.bool true)) H)))))))))))
 (p.new [(.sc (.string ⟨#[]⟩)), (.sc (.int .i64 0)), (.sc (.bool false)), (.sc (.int .i64 0)), (.sc (.int .i64 0)), (.sc (.int .i64 0)), .nl, .nl, .nl] H fun t8 H =>
 p.call 47 (.fn 21 [] []) [t31, a1, t34] H fun t35 H =>
 p.extr t35 0 fun t36 =>
 p.extr t35 1 fun t37 =>
 p.store 9 t8 t36 H fun H =>
 p.load true 9 t3 H fun t38 =>
 p.call 35 (.fn 13 [] []) [t38] H fun t39 H =>
 p.new [(.sc (.string ⟨#[]⟩)), (.sc (.int .i64 0)), (.sc (.bool false)), (.sc (.int .i64 0)), (.sc (.int .i64 0)), (.sc (.int .i64 0)), .nl, .nl, .nl] H fun t10 H =>
 p.store 9 t10 t39 H fun H =>
 p.load true 4 t5 H fun t40 =>
 p.call 49 (.fn 22 [] []) [t40] H fun t41 H =>
 p.new [(.sc (.string ⟨#[]⟩)), .nl, (.sc (.int .i64 0)), (.sc (.bool false))] H fun t11 H =>
 p.store 4 t11 t41 H fun H =>
 p.load true 9 t10 H fun t43 =>
 p.load true 4 t11 H fun t45 =>
 p.call 47 (.fn 23 [] []) [t43, a1, t45] H fun t46 H =>
 p.extr t46 0 fun t47 =>
 p.extr t46 1 fun t48 =>
 p.new [(.sc (.string ⟨#[]⟩)), (.sc (.int .i64 0)), (.sc (.bool false)), (.sc (.int .i64 0)), (.sc (.int .i64 0)), (.sc (.int .i64 0)), .nl, .nl, .nl] H fun t12 H =>
 p.store 9 t12 t47 H fun H =>
 p.load true 9 t12 H fun t49 =>
 p.load true 9 t8 H fun t50 =>
 p.call 4 (.fn 15 [] []) [t49, t50] H fun t51 H =>
 p.un .not t51 fun t52 =>
 p.guard t52 false H (fun k' => k' t48 H) fun t54 H =>
 p.guard t52 false H (fun k' => k' t37 H) fun t55 H =>
 p.guard t52 false H (fun k' => p.bin .neq t54 t55 fun t' => k' t' H) fun t56 H =>
 p.pick t52 (.sc (.bool true)) t56 fun t57 =>
 p.cond t57
 (k (.sc (.bool false)) H)
 (p.load true 9 t10 H fun t58 =>
 p.load true 9 t3 H fun t59 =>
 p.call 35 (.fn 13 [] []) [t59] H fun t60 H =>
 p.call 4 (.fn 15 [] []) [t58, t60] H fun t61 H =>
 p.un .not t61 fun t62 =>
 p.cond t62
 (k (.sc (.bool false)) H)
 (p.load true 4 t11 H fun t63 =>
 p.load true 4 t5 H fun t64 =>
 p.call 49 (.fn 22 [] []) [t64] H fun t65 H =>
 p.call 4 (.fn 24 [] []) [t63, t65] H fun t66 H =>
 p.un .not t66 fun t67 =>
 p.cond t67
 (k (.sc (.bool false)) H)
 (p.load true 9 t10 H fun t68 =>
 p.call 3 (.fn 16 [] []) [t68, (.sc (.int .i64 1))] H fun t70 H =>
 p.load true 4 t11 H fun t71 =>
 p.call 3 (.fn 25 [] []) [t71, t70] H fun t73 H =>
 p.bin .lss t73 (.sc (.int .i64 0)) fun t75 =>
 p.guard t75 false H (fun k' => p.load true 9 t12 H fun t' => k' t' H) fun t77 H =>
 p.guard t75 false H (fun k' => p.load true 9 t8 H fun t' => k' t' H) fun t78 H =>
 p.guard t75 false H (fun k' => p.call 4 (.fn 15 [] []) [t77, t78] H fun t' H => k' t' H) fun t79 H =>
 p.guard t75 false H (fun k' => p.un .not t79 fun t' => k' t' H) fun t80 H =>
 p.pick t75 (.sc (.bool true)) t80 fun t81 =>
 p.guard t81 false H (fun k' => k' t48 H) fun t83 H =>
 p.guard t81 false H (fun k' => k' t37 H) fun t84 H =>
 p.guard t81 false H (fun k' => p.bin .neq t83 t84 fun t' => k' t' H) fun t85 H =>
 p.pick t81 (.sc (.bool true)) t85 fun t86 =>
 p.cond t86
 (k (.sc (.bool false)) H)
 (p.load true 9 t12 H fun t87 =>
 p.call 3 (.fn 16 [] []) [t87, (.sc (.int .i64 1))] H fun t89 H =>
 p.load true 9 t12 H fun t90 =>
 p.call 3 (.fn 17 [] []) [t90, (.sc (.int .i64 1))] H fun t92 H =>
 p.bin .lss t92 (.sc (.int .i64 0)) fun t94 =>
 p.cond t94
 (k (.sc (.bool false)) H)
 (p.bin .neq t92 t89 fun t97 =>
 p.cond t97
 (k (.sc (.bool false)) H)
 (p.load true 9 t3 H fun t99 =>
 p.load true 4 t5 H fun t102 =>
 p.both
 (p.call 35 (.fn 13 [] []) [t99] H fun t100 H =>
 p.both
 (p.call 49 (.fn 22 [] []) [t102] H fun t103 H =>
 p.both
 (p.call 47 (.fn 23 [] []) [t100, a1, t103] H fun t104 H =>
 p.extr t104 0 fun t105 =>
 p.extr t104 1 fun t106 =>
 p.new [(.sc (.string ⟨#[]⟩)), (.sc (.int .i64 0)), (.sc (.bool false)), (.sc (.int .i64 0)), (.sc (.int .i64 0)), (.sc (.int .i64 0)), .nl, .nl, .nl] H fun t17 H =>
 p.store 9 t17 t105 H fun H =>
 p.load true 9 t17 H fun t107 =>
 p.load true 9 t8 H fun t108 =>
 p.call 4 (.fn 15 [] []) [t107, t108] H fun t109 H =>
 p.un .not t109 fun t110 =>
 p.guard t110 false H (fun k' => k' t106 H) fun t112 H =>
 p.guard t110 false H (fun k' => k' t37 H) fun t113 H =>
 p.guard t110 false H (fun k' => p.bin .neq t112 t113 fun t' => k' t' H) fun t114 H =>
 p.pick t110 (.sc (.bool true)) t114 fun t115 =>
 p.cond t115
 (k (.sc (.bool false)) H)
 (p.load true 9 t12 H fun t116 =>
 p.call 3 (.fn 17 [] []) [t116, (.sc (.int .i64 1))] H fun t118 H =>
 p.bin .lss t118 (.sc (.int .i64 0)) fun t120 =>
 p.cond t120
 (k (.sc (.bool false)) H)
 (p.bin .neq t118 t89 fun t123 =>
 p.cond t123
 (k (.sc (.bool false)) H)
 (k (.sc (.bool true)) H))))
 (p.new [(.sc (.string ⟨#[]⟩)), (.sc (.int .i64 0)), (.sc (.bool false)), (.sc (.int .i64 0)), (.sc (.int .i64 0)), (.sc (.int .i64 0)), .nl, .nl, .nl] H fun t17 H =>
 p.call 47 (.fn 23 [] []) [t100, a1, t103] H fun t104 H =>
 p.extr t104 0 fun t105 =>
 p.extr t104 1 fun t106 =>
 p.store 9 t17 t105 H fun H =>
 p.load true 9 t17 H fun t107 =>
 p.load true 9 t8 H fun t108 =>
 p.call 4 (.fn 15 [] []) [t107, t108] H fun t109 H =>
 p.un .not t109 fun t110 =>
 p.guard t110 false H (fun k' => k' t106 H) fun t112 H =>
 p.guard t110 false H (fun k' => k' t37 H) fun t113 H =>
 p.guard t110 false H (fun k' => p.bin .neq t112 t113 fun t' => k' t' H) fun t114 H =>
 p.pick t110 (.sc (.bool true)) t114 fun t115 =>
 p.cond t115
 (k (.sc (.bool false)) H)
 (p.load true 9 t12 H fun t116 =>
 p.call 3 (.fn 17 [] []) [t116, (.sc (.int .i64 1))] H fun t118 H =>
 p.bin .lss t118 (.sc (.int .i64 0)) fun t120 =>
 p.cond t120
 (k (.sc (.bool false)) H)
 (p.bin .neq t118 t89 fun t123 =>
 p.cond t123
 (k (.sc (.bool false)) H)
 (k (.sc (.bool true)) H)))))
 (p.new [(.sc (.string ⟨#[]⟩)), (.sc (.int .i64 0)), (.sc (.bool false)), (.sc (.int .i64 0)), (.sc (.int .i64 0)), (.sc (.int .i64 0)), .nl, .nl, .nl] H fun t17 H =>
 p.call 49 (.fn 22 [] []) [t102] H fun t103 H =>
 p.call 47 (.fn 23 [] []) [t100, a1, t103] H fun t104 H =>
 p.extr t104 0 fun t105 =>
 p.extr t104 1 fun t106 =>
 p.store 9 t17 t105 H fun H =>
 p.load true 9 t17 H fun t107 =>
 p.load true 9 t8 H fun t108 =>
 p.call 4 (.fn 15 [] []) [t107, t108] H fun t109 H =>
 p.un .not t109 fun t110 =>
 p.guard t110 false H (fun k' => k' t106 H) fun t112 H =>
 p.guard t110 false H (fun k' => k' t37 H) fun t113 H =>
 p.guard t110 false H (fun k' => p.bin .neq t112 t113 fun t' => k' t' H) fun t114 H =>
 p.pick t110 (.sc (.bool true)) t114 fun t115 =>
 p.cond t115
 (k (.sc (.bool false)) H)
 (p.load true 9 t12 H fun t116 =>
 p.call 3 (.fn 17 [] []) [t116, (.sc (.int .i64 1))] H fun t118 H =>
 p.bin .lss t118 (.sc (.int .i64 0)) fun t120 =>
 p.cond t120
 (k (.sc (.bool false)) H)
 (p.bin .neq t118 t89 fun t123 =>
 p.cond t123
 (k (.sc (.bool false)) H)
 (k (.sc (.bool true)) H)))))
 (p.new [(.sc (.string ⟨#[]⟩)), (.sc (.int .i64 0)), (.sc (.bool false)), (.sc (.int .i64 0)), (.sc (.int .i64 0)), (.sc (.int .i64 0)), .nl, .nl, .nl] H fun t17 H =>
 p.call 35 (.fn 13 [] []) [t99] H fun t100 H =>
 p.call 49 (.fn 22 [] []) [t102] H fun t103 H =>
 p.call 47 (.fn 23 [] []) [t100, a1, t103] H fun t104 H =>
 p.extr t104 0 fun t105 =>
 p.extr t104 1 fun t106 =>
 p.store 9 t17 t105 H fun H =>
 p.load true 9 t17 H fun t107 =>
 p.load true 9 t8 H fun t108 =>
 p.call 4 (.fn 15 [] []) [t107, t108] H fun t109 H =>
 p.un .not t109 fun t110 =>
 p.guard t110 false H (fun k' => k' t106 H) fun t112 H =>
 p.guard t110 false H (fun k' => k' t37 H) fun t113 H =>
 p.guard t110 false H (fun k' => p.bin .neq t112 t113 fun t' => k' t' H) fun t114 H =>
 p.pick t110 (.sc (.bool true)) t114 fun t115 =>
 p.cond t115
 (k (.sc (.bool false)) H)
 (p.load true 9 t12 H fun t116 =>
 p.call 3 (.fn 17 [] []) [t116, (.sc (.int .i64 1))] H fun t118 H =>
 p.bin .lss t118 (.sc (.int .i64 0)) fun t120 =>
 p.cond t120
 (k (.sc (.bool false)) H)
 (p.bin .neq t118 t89 fun t123 =>
 p.cond t123
 (k (.sc (.bool false)) H)
 (k (.sc (.bool true)) H))))))))))))
 (p.new [(.sc (.string ⟨#[]⟩)), (.sc (.int .i64 0)), (.sc (.bool false)), (.sc (.int .i64 0)), (.sc (.int .i64 0)), (.sc (.int .i64 0)), .nl, .nl, .nl] H fun t8 H =>
 p.call 49 (.fn 22 [] []) [t33] H fun t34 H =>
 p.call 47 (.fn 21 [] []) [t31, a1, t34] H fun t35 H =>
 p.extr t35 0 fun t36 =>
 p.extr t35 1 fun t37 =>
 p.store 9 t8 t36 H fun H =>
 p.load true 9 t3 H fun t38 =>
 p.call 35 (.fn 13 [] []) [t38] H fun t39 H =>
 p.new [(.sc (.string ⟨#[]⟩)), (.sc (.int .i64 0)), (.sc (.bool false)), (.sc (.int .i64 0)), (.sc (.int .i64 0)), (.sc (.int .i64 0)), .nl, .nl, .nl] H fun t10 H =>
 p.store 9 t10 t39 H fun H =>
 p.load true 4 t5 H fun t40 =>
 p.call 49 (.fn 22 [] []) [t40] H fun t41 H =>
 p.new [(.sc (.string ⟨#[]⟩)), .nl, (.sc (.int .i64 0)), (.sc (.bool false))] H fun t11 H =>
 p.store 4 t11 t41 H fun H =>
 p.load true 9 t10 H fun t43 =>
 p.load true 4 t11 H fun t45 =>
 p.call 47 (.fn 23 [] []) [t43, a1, t45] H fun t46 H =>
 p.extr t46 0 fun t47 =>
 p.extr t46 1 fun t48 =>
 p.new [(.sc (.string ⟨#[]⟩)), (.sc (.int .i64 0)), (.sc (.bool false)), (.sc (.int .i64 0)), (.sc (.int .i64 0)), (.sc (.int .i64 0)), .nl, .nl, .nl] H fun t12 H =>
 p.store 9 t12 t47 H fun H =>
 p.load true 9 t12 H fun t49 =>
 p.load true 9 t8 H fun t50 =>
 p.call 4 (.fn 15 [] []) [t49, t50] H fun t51 H =>
 p.un .not t51 fun t52 =>
 p.guard t52 false H (fun k' => k' t48 H) fun t54 H =>
 p.guard t52 false H (fun k' => k' t37 H) fun t55 H =>
 p.guard t52 false H (fun k' => p.bin .neq t54 t55 fun t' => k' t' H) fun t56 H =>
 p.pick t52 (.sc (.bool true)) t56 fun t57 =>
 p.cond t57
 (k (.sc (.bool false)) H)
 (p.load true 9 t10 H fun t58 =>
 p.load true 9 t3 H fun t59 =>
 p.call 35 (.fn 13 [] []) [t59] H fun t60 H =>
 p.call 4 (.fn 15 [] []) [t58, t60] H fun t61 H =>
 p.un .not t61 fun t62 =>
 p.cond t62
 (k (.sc (.bool false)) H)
 (p.load true 4 t11 H fun t63 =>
 p.load true 4 t5 H fun t64 =>
 p.call 49 (.fn 22 [] []) [t64] H fun t65 H =>
 p.call 4 (.fn 24 [] []) [t63, t65] H fun t66 H =>
 p.un .not t66 fun t67 =>
 p.cond t67
 (k (.sc (.bool false)) H)
 (p.load true 9 t10 H fun t68 =>
 p.call 3 (.fn 16 [] []) [t68, (.sc (.int .i64 1))] H fun t70 H =>
 p.load true 4 t11 H fun t71 =>
 p.call 3 (.fn 25 [] []) [t71, t70] H fun t73 H =>
 p.bin .lss t73 (.sc (.int .i64 0)) fun t75 =>
 p.guard t75 false H (fun k' => p.load true 9 t12 H fun t' => k' t' H) fun t77 H =>
 p.guard t75 false H (fun k' => p.load true 9 t8 H fun t' => k' t' H) fun t78 H =>
 p.guard t75 false H (fun k' => p.call 4 (.fn 15 [] []) [t77, t78] H fun t' H => k' t' H) fun t79 H =>
 p.guard t75 false H (fun k' => p.un .not t79 fun t' => k' t' H) fun t80 H =>
 p.pick t75 (.sc (.bool true)) t80 fun t81 =>
 p.guard t81 false H (fun k' => k' t48 H) fun t83 H =>
 p.guard t81 false H (fun k' => k' t37 H) fun t84 H =>
 p.guard t81 false H (fun k' => p.bin .neq t83 t84 fun t' => k' t' H) fun t85 H =>
 p.pick t81 (.sc (.bool true)) t85 fun t86 =>
 p.cond t86
 (k (.sc (.bool false)) H)
 (p.load true 9 t12 H fun t87 =>
 p.call 3 (.fn 16 [] []) [t87, (.sc (.int .i64 1))] H fun t89 H =>
 p.load true 9 t12 H fun t90 =>
 p.call 3 (.fn 17 [] []) [t90, (.sc (.int .i64 1))] H fun t92 H =>
 p.bin .lss t92 (.sc (.int .i64 0)) fun t94 =>
 p.cond t94
 (k (.sc (.bool false)) H)
 (p.bin .neq t92 t89 fun t97 =>
 p.cond t97
 (k (.sc (.bool false)) H)
 (p.load true 9 t3 H fun t99 =>
 p.load true 4 t5 H fun t102 =>
 p.both
 (p.call 35 (.fn 13 [] []) [t99] H fun t100 H =>
 p.both
 (p.call 49 (.fn 22 [] []) [t102] H fun t103 H =>
 p.both
 (p.call 47 (.fn 23 [] []) [t100, a1, t103] H fun t104 H =>
 p.extr t104 0 fun t105 =>
 p.extr t104 1 fun t106 =>
 p.new [(.sc (.string ⟨#[]⟩)), (.sc (.int .i64 0)), (.sc (.bool false)), (.sc (.int .i64 0)), (.sc (.int .i64 0)), (.sc (.int .i64 0)), .nl, .nl, .nl] H fun t17 H =>
 p.store 9 t17 t105 H fun H =>
 p.load true 9 t17 H fun t107 =>
 p.load true 9 t8 H fun t108 =>
 p.call 4 (.fn 15 [] []) [t107, t108] H fun t109 H =>
 p.un .not t109 fun t110 =>
 p.guard t110 false H (fun k' => k' t106 H) fun t112 H =>
 p.guard t110 false H (fun k' => k' t37 H) fun t113 H =>
 p.guard t110 false H (fun k' => p.bin .neq t112 t113 fun t' => k' t' H) fun t114 H =>
 p.pick t110 (.sc (.bool true)) t114 fun t115 =>
 p.cond t115
 (k (.sc (.bool false)) H)
 (p.load true 9 t12 H fun t116 =>
 p.call 3 (.fn 17 [] []) [t116, (.sc (.int .i64 1))] H fun t118 H =>
 p.bin .lss t118 (.sc (.int .i64 0)) fun t120 =>
 p.cond t120
 (k (.sc (.bool false)) H)
 (p.bin .neq t118 t89 fun t123 =>
 p.cond t123
 (k (.sc (.bool false)) H)
 (k (.sc (.bool true)) H))))
 (p.new [(.sc (.string ⟨#[]⟩)), (.sc (.int .i64 0)), (.sc (.bool false)), (.sc (.int .i64 0)), (.sc (.int .i64 0)), (.sc (.int .i64 0)), .nl, .nl, .nl] H fun t17 H =>
 p.call 47 (.fn 23 [] []) [t100, a1, t103] H fun t104 H =>
 p.extr t104 0 fun t105 =>
 p.extr t104 1 fun t106 =>
 p.store 9 t17 t105 H fun H =>
 p.load true 9 t17 H fun t107 =>
 p.load true 9 t8 H fun t108 =>
 p.call 4 (.fn 15 [] []) [t107, t108] H fun t109 H =>
 p.un .not t109 fun t110 =>
 p.guard t110 false H (fun k' => k' t106 H) fun t112 H =>
 p.guard t110 false H (fun k' => k' t37 H) fun t113 H =>
 p.guard t110 false H (fun k' => p.bin .neq t112 t113 fun t' => k' t' H) fun t114 H =>
 p.pick t110 (.sc (.bool true)) t114 fun t115 =>
 p.cond t115
 (k (.sc (.bool false)) H)
 (p.load true 9 t12 H fun t116 =>
 p.call 3 (.fn 17 [] []) [t116, (.sc (.int .i64 1))] H fun t118 H =>
 p.bin .lss t118 (.sc (.int .i64 0)) fun t120 =>
 p.cond t120
 (k (.sc (.bool false)) H)
 (p.bin .neq t118 t89 fun t123 =>
 p.cond t123
 (k (.sc (.bool false)) H)
 (k (.sc (.bool true)) H)))))
 (p.new [(.sc (.string ⟨#[]⟩)), (.sc (.int .i64 0)), (.sc (.bool false)), (.sc (.int .i64 0)), (.sc (.int .i64 0)), (.sc (.int .i64 0)), .nl, .nl, .nl] H fun t17 H =>
 p.call 49 (.fn 22 [] []) [t102] H fun t103 H =>
 p.call 47 (.fn 23 [] []) [t100, a1, t103] H fun t104 H =>
 p.extr t104 0 fun t105 =>
 p.extr t104 1 fun t106 =>
 p.store 9 t17 t105 H fun H =>
 p.load true 9 t17 H fun t107 =>
 p.load true 9 t8 H fun t108 =>
 p.call 4 (.fn 15 [] []) [t107, t108] H fun t109 H =>
 p.un .not t109 fun t110 =>
 p.guard t110 false H (fun k' => k' t106 H) fun t112 H =>
 p.guard t110 false H (fun k' => k' t37 H) fun t113 H =>
 p.guard t110 false H (fun k' => p.bin .neq t112 t113 fun t' => k' t' H) fun t114 H =>
 p.pick t110 (.sc (.bool true)) t114 fun t115 =>
 p.cond t115
 (k (.sc (.bool false)) H)
 (p.load true 9 t12 H fun t116 =>
 p.call 3 (.fn 17 [] []) [t116, (.sc (.int .i64 1))] H fun t118 H =>
 p.bin .lss t118 (.sc (.int .i64 0)) fun t120 =>
 p.cond t120
 (k (.sc (.bool false)) H)
 (p.bin .neq t118 t89 fun t123 =>
 p.cond t123
 (k (.sc (.bool false)) H)
 (k (.sc (.bool true)) H)))))
 (p.new [(.sc (.string ⟨#[]⟩)), (.sc (.int .i64 0)), (.sc (.bool false)), (.sc (.int .i64 0)), (.sc (.int .i64 0)), (.sc (.int .i64 0)), .nl, .nl, .nl] H fun t17 H =>
 p.call 35 (.fn 13 [] []) [t99] H fun t100 H =>
 p.call 49 (.fn 22 [] []) [t102] H fun t103 H =>
 p.call 47 (.fn 23 [] []) [t100, a1, t103] H fun t104 H =>
 p.extr t104 0 fun t105 =>
 p.extr t104 1 fun t106 =>
 p.store 9 t17 t105 H fun H =>
 p.load true 9 t17 H fun t107 =>
 p.load true 9 t8 H fun t108 =>
 p.call 4 (.fn 15 [] []) [t107, t108] H fun t109 H =>
 p.un .not t109 fun t110 =>
 p.guard t110 false H (fun k' => k' t106 H) fun t112 H =>
 p.guard t110 false H (fun k' => k' t37 H) fun t113 H =>
 p.guard t110 false H (fun k' => p.bin .neq t112 t113 fun t' => k' t' H) fun t114 H =>
 p.pick t110 (.sc (.bool true)) t114 fun t115 =>
 p.cond t115
 (k (.sc (.bool false)) H)
 (p.load true 9 t12 H fun t116 =>
 p.call 3 (.fn 17 [] []) [t116, (.sc (.int .i64 1))] H fun t118 H =>
 p.bin .lss t118 (.sc (.int .i64 0)) fun t120 =>
 p.cond t120
 (k (.sc (.bool false)) H)
 (p.bin .neq t118 t89 fun t123 =>
 p.cond t123
 (k (.sc (.bool false)) H)
 (k (.sc (.bool true)) H))))))))))))
 (p.new [(.sc (.string ⟨#[]⟩)), (.sc (.int .i64 0)), (.sc (.bool false)), (.sc (.int .i64 0)), (.sc (.int .i64 0)), (.sc (.int .i64 0)), .nl, .nl, .nl] H fun t8 H =>
 p.call 35 (.fn 13 [] []) [t30] H fun t31 H =>
 p.call 49 (.fn 22 [] []) [t33] H fun t34 H =>
 p.call 47 (.fn 21 [] []) [t31, a1, t34] H fun t35 H =>
 p.extr t35 0 fun t36 =>
 p.extr t35 1 fun t37 =>
 p.store 9 t8 t36 H fun H =>
 p.load true 9 t3 H fun t38 =>
 p.call 35 (.fn 13 [] []) [t38] H fun t39 H =>
 p.new [(.sc (.string ⟨#[]⟩)), (.sc (.int .i64 0)), (.sc (.bool false)), (.sc (.int .i64 0)), (.sc (.int .i64 0)), (.sc (.int .i64 0)), .nl, .nl, .nl] H fun t10 H =>
 p.store 9 t10 t39 H fun H =>
 p.load true 4 t5 H fun t40 =>
 p.call 49 (.fn 22 [] []) [t40] H fun t41 H =>
 p.new [(.sc (.string ⟨#[]⟩)), .nl, (.sc (.int .i64 0)), (.sc (.bool false))] H fun t11 H =>
 p.store 4 t11 t41 H fun H =>
 p.load true 9 t10 H fun t43 =>
 p.load true 4 t11 H fun t45 =>
 p.call 47 (.fn 23 [] []) [t43, a1, t45] H fun t46 H =>
 p.extr t46 0 fun t47 =>
 p.extr t46 1 fun t48 =>
 p.new [(.sc (.string ⟨#[]⟩)), (.sc (.int .i64 0)), (.sc (.bool false)), (.sc (.int .i64 0)), (.sc (.int .i64 0)), (.sc (.int .i64 0)), .nl, .nl, .nl] H fun t12 H =>
 p.store 9 t12 t47 H fun H =>
 p.load true 9 t12 H fun t49 =>
 p.load true 9 t8 H fun t50 =>
 p.call 4 (.fn 15 [] []) [t49, t50] H fun t51 H =>
 p.un .not t51 fun t52 =>
 p.guard t52 false H (fun k' => k' t48 H) fun t54 H =>
 p.guard t52 false H (fun k' => k' t37 H) fun t55 H =>
 p.guard t52 false H (fun k' => p.bin .neq t54 t55 fun t' => k' t' H) fun t56 H =>
 p.pick t52 (.sc (.bool true)) t56 fun t57 =>
 p.cond t57
 (k (.sc (.bool false)) H)
 (p.load true 9 t10 H fun t58 =>
 p.load true 9 t3 H fun t59 =>
 p.call 35 (.fn 13 [] []) [t59] H fun t60 H =>
 p.call 4 (.fn 15 [] []) [t58, t60] H fun t61 H =>
 p.un .not t61 fun t62 =>
 p.cond t62
 (k (.sc (.bool false)) H)
 (p.load true 4 t11 H fun t63 =>
 p.load true 4 t5 H fun t64 =>
 p.call 49 (.fn 22 [] []) [t64] H fun t65 H =>
 p.call 4 (.fn 24 [] []) [t63, t65] H fun t66 H =>
 p.un .not t66 fun t67 =>
 p.cond t67
 (k (.sc (.bool false)) H)
 (p.load true 9 t10 H fun t68 =>
 p.call 3 (.fn 16 [] []) [t68, (.sc (.int .i64 1))] H fun t70 H =>
 p.load true 4 t11 H fun t71 =>
 p.call 3 (.fn 25 [] []) [t71, t70] H fun t73 H =>
 p.bin .lss t73 (.sc (.int .i64 0)) fun t75 =>
 p.guard t75 false H (fun k' => p.load true 9 t12 H fun t' => k' t' H) fun t77 H =>
 p.guard t75 false H (fun k' => p.load true 9 t8 H fun t' => k' t' H) fun t78 H =>
 p.guard t75 false H (fun k' => p.call 4 (.fn 15 [] []) [t77, t78] H fun t' H => k' t' H) fun t79 H =>
 p.guard t75 false H (fun k' => p.un .not t79 fun t' => k' t' H) fun t80 H =>
 p.pick t75 (.sc (.bool true)) t80 fun t81 =>
 p.guard t81 false H (fun k' => k' t48 H) fun t83 H =>
 p.guard t81 false H (fun k' => k' t37 H) fun t84 H =>
 p.guard t81 false H (fun k' => p.bin .neq t83 t84 fun t' => k' t' H) fun t85 H =>
 p.pick t81 (.sc (.bool true)) t85 fun t86 =>
 p.cond t86
 (k (.sc (.bool false)) H)
 (p.load true 9 t12 H fun t87 =>
 p.call 3 (.fn 16 [] []) [t87, (.sc (.int .i64 1))] H fun t89 H =>
 p.load true 9 t12 H fun t90 =>
 p.call 3 (.fn 17 [] []) [t90, (.sc (.int .i64 1))] H fun t92 H =>
 p.bin .lss t92 (.sc (.int .i64 0)) fun t94 =>
 p.cond t94
 (k (.sc (.bool false)) H)
 (p.bin .neq t92 t89 fun t97 =>
 p.cond t97
 (k (.sc (.bool false)) H)
 (p.load true 9 t3 H fun t99 =>
 p.load true 4 t5 H fun t102 =>
 p.both
 (p.call 35 (.fn 13 [] []) [t99] H fun t100 H =>
 p.both
 (p.call 49 (.fn 22 [] []) [t102] H fun t103 H =>
 p.both
 (p.call 47 (.fn 23 [] []) [t100, a1, t103] H fun t104 H =>
 p.extr t104 0 fun t105 =>
 p.extr t104 1 fun t106 =>
 p.new [(.sc (.string ⟨#[]⟩)), (.sc (.int .i64 0)), (.sc (.bool false)), (.sc (.int .i64 0)), (.sc (.int .i64 0)), (.sc (.int .i64 0)), .nl, .nl, .nl] H fun t17 H =>
 p.store 9 t17 t105 H fun H =>
 p.load true 9 t17 H fun t107 =>
 p.load true 9 t8 H fun t108 =>
 p.call 4 (.fn 15 [] []) [t107, t108] H fun t109 H =>
 p.un .not t109 fun t110 =>
 p.guard t110 false H (fun k' => k' t106 H) fun t112 H =>
 p.guard t110 false H (fun k' => k' t37 H) fun t113 H =>
 p.guard t110 false H (fun k' => p.bin .neq t112 t113 fun t' => k' t' H) fun t114 H =>
 p.pick t110 (.sc (.bool true)) t114 fun t115 =>
 p.cond t115
 (k (.sc (.bool false)) H)
 (p.load true 9 t12 H fun t116 =>
 p.call 3 (.fn 17 [] []) [t116, (.sc (.int .i64 1))] H fun t118 H =>
 p.bin .lss t118 (.sc (.int .i64 0)) fun t120 =>
 p.cond t120
 (k (.sc (.bool false)) H)
 (p.bin .neq t118 t89 fun t123 =>
 p.cond t123
 (k (.sc (.bool false)) H)
 (k (.sc (.bool true)) H))))
 (p.new [(.sc (.string ⟨#[]⟩)), (.sc (.int .i64 0)), (.sc (.bool false)), (.sc (.int .i64 0)), (.sc (.int .i64 0)), (.sc (.int .i64 0)), .nl, .nl, .nl] H fun t17 H =>
 p.call 47 (.fn 23 [] []) [t100, a1, t103] H fun t104 H =>
 p.extr t104 0 fun t105 =>
 p.extr t104 1 fun t106 =>
 p.store 9 t17 t105 H fun H =>
 p.load true 9 t17 H fun t107 =>
 p.load true 9 t8 H fun t108 =>
 p.call 4 (.fn 15 [] []) [t107, t108] H fun t109 H =>
 p.un .not t109 fun t110 =>
 p.guard t110 false H (fun k' => k' t106 H) fun t112 H =>
 p.guard t110 false H (fun k' => k' t37 H) fun t113 H =>
 p.guard t110 false H (fun k' => p.bin .neq t112 t113 fun t' => k' t' H) fun t114 H =>
 p.pick t110 (.sc (.bool true)) t114 fun t115 =>
 p.cond t115
 (k (.sc (.bool false)) H)
 (p.load true 9 t12 H fun t116 =>
 p.call 3 (.fn 17 [] []) [t116, (.sc (.int .i64 1))] H fun t118 H =>
 p.bin .lss t118 (.sc (.int .i64 0)) fun t120 =>
 p.cond t120
 (k (.sc (.bool false)) H)
 (p.bin .neq t118 t89 fun t123 =>
 p.cond t123
 (k (.sc (.bool false)) H)
 (k (.sc (.bool true)) H)))))
 (p.new [(.sc (.string ⟨#[]⟩)), (.sc (.int .i64 0)), (.sc (.bool false)), (.sc (.int .i64 0)), (.sc (.int .i64 0)), (.sc (.int .i64 0)), .nl, .nl, .nl] H fun t17 H =>
 p.call 49 (.fn 22 [] []) [t102] H fun t103 H =>
 p.call 47 (.fn 23 [] []) [t100, a1, t103] H fun t104 H =>
 p.extr t104 0 fun t105 =>
 p.extr t104 1 fun t106 =>
 p.store 9 t17 t105 H fun H =>
 p.load true 9 t17 H fun t107 =>
 p.load true 9 t8 H fun t108 =>
 p.call 4 (.fn 15 [] []) [t107, t108] H fun t109 H =>
 p.un .not t109 fun t110 =>
 p.guard t110 false H (fun k' => k' t106 H) fun t112 H =>
 p.guard t110 false H (fun k' => k' t37 H) fun t113 H =>
 p.guard t110 false H (fun k' => p.bin .neq t112 t113 fun t' => k' t' H) fun t114 H =>
 p.pick t110 (.sc (.bool true)) t114 fun t115 =>
 p.cond t115
 (k (.sc (.bool false)) H)
 (p.load true 9 t12 H fun t116 =>
 p.call 3 (.fn 17 [] []) [t116, (.sc (.int .i64 1))] H fun t118 H =>
 p.bin .lss t118 (.sc (.int .i64 0)) fun t120 =>
 p.cond t120
 (k (.sc (.bool false)) H)
 (p.bin .neq t118 t89 fun t123 =>
 p.cond t123
 (k (.sc (.bool false)) H)
 (k (.sc (.bool true)) H)))))
 (p.new [(.sc (.string ⟨#[]⟩)), (.sc (.int .i64 0)), (.sc (.bool false)), (.sc (.int .i64 0)), (.sc (.int .i64 0)), (.sc (.int .i64 0)), .nl, .nl, .nl] H fun t17 H =>
 p.call 35 (.fn 13 [] []) [t99] H fun t100 H =>
 p.call 49 (.fn 22 [] []) [t102] H fun t103 H =>
 p.call 47 (.fn 23 [] []) [t100, a1, t103] H fun t104 H =>
 p.extr t104 0 fun t105 =>
 p.extr t104 1 fun t106 =>
 p.store 9 t17 t105 H fun H =>
 p.load true 9 t17 H fun t107 =>
 p.load true 9 t8 H fun t108 =>
 p.call 4 (.fn 15 [] []) [t107, t108] H fun t109 H =>
 p.un .not t109 fun t110 =>
 p.guard t110 false H (fun k' => k' t106 H) fun t112 H =>
 p.guard t110 false H (fun k' => k' t37 H) fun t113 H =>
 p.guard t110 false H (fun k' => p.bin .neq t112 t113 fun t' => k' t' H) fun t114 H =>
 p.pick t110 (.sc (.bool true)) t114 fun t115 =>
 p.cond t115
 (k (.sc (.bool false)) H)
 (p.load true 9 t12 H fun t116 =>
 p.call 3 (.fn 17 [] []) [t116, (.sc (.int .i64 1))] H fun t118 H =>
 p.bin .lss t118 (.sc (.int .i64 0)) fun t120 =>
 p.cond t120
 (k (.sc (.bool false)) H)
 (p.bin .neq t118 t89 fun t123 =>
 p.cond t123
 (k (.sc (.bool false)) H)
 (k (.sc (.bool true)) H)))))))))))))
theorem f5_body (p : Pr β) (n : Nat) (a0 a1 a2 : AV) (H : Heap) (k : AV → Heap → Option β) : evalBody ti0 p n ⟨c5, 124, Go.Proofs.Tryz.f5.results.toList, o5⟩ [a0, a1, a2] H k = f5 p n a0 a1 a2 H k := by kernel_rfl
noncomputable def fss : List (Option FnI) := [none, none, none, some ⟨c3, 69, Go.Proofs.Tryz.f3.results.toList, o3⟩, some ⟨c4, 84, Go.Proofs.Tryz.f4.results.toList, o4⟩, some ⟨c5, 124, Go.Proofs.Tryz.f5.results.toList, o5⟩, none, none, none, none, none, some ⟨c11, 25, Go.Proofs.Tryz.f11.results.toList, o11⟩, some ⟨c12, 16, Go.Proofs.Tryz.f12.results.toList, o12⟩, some ⟨c13, 28, Go.Proofs.Tryz.f13.results.toList, o13⟩, some ⟨c14, 16, Go.Proofs.Tryz.f14.results.toList, o14⟩, some ⟨c15, 42, Go.Proofs.Tryz.f15.results.toList, o15⟩, some ⟨c16, 14, Go.Proofs.Tryz.f16.results.toList, o16⟩, some ⟨c17, 18, Go.Proofs.Tryz.f17.results.toList, o17⟩, some ⟨c18, 29, Go.Proofs.Tryz.f18.results.toList, o18⟩, some ⟨c19, 27, Go.Proofs.Tryz.f19.results.toList, o19⟩, some ⟨c20, 19, Go.Proofs.Tryz.f20.results.toList, o20⟩, some ⟨c21, 41, Go.Proofs.Tryz.f21.results.toList, o21⟩, some ⟨c22, 18, Go.Proofs.Tryz.f22.results.toList, o22⟩, some ⟨c23, 41, Go.Proofs.Tryz.f23.results.toList, o23⟩, some ⟨c24, 26, Go.Proofs.Tryz.f24.results.toList, o24⟩, some ⟨c25, 10, Go.Proofs.Tryz.f25.results.toList, o25⟩, none, none, none, none, some ⟨c30, 30, Go.Proofs.Tryz.f30.results.toList, o30⟩, some ⟨c31, 48, Go.Proofs.Tryz.f31.results.toList, o31⟩, none, none, none, some ⟨c35, 18, Go.Proofs.Tryz.f35.results.toList, o35⟩, none, some ⟨c37, 16, Go.Proofs.Tryz.f37.results.toList, o37⟩, none, none, some ⟨c40, 22, Go.Proofs.Tryz.f40.results.toList, o40⟩, some ⟨c41, 14, Go.Proofs.Tryz.f41.results.toList, o41⟩, none, none, none, none, none, none, some ⟨c48, 18, Go.Proofs.Tryz.f48.results.toList, o48⟩, none, none, none, none, none, none, none, none, none, none, some ⟨c59, 12, Go.Proofs.Tryz.f59.results.toList, o59⟩, some ⟨c60, 15, Go.Proofs.Tryz.f60.results.toList, o60⟩, some ⟨c61, 22, Go.Proofs.Tryz.f61.results.toList, o61⟩, some ⟨c62, 12, Go.Proofs.Tryz.f62.results.toList, o62⟩, some ⟨c63, 26, Go.Proofs.Tryz.f63.results.toList, o63⟩, some ⟨c64, 19, Go.Proofs.Tryz.f64.results.toList, o64⟩, some ⟨c65, 21, Go.Proofs.Tryz.f65.results.toList, o65⟩, some ⟨c66, 21, Go.Proofs.Tryz.f66.results.toList, o66⟩, some ⟨c67, 12, Go.Proofs.Tryz.f67.results.toList, o67⟩, some ⟨c68, 26, Go.Proofs.Tryz.f68.results.toList, o68⟩, some ⟨c69, 22, Go.Proofs.Tryz.f69.results.toList, o69⟩, some ⟨c70, 26, Go.Proofs.Tryz.f70.results.toList, o70⟩, some ⟨c71, 26, Go.Proofs.Tryz.f71.results.toList, o71⟩, some ⟨c72, 20, Go.Proofs.Tryz.f72.results.toList, o72⟩, none, none, none, none, none, none, some ⟨c79, 9, Go.Proofs.Tryz.f79.results.toList, o79⟩, some ⟨c80, 67, Go.Proofs.Tryz.f80.results.toList, o80⟩, some ⟨c81, 32, Go.Proofs.Tryz.f81.results.toList, o81⟩, some ⟨c82, 6, Go.Proofs.Tryz.f82.results.toList, o82⟩, some ⟨c83, 15, Go.Proofs.Tryz.f83.results.toList, o83⟩, some ⟨c84, 71, Go.Proofs.Tryz.f84.results.toList, o84⟩, some ⟨c85, 35, Go.Proofs.Tryz.f85.results.toList, o85⟩, some ⟨c86, 27, Go.Proofs.Tryz.f86.results.toList, o86⟩, some ⟨c87, 27, Go.Proofs.Tryz.f87.results.toList, o87⟩, none, none, some ⟨c90, 23, Go.Proofs.Tryz.f90.results.toList, o90⟩, some ⟨c91, 23, Go.Proofs.Tryz.f91.results.toList, o91⟩, none, none, some ⟨c94, 27, Go.Proofs.Tryz.f94.results.toList, o94⟩, some ⟨c95, 27, Go.Proofs.Tryz.f95.results.toList, o95⟩, some ⟨c96, 62, Go.Proofs.Tryz.f96.results.toList, o96⟩, some ⟨c97, 44, Go.Proofs.Tryz.f97.results.toList, o97⟩, some ⟨c98, 20, Go.Proofs.Tryz.f98.results.toList, o98⟩, none, none, some ⟨c101, 22, Go.Proofs.Tryz.f101.results.toList, o101⟩, none, none, some ⟨c104, 44, Go.Proofs.Tryz.f104.results.toList, o104⟩, none, none, none, some ⟨c108, 34, Go.Proofs.Tryz.f108.results.toList, o108⟩, none, none, none, none, none, some ⟨c114, 74, Go.Proofs.Tryz.f114.results.toList, o114⟩, some ⟨c115, 52, Go.Proofs.Tryz.f115.results.toList, o115⟩, some ⟨c116, 8, Go.Proofs.Tryz.f116.results.toList, o116⟩, none, none, none, none, none, none, none, none, none, none, some ⟨c127, 6, Go.Proofs.Tryz.f127.results.toList, o127⟩, some ⟨c128, 15, Go.Proofs.Tryz.f128.results.toList, o128⟩, some ⟨c129, 31, Go.Proofs.Tryz.f129.results.toList, o129⟩, some ⟨c130, 34, Go.Proofs.Tryz.f130.results.toList, o130⟩, none, none, none, none, none, none, some ⟨c137, 5, Go.Proofs.Tryz.f137.results.toList, o137⟩, some ⟨c138, 17, Go.Proofs.Tryz.f138.results.toList, o138⟩, some ⟨c139, 5, Go.Proofs.Tryz.f139.results.toList, o139⟩, some ⟨c140, 10, Go.Proofs.Tryz.f140.results.toList, o140⟩, some ⟨c141, 35, Go.Proofs.Tryz.f141.results.toList, o141⟩, some ⟨c142, 17, Go.Proofs.Tryz.f142.results.toList, o142⟩, some ⟨c143, 24, Go.Proofs.Tryz.f143.results.toList, o143⟩, some ⟨c144, 19, Go.Proofs.Tryz.f144.results.toList, o144⟩, some ⟨c145, 12, Go.Proofs.Tryz.f145.results.toList, o145⟩, none, some ⟨c147, 15, Go.Proofs.Tryz.f147.results.toList, o147⟩, none, some ⟨c149, 18, Go.Proofs.Tryz.f149.results.toList, o149⟩, some ⟨c150, 21, Go.Proofs.Tryz.f150.results.toList, o150⟩, some ⟨c151, 21, Go.Proofs.Tryz.f151.results.toList, o151⟩, some ⟨c152, 14, Go.Proofs.Tryz.f152.results.toList, o152⟩, none, some ⟨c154, 20, Go.Proofs.Tryz.f154.results.toList, o154⟩, some ⟨c155, 9, Go.Proofs.Tryz.f155.results.toList, o155⟩, none, some ⟨c157, 19, Go.Proofs.Tryz.f157.results.toList, o157⟩, some ⟨c158, 8, Go.Proofs.Tryz.f158.results.toList, o158⟩, none, none, none, none, none, none, none, none, none, none, some ⟨c169, 20, Go.Proofs.Tryz.f169.results.toList, o169⟩, some ⟨c170, 5, Go.Proofs.Tryz.f170.results.toList, o170⟩, some ⟨c171, 15, Go.Proofs.Tryz.f171.results.toList, o171⟩, some ⟨c172, 104, Go.Proofs.Tryz.f172.results.toList, o172⟩, some ⟨c173, 25, Go.Proofs.Tryz.f173.results.toList, o173⟩, none, none, none, none, none, none, none, none, none, none, none, none, none, none, none, some ⟨c189, 5, Go.Proofs.Tryz.f189.results.toList, o189⟩, some ⟨c190, 17, Go.Proofs.Tryz.f190.results.toList, o190⟩, some ⟨c191, 33, Go.Proofs.Tryz.f191.results.toList, o191⟩]
noncomputable def tps : List (Nat × List Nat) := [(47, [35, 3]), (55, [35, 4, 3, 3]), (57, [9, 3, 4, 3, 3]), (76, [33, 75, 4]), (89, [88, 4]), (99, [33, 3]), (129, [31, 49, 4]), (131, [3, 4]), (143, [31, 3]), (177, [3, 3, 4]), (201, [200, 4]), (210, [21, 3]), (213, [212, 212])]
noncomputable def E0 : Env := { ti := ti0, tp := fun t => ordOf tps t, fs := fun f => (fss[f]?).getD none, ext := fun f => if Nat.beq f 136 then some ext136 else if Nat.beq f 188 then some ext188 else if Nat.beq f 202 then some ext202 else none, hm := fun f => [16, 25, 41, 42, 47, 57, 64, 72, 73, 74, 75, 76, 77, 78, 96, 97, 99, 100, 125, 131, 132, 133, 134, 135, 159, 163, 164, 165, 166, 167, 183, 184, 185, 186, 199, 200, 207, 233, 234, 235, 236, 237].contains f }
noncomputable def PR (n : Nat) (β : Type) : Pr β := prims E0 (evalFn E0 n) β
theorem f67_eq (n : Nat) (a0 a1 : AV) (H : Heap) (k : AV → Heap → Option β) : evalFn E0 (n + 1) β 67 [a0, a1] H k = f67 (PR n β) n a0 a1 H k := f67_body (PR n β) n a0 a1 H k
theorem f20_eq (n : Nat) (a0 a1 : AV) (H : Heap) (k : AV → Heap → Option β) : evalFn E0 (n + 1) β 20 [a0, a1] H k = f20 (PR n β) n a0 a1 H k := f20_body (PR n β) n a0 a1 H k
theorem f145_eq (n : Nat) (a0 a1 : AV) (H : Heap) (k : AV → Heap → Option β) : evalFn E0 (n + 1) β 145 [a0, a1] H k = f145 (PR n β) n a0 a1 H k := f145_body (PR n β) n a0 a1 H k
theorem f86_eq (n : Nat) (a0 a1 : AV) (H : Heap) (k : AV → Heap → Option β) : evalFn E0 (n + 1) β 86 [a0, a1] H k = f86 (PR n β) n a0 a1 H k := f86_body (PR n β) n a0 a1 H k
theorem f87_eq (n : Nat) (a0 a1 : AV) (H : Heap) (k : AV → Heap → Option β) : evalFn E0 (n + 1) β 87 [a0, a1] H k = f87 (PR n β) n a0 a1 H k := f87_body (PR n β) n a0 a1 H k
theorem f35_eq (n : Nat) (a0 a1 : AV) (H : Heap) (k : AV → Heap → Option β) : evalFn E0 (n + 1) β 35 [a0, a1] H k = f35 (PR n β) n a0 a1 H k := f35_body (PR n β) n a0 a1 H k
theorem f59_eq (n : Nat) (a0 a1 : AV) (H : Heap) (k : AV → Heap → Option β) : evalFn E0 (n + 1) β 59 [a0, a1] H k = f59 (PR n β) n a0 a1 H k := f59_body (PR n β) n a0 a1 H k
theorem f11_eq (n : Nat) (a0 a1 : AV) (H : Heap) (k : AV → Heap → Option β) : evalFn E0 (n + 1) β 11 [a0, a1] H k = f11 (PR n β) n a0 a1 H k := f11_body (PR n β) n a0 a1 H k
theorem f69_eq (n : Nat) (a0 : AV) (H : Heap) (k : AV → Heap → Option β) : evalFn E0 (n + 1) β 69 [a0] H k = f69 (PR n β) n a0 H k := f69_body (PR n β) n a0 H k
theorem f22_eq (n : Nat) (a0 : AV) (H : Heap) (k : AV → Heap → Option β) : evalFn E0 (n + 1) β 22 [a0] H k = f22 (PR n β) n a0 H k := f22_body (PR n β) n a0 H k
theorem f147_eq (n : Nat) (a0 : AV) (H : Heap) (k : AV → Heap → Option β) : evalFn E0 (n + 1) β 147 [a0] H k = f147 (PR n β) n a0 H k := f147_body (PR n β) n a0 H k
theorem f90_eq (n : Nat) (a0 : AV) (H : Heap) (k : AV → Heap → Option β) : evalFn E0 (n + 1) β 90 [a0] H k = f90 (PR n β) n a0 H k := f90_body (PR n β) n a0 H k
theorem f91_eq (n : Nat) (a0 : AV) (H : Heap) (k : AV → Heap → Option β) : evalFn E0 (n + 1) β 91 [a0] H k = f91 (PR n β) n a0 H k := f91_body (PR n β) n a0 H k
theorem f37_eq (n : Nat) (a0 : AV) (H : Heap) (k : AV → Heap → Option β) : evalFn E0 (n + 1) β 37 [a0] H k = f37 (PR n β) n a0 H k := f37_body (PR n β) n a0 H k
theorem f61_eq (n : Nat) (a0 : AV) (H : Heap) (k : AV → Heap → Option β) : evalFn E0 (n + 1) β 61 [a0] H k = f61 (PR n β) n a0 H k := f61_body (PR n β) n a0 H k
theorem f13_eq (n : Nat) (a0 : AV) (H : Heap) (k : AV → Heap → Option β) : evalFn E0 (n + 1) β 13 [a0] H k = f13 (PR n β) n a0 H k := f13_body (PR n β) n a0 H k
theorem f152_eq (n : Nat) (a0 : AV) (H : Heap) (k : AV → Heap → Option β) : evalFn E0 (n + 1) β 152 [a0] H k = f152 (PR n β) n a0 H k := f152_body (PR n β) n a0 H k
theorem f151_eq (n : Nat) (a0 : AV) (H : Heap) (k : AV → Heap → Option β) : evalFn E0 (n + 1) β 151 [a0] H k = f151 (PR n β) n a0 H k := f151_body (PR n β) n a0 H k
theorem f104_eq (n : Nat) (a0 : AV) (H : Heap) (k : AV → Heap → Option β) : evalFn E0 (n + 1) β 104 [a0] H k = f104 (PR n β) n a0 H k := f104_body (PR n β) n a0 H k
theorem f60_eq (n : Nat) (a0 : AV) (H : Heap) (k : AV → Heap → Option β) : evalFn E0 (n + 1) β 60 [a0] H k = f60 (PR n β) n a0 H k := f60_body (PR n β) n a0 H k
theorem f83_eq (n : Nat) (a0 a1 a2 : AV) (H : Heap) (k : AV → Heap → Option β) : evalFn E0 (n + 1) β 83 [a0, a1, a2] H k = f83 (PR n β) n a0 a1 a2 H k := f83_body (PR n β) n a0 a1 a2 H k
theorem f172_eq (n : Nat) (a0 a1 : AV) (H : Heap) (k : AV → Heap → Option β) : evalFn E0 (n + 1) β 172 [a0, a1] H k = f172 (PR n β) n a0 a1 H k := f172_body (PR n β) n a0 a1 H k
theorem f141_eq (n : Nat) (a0 : AV) (H : Heap) (k : AV → Heap → Option β) : evalFn E0 (n + 1) β 141 [a0] H k = f141 (PR n β) n a0 H k := f141_body (PR n β) n a0 H k
theorem f82_eq (n : Nat) (a0 : AV) (H : Heap) (k : AV → Heap → Option β) : evalFn E0 (n + 1) β 82 [a0] H k = f82 (PR n β) n a0 H k := f82_body (PR n β) n a0 H k
theorem f190_eq (n : Nat) (a0 a1 : AV) (H : Heap) (k : AV → Heap → Option β) : evalFn E0 (n + 1) β 190 [a0, a1] H k = f190 (PR n β) n a0 a1 H k := f190_body (PR n β) n a0 a1 H k
theorem f191_eq (n : Nat) (a0 : AV) (H : Heap) (k : AV → Heap → Option β) : evalFn E0 (n + 1) β 191 [a0] H k = f191 (PR n β) n a0 H k := f191_body (PR n β) n a0 H k
theorem f173_eq (n : Nat) (a0 : AV) (H : Heap) (k : AV → Heap → Option β) : evalFn E0 (n + 1) β 173 [a0] H k = f173 (PR n β) n a0 H k := f173_body (PR n β) n a0 H k
theorem f142_eq (n : Nat) (a0 : AV) (H : Heap) (k : AV → Heap → Option β) : evalFn E0 (n + 1) β 142 [a0] H k = f142 (PR n β) n a0 H k := f142_body (PR n β) n a0 H k
theorem f143_eq (n : Nat) (a0 : AV) (H : Heap) (k : AV → Heap → Option β) : evalFn E0 (n + 1) β 143 [a0] H k = f143 (PR n β) n a0 H k := f143_body (PR n β) n a0 H k
theorem f144_eq (n : Nat) (a0 : AV) (H : Heap) (k : AV → Heap → Option β) : evalFn E0 (n + 1) β 144 [a0] H k = f144 (PR n β) n a0 H k := f144_body (PR n β) n a0 H k
theorem f84_eq (n : Nat) (a0 : AV) (H : Heap) (k : AV → Heap → Option β) : evalFn E0 (n + 1) β 84 [a0] H k = f84 (PR n β) n a0 H k := f84_body (PR n β) n a0 H k
theorem f85_eq (n : Nat) (a0 : AV) (H : Heap) (k : AV → Heap → Option β) : evalFn E0 (n + 1) β 85 [a0] H k = f85 (PR n β) n a0 H k := f85_body (PR n β) n a0 H k
theorem f31_eq (n : Nat) (a0 : AV) (H : Heap) (k : AV → Heap → Option β) : evalFn E0 (n + 1) β 31 [a0] H k = f31 (PR n β) n a0 H k := f31_body (PR n β) n a0 H k
theorem f12_eq (n : Nat) (a0 : AV) (H : Heap) (k : AV → Heap → Option β) : evalFn E0 (n + 1) β 12 [a0] H k = f12 (PR n β) n a0 H k := f12_body (PR n β) n a0 H k
theorem f149_eq (n : Nat) (a0 : AV) (H : Heap) (k : AV → Heap → Option β) : evalFn E0 (n + 1) β 149 [a0] H k = f149 (PR n β) n a0 H k := f149_body (PR n β) n a0 H k
theorem f155_eq (n : Nat) (a0 : AV) (H : Heap) (k : AV → Heap → Option β) : evalFn E0 (n + 1) β 155 [a0] H k = f155 (PR n β) n a0 H k := f155_body (PR n β) n a0 H k
theorem f154_eq (n : Nat) (a0 : AV) (H : Heap) (k : AV → Heap → Option β) : evalFn E0 (n + 1) β 154 [a0] H k = f154 (PR n β) n a0 H k := f154_body (PR n β) n a0 H k
theorem f108_eq (n : Nat) (a0 : AV) (H : Heap) (k : AV → Heap → Option β) : evalFn E0 (n + 1) β 108 [a0] H k = f108 (PR n β) n a0 H k := f108_body (PR n β) n a0 H k
theorem f127_eq (n : Nat) (a0 : AV) (H : Heap) (k : AV → Heap → Option β) : evalFn E0 (n + 1) β 127 [a0] H k = f127 (PR n β) n a0 H k := f127_body (PR n β) n a0 H k
theorem f62_eq (n : Nat) (a0 : AV) (H : Heap) (k : AV → Heap → Option β) : evalFn E0 (n + 1) β 62 [a0] H k = f62 (PR n β) n a0 H k := f62_body (PR n β) n a0 H k
theorem f79_eq (n : Nat) (a0 : AV) (H : Heap) (k : AV → Heap → Option β) : evalFn E0 (n + 1) β 79 [a0] H k = f79 (PR n β) n a0 H k := f79_body (PR n β) n a0 H k
theorem f128_eq (n : Nat) (a0 a1 a2 : AV) (H : Heap) (k : AV → Heap → Option β) : evalFn E0 (n + 1) β 128 [a0, a1, a2] H k = f128 (PR n β) n a0 a1 a2 H k := f128_body (PR n β) n a0 a1 a2 H k
theorem f66_eq (n : Nat) (a0 a1 a2 : AV) (H : Heap) (k : AV → Heap → Option β) : evalFn E0 (n + 1) β 66 [a0, a1, a2] H k = f66 (PR n β) n a0 a1 a2 H k := f66_body (PR n β) n a0 a1 a2 H k
theorem f137_eq (n : Nat) (a0 : AV) (H : Heap) (k : AV → Heap → Option β) : evalFn E0 (n + 1) β 137 [a0] H k = f137 (PR n β) n a0 H k := f137_body (PR n β) n a0 H k
theorem f158_eq (n : Nat) (a0 a1 : AV) (H : Heap) (k : AV → Heap → Option β) : evalFn E0 (n + 1) β 158 [a0, a1] H k = f158 (PR n β) n a0 a1 H k := f158_body (PR n β) n a0 a1 H k
theorem f157_eq (n : Nat) (a0 a1 : AV) (H : Heap) (k : AV → Heap → Option β) : evalFn E0 (n + 1) β 157 [a0, a1] H k = f157 (PR n β) n a0 a1 H k := f157_body (PR n β) n a0 a1 H k
theorem f116_eq (n : Nat) (a0 a1 : AV) (H : Heap) (k : AV → Heap → Option β) : evalFn E0 (n + 1) β 116 [a0, a1] H k = f116 (PR n β) n a0 a1 H k := f116_body (PR n β) n a0 a1 H k
theorem f189_eq (n : Nat) (a0 : AV) (H : Heap) (k : AV → Heap → Option β) : evalFn E0 (n + 1) β 189 [a0] H k = f189 (PR n β) n a0 H k := f189_body (PR n β) n a0 H k
theorem f169_eq (n : Nat) (a0 : AV) (H : Heap) (k : AV → Heap → Option β) : evalFn E0 (n + 1) β 169 [a0] H k = f169 (PR n β) n a0 H k := f169_body (PR n β) n a0 H k
theorem f170_eq (n : Nat) (a0 : AV) (H : Heap) (k : AV → Heap → Option β) : evalFn E0 (n + 1) β 170 [a0] H k = f170 (PR n β) n a0 H k := f170_body (PR n β) n a0 H k
theorem f138_eq (n : Nat) (a0 : AV) (H : Heap) (k : AV → Heap → Option β) : evalFn E0 (n + 1) β 138 [a0] H k = f138 (PR n β) n a0 H k := f138_body (PR n β) n a0 H k
theorem f139_eq (n : Nat) (a0 : AV) (H : Heap) (k : AV → Heap → Option β) : evalFn E0 (n + 1) β 139 [a0] H k = f139 (PR n β) n a0 H k := f139_body (PR n β) n a0 H k
theorem f171_eq (n : Nat) (a0 : AV) (H : Heap) (k : AV → Heap → Option β) : evalFn E0 (n + 1) β 171 [a0] H k = f171 (PR n β) n a0 H k := f171_body (PR n β) n a0 H k
theorem f140_eq (n : Nat) (a0 : AV) (H : Heap) (k : AV → Heap → Option β) : evalFn E0 (n + 1) β 140 [a0] H k = f140 (PR n β) n a0 H k := f140_body (PR n β) n a0 H k
theorem f80_eq (n : Nat) (a0 : AV) (H : Heap) (k : AV → Heap → Option β) : evalFn E0 (n + 1) β 80 [a0] H k = f80 (PR n β) n a0 H k := f80_body (PR n β) n a0 H k
theorem f81_eq (n : Nat) (a0 : AV) (H : Heap) (k : AV → Heap → Option β) : evalFn E0 (n + 1) β 81 [a0] H k = f81 (PR n β) n a0 H k := f81_body (PR n β) n a0 H k
theorem f30_eq (n : Nat) (a0 : AV) (H : Heap) (k : AV → Heap → Option β) : evalFn E0 (n + 1) β 30 [a0] H k = f30 (PR n β) n a0 H k := f30_body (PR n β) n a0 H k
theorem f14_eq (n : Nat) (a0 : AV) (H : Heap) (k : AV → Heap → Option β) : evalFn E0 (n + 1) β 14 [a0] H k = f14 (PR n β) n a0 H k := f14_body (PR n β) n a0 H k
theorem f71_eq (n : Nat) (a0 a1 : AV) (H : Heap) (k : AV → Heap → Option β) : evalFn E0 (n + 1) β 71 [a0, a1] H k = f71 (PR n β) n a0 a1 H k := f71_body (PR n β) n a0 a1 H k
theorem f24_eq (n : Nat) (a0 a1 : AV) (H : Heap) (k : AV → Heap → Option β) : evalFn E0 (n + 1) β 24 [a0, a1] H k = f24 (PR n β) n a0 a1 H k := f24_body (PR n β) n a0 a1 H k
theorem f150_eq (n : Nat) (a0 a1 : AV) (H : Heap) (k : AV → Heap → Option β) : evalFn E0 (n + 1) β 150 [a0, a1] H k = f150 (PR n β) n a0 a1 H k := f150_body (PR n β) n a0 a1 H k
theorem f94_eq (n : Nat) (a0 a1 : AV) (H : Heap) (k : AV → Heap → Option β) : evalFn E0 (n + 1) β 94 [a0, a1] H k = f94 (PR n β) n a0 a1 H k := f94_body (PR n β) n a0 a1 H k
theorem f95_eq (n : Nat) (a0 a1 : AV) (H : Heap) (k : AV → Heap → Option β) : evalFn E0 (n + 1) β 95 [a0, a1] H k = f95 (PR n β) n a0 a1 H k := f95_body (PR n β) n a0 a1 H k
theorem f40_eq (n : Nat) (a0 a1 : AV) (H : Heap) (k : AV → Heap → Option β) : evalFn E0 (n + 1) β 40 [a0, a1] H k = f40 (PR n β) n a0 a1 H k := f40_body (PR n β) n a0 a1 H k
theorem f63_eq (n : Nat) (a0 a1 : AV) (H : Heap) (k : AV → Heap → Option β) : evalFn E0 (n + 1) β 63 [a0, a1] H k = f63 (PR n β) n a0 a1 H k := f63_body (PR n β) n a0 a1 H k
theorem f15_eq (n : Nat) (a0 a1 : AV) (H : Heap) (k : AV → Heap → Option β) : evalFn E0 (n + 1) β 15 [a0, a1] H k = f15 (PR n β) n a0 a1 H k := f15_body (PR n β) n a0 a1 H k
theorem f98_eq (n : Nat) (a0 : AV) (H : Heap) (k : AV → Heap → Option β) : evalFn E0 (n + 1) β 98 [a0] H k = f98 (PR n β) n a0 H k := f98_body (PR n β) n a0 H k
theorem f72_eq (n : Nat) (a0 a1 : AV) (H : Heap) (k : AV → Heap → Option β) : evalFn E0 (n + 1) β 72 [a0, a1] H k = f72 (PR n β) n a0 a1 H k := f72_body (PR n β) n a0 a1 H k
theorem f96_eq (n : Nat) (a0 a1 : AV) (H : Heap) (k : AV → Heap → Option β) : evalFn E0 (n + 1) β 96 [a0, a1] H k = f96 (PR n β) n a0 a1 H k := f96_body (PR n β) n a0 a1 H k
theorem f97_eq (n : Nat) (a0 a1 : AV) (H : Heap) (k : AV → Heap → Option β) : evalFn E0 (n + 1) β 97 [a0, a1] H k = f97 (PR n β) n a0 a1 H k := f97_body (PR n β) n a0 a1 H k
theorem f41_eq (n : Nat) (a0 a1 : AV) (H : Heap) (k : AV → Heap → Option β) : evalFn E0 (n + 1) β 41 [a0, a1] H k = f41 (PR n β) n a0 a1 H k := f41_body (PR n β) n a0 a1 H k
theorem f64_eq (n : Nat) (a0 a1 : AV) (H : Heap) (k : AV → Heap → Option β) : evalFn E0 (n + 1) β 64 [a0, a1] H k = f64 (PR n β) n a0 a1 H k := f64_body (PR n β) n a0 a1 H k
theorem f16_eq (n : Nat) (a0 a1 : AV) (H : Heap) (k : AV → Heap → Option β) : evalFn E0 (n + 1) β 16 [a0, a1] H k = f16 (PR n β) n a0 a1 H k := f16_body (PR n β) n a0 a1 H k
theorem f101_eq (n : Nat) (a0 a1 : AV) (H : Heap) (k : AV → Heap → Option β) : evalFn E0 (n + 1) β 101 [a0, a1] H k = f101 (PR n β) n a0 a1 H k := f101_body (PR n β) n a0 a1 H k
theorem f114_eq (n : Nat) (a0 a1 : AV) (H : Heap) (k : AV → Heap → Option β) : evalFn E0 (n + 1) β 114 [a0, a1] H k = f114 (PR n β) n a0 a1 H k := f114_body (PR n β) n a0 a1 H k
theorem f115_eq (n : Nat) (a0 a1 : AV) (H : Heap) (k : AV → Heap → Option β) : evalFn E0 (n + 1) β 115 [a0, a1] H k = f115 (PR n β) n a0 a1 H k := f115_body (PR n β) n a0 a1 H k
theorem f48_eq (n : Nat) (a0 a1 : AV) (H : Heap) (k : AV → Heap → Option β) : evalFn E0 (n + 1) β 48 [a0, a1] H k = f48 (PR n β) n a0 a1 H k := f48_body (PR n β) n a0 a1 H k
theorem f65_eq (n : Nat) (a0 a1 : AV) (H : Heap) (k : AV → Heap → Option β) : evalFn E0 (n + 1) β 65 [a0, a1] H k = f65 (PR n β) n a0 a1 H k := f65_body (PR n β) n a0 a1 H k
theorem f17_eq (n : Nat) (a0 a1 : AV) (H : Heap) (k : AV → Heap → Option β) : evalFn E0 (n + 1) β 17 [a0, a1] H k = f17 (PR n β) n a0 a1 H k := f17_body (PR n β) n a0 a1 H k
theorem f3_eq (n : Nat) (a0 : AV) (H : Heap) (k : AV → Heap → Option β) : evalFn E0 (n + 1) β 3 [a0] H k = f3 (PR n β) n a0 H k := f3_body (PR n β) n a0 H k
theorem f18_eq (n : Nat) (a0 a1 a2 a3 : AV) (H : Heap) (k : AV → Heap → Option β) : evalFn E0 (n + 1) β 18 [a0, a1, a2, a3] H k = f18 (PR n β) n a0 a1 a2 a3 H k := f18_body (PR n β) n a0 a1 a2 a3 H k
theorem f19_eq (n : Nat) (a0 a1 a2 a3 : AV) (H : Heap) (k : AV → Heap → Option β) : evalFn E0 (n + 1) β 19 [a0, a1, a2, a3] H k = f19 (PR n β) n a0 a1 a2 a3 H k := f19_body (PR n β) n a0 a1 a2 a3 H k
theorem f4_eq (n : Nat) (a0 a1 a2 a3 : AV) (H : Heap) (k : AV → Heap → Option β) : evalFn E0 (n + 1) β 4 [a0, a1, a2, a3] H k = f4 (PR n β) n a0 a1 a2 a3 H k := f4_body (PR n β) n a0 a1 a2 a3 H k
theorem f129_eq (n : Nat) (a0 a1 : AV) (H : Heap) (k : AV → Heap → Option β) : evalFn E0 (n + 1) β 129 [a0, a1] H k = f129 (PR n β) n a0 a1 H k := f129_body (PR n β) n a0 a1 H k
theorem f68_eq (n : Nat) (a0 a1 : AV) (H : Heap) (k : AV → Heap → Option β) : evalFn E0 (n + 1) β 68 [a0, a1] H k = f68 (PR n β) n a0 a1 H k := f68_body (PR n β) n a0 a1 H k
theorem f21_eq (n : Nat) (a0 a1 a2 : AV) (H : Heap) (k : AV → Heap → Option β) : evalFn E0 (n + 1) β 21 [a0, a1, a2] H k = f21 (PR n β) n a0 a1 a2 H k := f21_body (PR n β) n a0 a1 a2 H k
theorem f130_eq (n : Nat) (a0 a1 : AV) (H : Heap) (k : AV → Heap → Option β) : evalFn E0 (n + 1) β 130 [a0, a1] H k = f130 (PR n β) n a0 a1 H k := f130_body (PR n β) n a0 a1 H k
theorem f70_eq (n : Nat) (a0 a1 : AV) (H : Heap) (k : AV → Heap → Option β) : evalFn E0 (n + 1) β 70 [a0, a1] H k = f70 (PR n β) n a0 a1 H k := f70_body (PR n β) n a0 a1 H k
theorem f23_eq (n : Nat) (a0 a1 a2 : AV) (H : Heap) (k : AV → Heap → Option β) : evalFn E0 (n + 1) β 23 [a0, a1, a2] H k = f23 (PR n β) n a0 a1 a2 H k := f23_body (PR n β) n a0 a1 a2 H k
theorem f25_eq (n : Nat) (a0 a1 : AV) (H : Heap) (k : AV → Heap → Option β) : evalFn E0 (n + 1) β 25 [a0, a1] H k = f25 (PR n β) n a0 a1 H k := f25_body (PR n β) n a0 a1 H k
theorem f5_eq (n : Nat) (a0 a1 a2 : AV) (H : Heap) (k : AV → Heap → Option β) : evalFn E0 (n + 1) β 5 [a0, a1, a2] H k = f5 (PR n β) n a0 a1 a2 H k := f5_body (PR n β) n a0 a1 a2 H k
end Go.Proofs.YtdameggfgnpehaaGreatDoor.Abs
set_option linter.unusedVariables false
set_option linter.unusedSimpArgs false
namespace Go.Proofs.YtdameggfgnpehaaGreatDoor.Abs
open Go Go.Shelf Go.RowKit Go.Lib Go.Proofs
variable {P : Program} {ρ : Ren}
def ItAt (w w' : World) (s : ByteArray) (pos : Nat) : Prop := Below w.heap.size w w' ∧ w'.heap[w.heap.size]? = some (.stringIter s pos)
def setIt (w' : World) (a : Nat) (s : ByteArray) (pos : Nat) : World := { w' with heap := w'.heap.setIfInBounds a (.stringIter s pos) }
theorem itAt_start (w : World) (s : ByteArray) (pos : Nat) : ItAt w (w.iter s pos) s pos := ⟨(Below.refl _ w).alloc (Nat.le_refl _) _, World.iter_heap w s pos⟩
theorem ItAt.lt {w w' : World} {s : ByteArray} {pos : Nat} (h : ItAt w w' s pos) : w.heap.size < w'.heap.size := by
 have := h.2
 simp only [Array.getElem?_eq_some_iff] at this
 exact this.1
theorem ItAt.set {w w' : World} {s : ByteArray} {pos : Nat} (h : ItAt w w' s pos) (pos' : Nat) : ItAt w (setIt w' w.heap.size s pos') s pos' := by
 refine ⟨h.1.trans ⟨rfl, rfl, rfl, by simp [setIt], fun k hk => ?_⟩, ?_⟩
 ·simp only [setIt]
  rw [Array.getElem?_setIfInBounds_ne (by omega)]
 ·simp only [setIt]
  rw [Array.getElem?_setIfInBounds_self_of_lt h.lt]
theorem ItAt.below {w w1 w2 : World} {s : ByteArray} {pos : Nat} (h : ItAt w w1 s pos) (hb : Below w1.heap.size w1 w2) : ItAt w w2 s pos :=
 ⟨h.1.trans (hb.mono h.1.size), by rw [hb.block _ h.lt]; exact h.2⟩
theorem next_at {w w' : World} {s : ByteArray} {pos : Nat} (h : ItAt w w' s pos) (hp : pos < s.size) (ty : TypeId) :
  (Instr.next (.pointer (some ⟨w.heap.size, 0, none⟩)) true ty).run P w' = .ok (.tuple #[.bool true, .int .i64 pos, .int .i32 (Utf8.decode s pos).1]) (setIt w' w.heap.size s (pos + (Utf8.decode s pos).2)) := by
 simp only [Instr.next, getObj, setObj, Sem.run_bind, Sem.run, h.2, Result.andThen, hp, if_true]
 simp [goInt, setIt]
theorem next_end {w w' : World} {s : ByteArray} {pos : Nat} (h : ItAt w w' s pos) (hp : ¬ pos < s.size) (ty : TypeId) :
  (Instr.next (.pointer (some ⟨w.heap.size, 0, none⟩)) true ty).run P w' = .ok (.tuple #[.bool false]) w' := by
 simp [Instr.next, getObj, Sem.run, h.2, hp]
theorem rune_at (s : ByteArray) (pos : Nat) : (Utf8.decode s pos).1 < 55296 ∨ (57343 < (Utf8.decode s pos).1 ∧ (Utf8.decode s pos).1 ≤ 1114111) := by
 rw [← Lib.decodeL_drop, Lib.decodeL_N]
 exact Lib.decodeN_valid _ _ _ _ _ (UInt8.toNat_lt _)
theorem ph_size : phB.size = 2 := rfl
set_option maxHeartbeats 8000000 in
set_option maxRecDepth 1000000 in
theorem rune_big (L : Lays.n152 P ρ) (r : Nat) (rs : ByteArray) (w : World) (h1 : 128 ≤ r) (hv : r < 55296 ∨ (57343 < r ∧ r ≤ 1114111)) (he : ¬ r = 65533) (hcv : ∀ w, (convert (ρ.t 21) (ρ.t 9) (.int .i32 r)).run P w = .ok (.string rs) w)
  (hs2 : 2 ≤ rs.size) (hs4 : rs.size ≤ 4) (hsl : rs.size = 2 → ∀ h : 1 < rs.size, 128 ≤ (rs[1]'h).toNat) :
  Calls P (ρ.f 152) #[.string phB, .int .i32 r] w fun e w' => e = .returned (.int .i64 (-1)) ∧ Below w.heap.size w w' := by
 have cV : ∀ w, Calls P (ρ.f 119) #[.int .i32 r] w _ := fun w => Any.utf8_ValidRune { L with } r w
 have cI : ∀ s c w, Calls P (ρ.f 137) #[.string s, .int .u8 c] w _ := fun s c w => Any.strings_IndexByte { L with } s c w
 have mixed := L.mixed
 have t3 := L.t3; have a3 := L.a3; have z3 := L.z3; have v3 := L.v3
 have t4 := L.t4; have a4 := L.a4; have z4 := L.z4; have v4 := L.v4
 have t5 := L.t5; have a5 := L.a5; have z5 := L.z5; have v5 := L.v5
 have t9 := L.t9; have a9 := L.a9; have z9 := L.z9; have v9 := L.v9
 have t21 := L.t21; have a21 := L.a21; have z21 := L.z21; have v21 := L.v21
 have e137 : ∀ args w, (callFunc (ρ.f 137) args).run P w = .ok (.enter (ρ.f 137) args) w := enters_of L.f137 (by kernel_rfl) rfl
 have e119 : ∀ args w, (callFunc (ρ.f 119) args).run P w = .ok (.enter (ρ.f 119) args) w := enters_of L.f119 (by kernel_rfl) rfl
 have hge : decide ((0 : Int) ≤ (r : Int)) = true := by simp
 have hlt : decide ((r : Int) < 128) = false := by simp; omega
 have bel : ∀ pos, Below w.heap.size w (w.iter phB pos) := fun pos => (Below.refl _ w).alloc (Nat.le_refl _) _
 have hne : ((r : Int) == 65533) = false := by simp; omega
 have hvr : Lib.validRune (r : Int) = true := by simp [Lib.validRune]; omega
 go_enter L.f152, Body.n152_ntmps ρ
 go_wp2_with (first
  | (go_at_fn (ρ.f 119); refine (cV _).mono ?_; rintro e w' ⟨rfl, hw⟩; rw [hw, hvr])
  | (go_at_fn (ρ.f 137); refine (cI _ _ _).mono ?_; rintro e w' ⟨rfl, hw⟩; rw [hw]))
 go_step3
 go_wp2
 go_loopg [9, 10] 1 (fun g i fl wx => g = 1 ∧ i = .int .i64 ((rs.size : Int) - 1) ∧ fl = .int .i64 0 ∧ wx = w)
 case atStart => exact ⟨rfl, rfl, rfl, rfl⟩
 case round =>
  obtain ⟨-, rfl, rfl, rfl⟩ := hrel
  by_cases h3 : 3 ≤ rs.size
  ·have hlt : decide ((rs.size : Int) - 1 < (phB.size : Int)) = false := by rw [ph_size]; simp; omega
   go_wp2
   try rw [Exit.noGoto_ret]
   go_ret
   exact ⟨rfl, Below.refl _ _⟩
  ·have h2 : rs.size = 2 := by omega
   have hi1 : ((rs.size : Int) - 1) = 1 := by omega
   have hi : 1 < rs.size := by omega
   have hp : 1 < phB.size := by decide
   obtain ⟨x, hx⟩ : ∃ x : UInt8, rs[1]'hi = x := ⟨_, rfl⟩
   have hx128 : 128 ≤ x.toNat := by
    rw [← hx]
    exact hsl h2 hi
   have hp1 : phB[1]'hp = 35 := rfl
   have hlt : decide ((1 : Int) < (phB.size : Int)) = true := rfl
   have hne35 : (((35 : UInt8).toNat : Int) != (x.toNat : Int)) = true := by simp; omega
   have hib : Lib.indexByte (List.take (phB.size - 2) (List.drop 2 phB.data.toList)) x = -1 := rfl
   rw [hi1]
   clear hsl hs2 hs4
   go_wp2
   go_step3
   go_wp2
   go_region_o
   all_goals
    go_wp2
    go_region_with_o (go_at_fn (ρ.f 137); refine (cI _ _ _).mono ?_; rintro e w' ⟨rfl, hw⟩; rw [hw])
   all_goals
    go_wp2
    simp only [Exit.inBlock, Exit.then, Exit.noGoto]
    go_ret
    exact ⟨rfl, (Below.refl _ _).drew.drew⟩
set_option maxHeartbeats 8000000 in
set_option maxRecDepth 1000000 in
theorem rune_ph (L : Lays.n152 P ρ) (r : Nat) (w : World) (h1 : 128 ≤ r) (hv : r < 55296 ∨ (57343 < r ∧ r ≤ 1114111)) :
  Calls P (ρ.f 152) #[.string phB, .int .i32 r] w fun e w' => e = .returned (.int .i64 (-1)) ∧ Below w.heap.size w w' := by
 have cV : ∀ w, Calls P (ρ.f 119) #[.int .i32 r] w _ := fun w => Any.utf8_ValidRune { L with } r w
 have cI : ∀ s c w, Calls P (ρ.f 137) #[.string s, .int .u8 c] w _ := fun s c w => Any.strings_IndexByte { L with } s c w
 have t3 := L.t3; have a3 := L.a3; have z3 := L.z3; have v3 := L.v3
 have t4 := L.t4; have a4 := L.a4; have z4 := L.z4; have v4 := L.v4
 have t5 := L.t5; have a5 := L.a5; have z5 := L.z5; have v5 := L.v5
 have t9 := L.t9; have a9 := L.a9; have z9 := L.z9; have v9 := L.v9
 have t21 := L.t21; have a21 := L.a21; have z21 := L.z21; have v21 := L.v21
 have e137 : ∀ args w, (callFunc (ρ.f 137) args).run P w = .ok (.enter (ρ.f 137) args) w := enters_of L.f137 (by kernel_rfl) rfl
 have e119 : ∀ args w, (callFunc (ρ.f 119) args).run P w = .ok (.enter (ρ.f 119) args) w := enters_of L.f119 (by kernel_rfl) rfl
 have hge : decide ((0 : Int) ≤ (r : Int)) = true := by simp
 have hlt : decide ((r : Int) < 128) = false := by simp; omega
 have bel : ∀ pos, Below w.heap.size w (w.iter phB pos) := fun pos => (Below.refl _ w).alloc (Nat.le_refl _) _
 by_cases he : r = 65533
 ·subst he
  go_enter L.f152, Body.n152_ntmps ρ
  go_wp2
  go_loopg [5, 6] 2 (fun g _ _ wx => ∃ i : Nat, i + g = 2 ∧ wx = w.iter phB i)
  case atStart => exact ⟨0, by omega, rfl⟩
  case round =>
   obtain ⟨i, hig, rfl⟩ := hrel
   cases gk with
   | zero =>
    obtain rfl : i = 2 := by omega
    have hnx := fun ty => run_next_end (P := P) w phB 2 ty (by decide)
    go_wp2
    go_ret
    exact ⟨rfl, bel _⟩
   | succ g =>
    have hi : i < phB.size := by
     show i < 2
     omega
    have hx : (phB[i]'hi).toNat < 64 := by
     have : ∀ q : Fin 2, (phB[q.val]'q.isLt).toNat < 64 := by decide
     exact this ⟨i, hi⟩
    have hnx := fun ty => run_next_ascii (P := P) w phB i ty hi (by omega)
    generalize (phB[i]'hi).toNat = x at hnx hx
    have hxe : ((x : Int) == 65533) = false := by simp; omega
    go_wp2
    go_roundg g
    case measure => omega
    case rel => exact ⟨i + 1, by omega, rfl⟩
 ·obtain ⟨hs2, hs4, hsl⟩ := encode_facts (r : Int) (by simp [Utf8.valid]; omega) (by omega)
  refine rune_big L r (Utf8.encode r) w h1 hv he (fun w => run_convert_int_string w _ _ _ _ (by rw [t21]; rfl) t9) hs2 hs4 ?_
  intro h2 hi
  have := hsl (by omega)
  simp only [h2] at this
  exact this
theorem getD_drop (l : List UInt8) (i j : Nat) : (l.drop i).getD j 0 = l.getD (i + j) 0 := by simp [List.getD_eq_getElem?_getD, List.getElem?_drop]
theorem dec_hi (l : List UInt8) (h : 128 ≤ (l.getD 0 0).toNat) : 128 ≤ (Lib.decodeL l).1 ∧ ∀ j, j < (Lib.decodeL l).2 → 128 ≤ (l.getD j 0).toNat := by
 rw [Lib.decodeL_N]
 generalize hn : l.length = n
 generalize h0 : (l.getD 0 0).toNat = b0 at h ⊢
 generalize h1 : (l.getD 1 0).toNat = b1
 generalize h2 : (l.getD 2 0).toNat = b2
 generalize h3 : (l.getD 3 0).toNat = b3
 have key : ∀ q, q ≤ 4 → (q = 2 → 128 ≤ b1) → (q = 3 → 128 ≤ b1 ∧ 128 ≤ b2) → (q = 4 → 128 ≤ b1 ∧ 128 ≤ b2 ∧ 128 ≤ b3) → ∀ j, j < q → 128 ≤ (l.getD j 0).toNat := by
  intro q hq k2 k3 k4 j hj
  have : j = 0 ∨ j = 1 ∨ j = 2 ∨ j = 3 := by omega
  rcases this with rfl | rfl | rfl | rfl
  ·rw [h0]; exact h
  ·rw [h1]; omega
  ·rw [h2]; omega
  ·rw [h3]; omega
 unfold Lib.decodeN
 rw [if_neg (by omega)]
 repeat' split
 all_goals
  refine ⟨?_, key _ ?_ ?_ ?_ ?_⟩ <;> simp only <;> omega
def phL (l : List UInt8) : Bool := l.any fun c => c == 43 || c == 35
theorem phL_skip : ∀ (k : Nat) (l : List UInt8), (∀ j, j < k → 128 ≤ (l.getD j 0).toNat) → phL l = phL (l.drop k)
 | 0, l, _ => rfl
 | k + 1, [], _ => by simp
 | k + 1, b :: l, h => by
  have h0 : 128 ≤ b.toNat := h 0 (by omega)
  have ih := phL_skip k l fun j hj => h (j + 1) (by omega)
  have e1 : (b == 43) = false := by
   rw [beq_eq_false_iff_ne]
   rintro rfl
   simp at h0
  have e2 : (b == 35) = false := by
   rw [beq_eq_false_iff_ne]
   rintro rfl
   simp at h0
  show (List.any (b :: l) _) = _
  rw [List.any_cons, e1, e2, Bool.or_self, Bool.false_or, List.drop_succ_cons]
  exact ih
theorem phL_step (l : List UInt8) (hne : l ≠ []) : phL l = (((Lib.decodeL l).1 == 43 || (Lib.decodeL l).1 == 35) || phL (l.drop (Lib.decodeL l).2)) := by
 cases l with
 | nil => exact absurd rfl hne
 | cons b l =>
  by_cases hb : 128 ≤ b.toNat
  ·obtain ⟨h1, h2⟩ := dec_hi (b :: l) hb
   have e1 : ((Lib.decodeL (b :: l)).1 == 43) = false := by simp; omega
   have e2 : ((Lib.decodeL (b :: l)).1 == 35) = false := by simp; omega
   rw [e1, e2, Bool.or_self, Bool.false_or]
   exact phL_skip _ _ h2
  ·have e : Lib.decodeL (b :: l) = (b.toNat, 1) := by
    rw [Lib.decodeL_N]
    unfold Lib.decodeN
    rw [if_pos (by simpa using hb)]
    rfl
   rw [e]
   show List.any (b :: l) _ = _
   rw [List.any_cons, List.drop_succ_cons, List.drop_zero]
   have e1 : (b == 43) = (b.toNat == 43) := by
    rw [Bool.eq_iff_iff, beq_iff_eq, beq_iff_eq, ← UInt8.toNat_inj]; rfl
   have e2 : (b == 35) = (b.toNat == 35) := by
    rw [Bool.eq_iff_iff, beq_iff_eq, beq_iff_eq, ← UInt8.toNat_inj]; rfl
   rw [e1, e2]
   rfl
theorem phL_vPH (s : ByteArray) : phL s.data.toList = vPH s := any_or _ _ _
theorem byte_ph (r : Nat) (h : r < 128) : decide (0 ≤ Lib.indexByte phB.data.toList r.toUInt8) = (r == 43 || r == 35) := by
 have : ∀ q : Fin 128, decide (0 ≤ Lib.indexByte phB.data.toList (q.val).toUInt8) = (q.val == 43 || q.val == 35) := by decide
 exact this ⟨r, h⟩
set_option maxHeartbeats 8000000 in
set_option maxRecDepth 1000000 in
theorem short_ph (L : Lays.n153 P ρ) (s : ByteArray) (w : World) (h8 : s.size ≤ 8) :
  Calls P (ρ.f 153) #[.string s, .string phB] w fun e w' => (∃ z : Int, e = .returned (.int .i64 z) ∧ decide (0 ≤ z) = phL s.data.toList) ∧ Below w.heap.size w w' := by
 have cA : ∀ (r : Nat) w, r < 128 → ∃ z : Int, decide (0 ≤ z) = (r == 43 || r == 35) ∧ Calls P (ρ.f 152) #[.string phB, .int .i32 r] w fun e w' => e = .returned (.int .i64 z) ∧ w' = w := fun r w h => ⟨_, byte_ph r h, Any.strings_IndexRune_ascii { L with } phB r w (by omega) (by omega)⟩
 have cR : ∀ (r : Nat) w, 128 ≤ r → r < 55296 ∨ (57343 < r ∧ r ≤ 1114111) → Calls P (ρ.f 152) #[.string phB, .int .i32 r] w _ := fun r w h h' => rune_ph { L with } r w h h'
 have hemp : phB.toList.isEmpty = false := by rw [Lib.toList_data]; rfl
 have hn1 : ((phB.size : Int) == 1) = false := rfl
 have h8z : decide ((8 : Int) < (s.size : Int)) = false := decide_eq_false (by omega)
 have t3 := L.t3; have a3 := L.a3; have z3 := L.z3; have v3 := L.v3
 have t4 := L.t4; have a4 := L.a4; have z4 := L.z4; have v4 := L.v4
 have t5 := L.t5; have a5 := L.a5; have z5 := L.z5; have v5 := L.v5
 have t9 := L.t9; have a9 := L.a9; have z9 := L.z9; have v9 := L.v9
 have t21 := L.t21; have a21 := L.a21; have z21 := L.z21; have v21 := L.v21
 have e152 : ∀ args w, (callFunc (ρ.f 152) args).run P w = .ok (.enter (ρ.f 152) args) w := enters_of L.f152 (by kernel_rfl) rfl
 have e226 : ∀ args w, (callFunc (ρ.f 226) args).run P w = .ok (.enter (ρ.f 226) args) w := enters_of L.f226 (by kernel_rfl) rfl
 go_enter L.f153, Body.n153_ntmps ρ
 go_wp2_with (go_at_fn (ρ.f 226); refine (Any.strings_shouldUseASCIISet { L with } _ _).mono ?_; rintro e w' ⟨rfl, hw⟩; rw [hw, h8z])
 go_loopg [9, 10] s.size (fun g _ _ wx => ∃ pos : Nat, s.size ≤ pos + g ∧ ItAt w wx s pos ∧ phL (s.data.toList.drop pos) = phL s.data.toList)
 case atStart => exact ⟨0, by omega, itAt_start w s 0, by simp⟩
 case round =>
  obtain ⟨pos, hpg, hit, hph⟩ := hrel
  have HIT : Aside (ItAt w wr s pos) := hit
  have HPH : Aside (phL (s.data.toList.drop pos) = phL s.data.toList) := hph
  by_cases hp : pos < s.size
  ·obtain ⟨g, rfl⟩ : ∃ g, gk = g + 1 := ⟨gk - 1, by omega⟩
   have hnx := fun ty => next_at (P := P) hit hp ty
   have hne : s.data.toList.drop pos ≠ [] := by
    intro h
    have := congrArg List.length h
    simp at this
    omega
   have hst := phL_step _ hne
   rw [Lib.decodeL_drop, hph, List.drop_drop] at hst
   have hwd : 1 ≤ (Utf8.decode s pos).2 := by rw [← Lib.decodeL_drop s pos]; exact Lib.decodeL_width _
   have hru := rune_at s pos
   have HIT2 : Aside (ItAt w (setIt wr w.heap.size s (pos + (Utf8.decode s pos).2)) s (pos + (Utf8.decode s pos).2)) := hit.set _
   clear hit hph
   generalize hr : (Utf8.decode s pos).1 = r at hnx hst hru
   have HST : Aside (phL s.data.toList = ((r == 43 || r == 35) || phL (s.data.toList.drop (pos + (Utf8.decode s pos).2)))) := hst
   clear hst
   by_cases h128 : r < 128
   ·obtain ⟨z, hz, cz⟩ := cA r (setIt wr w.heap.size s (pos + (Utf8.decode s pos).2)) h128
    clear cA
    cases hin : (r == 43 || r == 35)
    ·rw [hin] at hz
     have hlt : ¬ ((0 : Int) ≤ z) := of_decide_eq_false hz
     clear hz
     go_wp2_with (go_at_fn (ρ.f 152); refine cz.mono ?_; rintro e w' ⟨rfl, hw⟩; rw [hw])
     go_roundg g
     case measure => omega
     case rel => exact ⟨_, by omega, HIT2.out, by rw [HST.out, hin, Bool.false_or]⟩
    ·rw [hin] at hz
     have hge : (0 : Int) ≤ z := of_decide_eq_true hz
     clear hz
     go_wp2_with (go_at_fn (ρ.f 152); refine cz.mono ?_; rintro e w' ⟨rfl, hw⟩; rw [hw])
     go_ret
     exact ⟨⟨_, rfl, by rw [HST.out, hin, Bool.true_or]; simp⟩, HIT2.out.1⟩
   ·have hin : (r == 43 || r == 35) = false := by simp; omega
    go_wp2_with (go_at_fn (ρ.f 152); refine (cR r _ (by omega) hru).mono ?_; rintro e w' ⟨rfl, hw⟩)
    go_roundg g
    case measure => omega
    case rel => exact ⟨_, by omega, HIT2.out.below hw, by rw [HST.out, hin, Bool.false_or]⟩
  ·have hnx := fun ty => next_end (P := P) hit hp ty
   have hnil : s.data.toList.drop pos = [] := by
    apply List.drop_of_length_le
    simp
    omega
   rw [hnil] at hph
   go_wp2
   go_ret
   exact ⟨⟨_, rfl, by rw [← hph]; rfl⟩, HIT.out.1⟩
theorem index_ph (L : Lays.n153 P ρ) (hv116 : ∀ w, (zeroValue (ρ.t 116)).run P w = .ok (.agg (Array.replicate 256 (.bool false))) w) (hi116 : (P.info? (ρ.t 116)).map (·.size) = some 256) (s : ByteArray) (w : World) (hs : s.size < 4294967281) :
  Calls P (ρ.f 153) #[.string s, .string phB] w fun e w' => (∃ z : Int, e = .returned (.int .i64 z) ∧ decide (0 ≤ z) = phL s.data.toList) ∧ Below w.heap.size w w' := by
 by_cases h8 : s.size ≤ 8
 ·exact short_ph L s w h8
 ·refine (Any.strings_IndexAny_long L hv116 hi116 s phB w (by decide) (by omega) hs (by decide) ?_).mono fun e w' ⟨h1, h2⟩ => ⟨⟨_, h1, ?_⟩, ?_⟩
  ·intro j b hb
   have : phB.data.toList = [43, 35] := rfl
   rw [this] at hb
   match j, hb with
   | 0, hb => cases hb; decide
   | 1, hb => cases hb; decide
  ·have := has_ph s
   rw [phL_vPH, ← this]
   rfl
  ·rw [h2]
   exact ((Below.refl _ _).alloc (Nat.le_refl _) _).alloc (by simp) _
set_option maxHeartbeats 1000000 in
theorem contains_ph (L : Lays.n150 P ρ) (hv116 : ∀ w, (zeroValue (ρ.t 116)).run P w = .ok (.agg (Array.replicate 256 (.bool false))) w) (hi116 : (P.info? (ρ.t 116)).map (·.size) = some 256) (s : ByteArray) (w : World) (hs : s.size < 4294967281) :
  Calls P (ρ.f 150) #[.string s, .string phB] w fun e w' => e = .returned (.bool (vPH s)) ∧ Below w.heap.size w w' := by
 have c := index_ph { L with } hv116 hi116 s w hs
 have t3 := L.t3; have a3 := L.a3; have z3 := L.z3; have v3 := L.v3
 have t4 := L.t4; have a4 := L.a4; have z4 := L.z4; have v4 := L.v4
 have t9 := L.t9; have a9 := L.a9; have z9 := L.z9; have v9 := L.v9
 have e153 : ∀ args w, (callFunc (ρ.f 153) args).run P w = .ok (.enter (ρ.f 153) args) w := enters_of L.f153 (by kernel_rfl) rfl
 go_enter L.f150, Body.n150_ntmps ρ
 go_wp2_with (go_at_fn (ρ.f 153); refine c.mono ?_; rintro e w' ⟨⟨z, rfl, hz⟩, hw⟩)
 go_ret
 refine ⟨?_, hw⟩
 rw [← phL_vPH, ← hz]
 rfl
end Go.Proofs.YtdameggfgnpehaaGreatDoor.Abs
set_option linter.unusedVariables false
set_option linter.unusedSimpArgs false
namespace Go.Proofs
open Go.RowKit Go.Shelf Go.Lib
def Tryz.laysValid_ren : Go.Shelf.Ren := ⟨fun | 196 => 168 | 259 => 187 | n => n, fun | 9 => 9 | 4 => 4 | 3 => 3 | 5 => 5 | 12 => 12 | 119 => 186 | 0 => 0 | 46 => 183 | 139 => 189 | 138 => 188 | 53 => 194 | n => n, fun | 3 => 0 | 4 => 1 | n => n⟩
theorem Tryz.laysValid : Go.Proofs.Lays.n196 Tryz.prog Tryz.laysValid_ren := {
 mixed := by kernel_rfl
 f196 := Tryz.func168.trans (congrArg some (by kernel_rfl))
 f259 := Tryz.func187.trans (congrArg some (by kernel_rfl))
 t0 := Tryz.underlying0
 a0 := Tryz.isAgg0
 z0 := Tryz.sizeOf0
 v0 := Tryz.zeroValue0
 t3 := Tryz.underlying3
 a3 := Tryz.isAgg3
 z3 := Tryz.sizeOf3
 v3 := Tryz.zeroValue3
 t4 := Tryz.underlying4
 a4 := Tryz.isAgg4
 z4 := Tryz.sizeOf4
 v4 := Tryz.zeroValue4
 t5 := Tryz.underlying5
 a5 := Tryz.isAgg5
 z5 := Tryz.sizeOf5
 v5 := Tryz.zeroValue5
 t9 := Tryz.underlying9
 a9 := Tryz.isAgg9
 z9 := Tryz.sizeOf9
 v9 := Tryz.zeroValue9
 t12 := Tryz.underlying12
 a12 := Tryz.isAgg12
 z12 := Tryz.sizeOf12
 v12 := Tryz.zeroValue12
 t46 := Tryz.underlying183
 a46 := Tryz.isAgg183
 z46 := Tryz.sizeOf183
 v46 := Tryz.zeroValue183
 t53 := Tryz.underlying194
 a53 := Tryz.isAgg194
 z53 := Tryz.sizeOf194
 v53 := Tryz.zeroValue194
 t119 := Tryz.underlying186
 a119 := Tryz.isAgg186
 z119 := Tryz.sizeOf186
 t138 := Tryz.underlying188
 a138 := Tryz.isAgg188
 z138 := Tryz.sizeOf188
 v138 := Tryz.zeroValue188
 t139 := Tryz.underlying189
 a139 := Tryz.isAgg189
 z139 := Tryz.sizeOf189
 v139 := Tryz.zeroValue189
 g3 := by kernel_rfl
 g4 := by kernel_rfl }
def Tryz.laysAny_ren : Go.Shelf.Ren := ⟨fun | 150 => 188 | 153 => 201 | 152 => 204 | 226 => 205 | 227 => 206 | 228 => 207 | 137 => 209 | 119 => 210 | 224 => 211 | 225 => 212 | 217 => 216 | 266 => 221 | n => n, fun | 9 => 9 | 4 => 4 | 3 => 3 | 5 => 5 | 21 => 21 | 117 => 201 | 116 => 200 | 0 => 0 | 46 => 183 | 124 => 208 | n => n, fun | n => n⟩
theorem Tryz.laysAny : Go.Proofs.Lays.n150 Tryz.prog Tryz.laysAny_ren := {
 mixed := by kernel_rfl
 f119 := Tryz.func210.trans (congrArg some (by kernel_rfl))
 f137 := Tryz.func209.trans (congrArg some (by kernel_rfl))
 f150 := Tryz.func188.trans (congrArg some (by kernel_rfl))
 f152 := Tryz.func204.trans (congrArg some (by kernel_rfl))
 f153 := Tryz.func201.trans (congrArg some (by kernel_rfl))
 f217 := Tryz.func216.trans (congrArg some (by kernel_rfl))
 f224 := Tryz.func211.trans (congrArg some (by kernel_rfl))
 f225 := Tryz.func212.trans (congrArg some (by kernel_rfl))
 f226 := Tryz.func205.trans (congrArg some (by kernel_rfl))
 f227 := Tryz.func206.trans (congrArg some (by kernel_rfl))
 f228 := Tryz.func207.trans (congrArg some (by kernel_rfl))
 f266 := Tryz.func221.trans (congrArg some (by kernel_rfl))
 t0 := Tryz.underlying0
 a0 := Tryz.isAgg0
 z0 := Tryz.sizeOf0
 v0 := Tryz.zeroValue0
 t3 := Tryz.underlying3
 a3 := Tryz.isAgg3
 z3 := Tryz.sizeOf3
 v3 := Tryz.zeroValue3
 t4 := Tryz.underlying4
 a4 := Tryz.isAgg4
 z4 := Tryz.sizeOf4
 v4 := Tryz.zeroValue4
 t5 := Tryz.underlying5
 a5 := Tryz.isAgg5
 z5 := Tryz.sizeOf5
 v5 := Tryz.zeroValue5
 t9 := Tryz.underlying9
 a9 := Tryz.isAgg9
 z9 := Tryz.sizeOf9
 v9 := Tryz.zeroValue9
 t21 := Tryz.underlying21
 a21 := Tryz.isAgg21
 z21 := Tryz.sizeOf21
 v21 := Tryz.zeroValue21
 t46 := Tryz.underlying183
 a46 := Tryz.isAgg183
 z46 := Tryz.sizeOf183
 v46 := Tryz.zeroValue183
 t116 := Tryz.underlying200
 a116 := Tryz.isAgg200
 z116 := Tryz.sizeOf200
 t117 := Tryz.underlying201
 a117 := Tryz.isAgg201
 z117 := Tryz.sizeOf201
 v117 := Tryz.zeroValue201
 t124 := Tryz.underlying208
 a124 := Tryz.isAgg208
 z124 := Tryz.sizeOf208
 v124 := Tryz.zeroValue208 }
def Tryz.laysSplit_ren : Go.Shelf.Ren := ⟨fun | 146 => 202 | 221 => 208 | 268 => 213 | 138 => 214 | 143 => 215 | 195 => 217 | 197 => 218 | 218 => 219 | 219 => 220 | 260 => 222 | 217 => 216 | 225 => 212 | 224 => 211 | 267 => 223 | 266 => 221 | 314 => 224 | n => n, fun | 9 => 9 | 31 => 73 | 3 => 3 | 4 => 4 | 0 => 0 | 105 => 210 | 21 => 21 | 5 => 5 | 46 => 183 | 119 => 186 | 139 => 189 | 138 => 188 | 146 => 213 | 51 => 212 | n => n, fun | 1 => 2 | 3 => 0 | 4 => 1 | n => n⟩
theorem Tryz.laysSplit : Go.Proofs.Lays.n146 Tryz.prog Tryz.laysSplit_ren := {
 mixed := by kernel_rfl
 f138 := Tryz.func214.trans (congrArg some (by kernel_rfl))
 f143 := Tryz.func215.trans (congrArg some (by kernel_rfl))
 f146 := Tryz.func202.trans (congrArg some (by kernel_rfl))
 f195 := Tryz.func217.trans (congrArg some (by kernel_rfl))
 f197 := Tryz.func218.trans (congrArg some (by kernel_rfl))
 f217 := Tryz.func216.trans (congrArg some (by kernel_rfl))
 f218 := Tryz.func219.trans (congrArg some (by kernel_rfl))
 f219 := Tryz.func220.trans (congrArg some (by kernel_rfl))
 f221 := Tryz.func208.trans (congrArg some (by kernel_rfl))
 f224 := Tryz.func211.trans (congrArg some (by kernel_rfl))
 f225 := Tryz.func212.trans (congrArg some (by kernel_rfl))
 f260 := Tryz.func222.trans (congrArg some (by kernel_rfl))
 f266 := Tryz.func221.trans (congrArg some (by kernel_rfl))
 f267 := Tryz.func223.trans (congrArg some (by kernel_rfl))
 f268 := Tryz.func213.trans (congrArg some (by kernel_rfl))
 f314 := Tryz.func224.trans (congrArg some (by kernel_rfl))
 t0 := Tryz.underlying0
 a0 := Tryz.isAgg0
 z0 := Tryz.sizeOf0
 v0 := Tryz.zeroValue0
 t3 := Tryz.underlying3
 a3 := Tryz.isAgg3
 z3 := Tryz.sizeOf3
 v3 := Tryz.zeroValue3
 t4 := Tryz.underlying4
 a4 := Tryz.isAgg4
 z4 := Tryz.sizeOf4
 v4 := Tryz.zeroValue4
 t5 := Tryz.underlying5
 a5 := Tryz.isAgg5
 z5 := Tryz.sizeOf5
 v5 := Tryz.zeroValue5
 t9 := Tryz.underlying9
 a9 := Tryz.isAgg9
 z9 := Tryz.sizeOf9
 v9 := Tryz.zeroValue9
 t21 := Tryz.underlying21
 a21 := Tryz.isAgg21
 z21 := Tryz.sizeOf21
 v21 := Tryz.zeroValue21
 t31 := Tryz.underlying73
 a31 := Tryz.isAgg73
 z31 := Tryz.sizeOf73
 v31 := Tryz.zeroValue73
 t46 := Tryz.underlying183
 a46 := Tryz.isAgg183
 z46 := Tryz.sizeOf183
 v46 := Tryz.zeroValue183
 t51 := Tryz.underlying212
 a51 := Tryz.isAgg212
 z51 := Tryz.sizeOf212
 v51 := Tryz.zeroValue212
 t105 := Tryz.underlying210
 a105 := Tryz.isAgg210
 z105 := Tryz.sizeOf210
 v105 := Tryz.zeroValue210
 t119 := Tryz.underlying186
 a119 := Tryz.isAgg186
 z119 := Tryz.sizeOf186
 t138 := Tryz.underlying188
 a138 := Tryz.isAgg188
 z138 := Tryz.sizeOf188
 v138 := Tryz.zeroValue188
 t139 := Tryz.underlying189
 a139 := Tryz.isAgg189
 z139 := Tryz.sizeOf189
 v139 := Tryz.zeroValue189
 t146 := Tryz.underlying213
 a146 := Tryz.isAgg213
 z146 := Tryz.sizeOf213
 v146 := Tryz.zeroValue213
 g1 := by kernel_rfl
 g3 := by kernel_rfl
 g4 := by kernel_rfl }
namespace YtdameggfgnpehaaGreatDoor.Abs
def noZ : Nat → List UInt8 → Bool
 | 0, _ => true
 | n + 1, l => if l = [] then true else if (Lib.decodeL l).1 = 0 then false else noZ n (l.drop (Lib.decodeL l).2)
def cleanT (s : ByteArray) : Bool := noZ s.size s.data.toList && (Lib.validD s.data.toList && decide (s.size ≤ 60))
def JT (w : World) : Prop := Lib.Utf8Tabs (Tryz.laysValid_ren.g 3) (Tryz.laysValid_ren.g 4) w
def J0 (w : World) : Prop := JT w ∧ ∃ m, w.cell? ⟨Tryz.laysSplit_ren.g 1, 0, none⟩ = some (.int .i64 m)
theorem jt_stays : ∀ w w' : World, JT w → Below w.heap.size w w' → JT w' := fun _ _ h hb => Utf8Tabs_below h hb
theorem j0_stays : ∀ w w' : World, J0 w → Below w.heap.size w w' → J0 w' := fun w w' h hb => ⟨jt_stays w w' h.1 hb, by
 obtain ⟨m, hm⟩ := h.2
 have hlt := World.block_lt_of_cell? _ _ hm
 refine ⟨m, ?_⟩
 rw [← hm]
 simp only [World.cell?]
 rw [hb.block _ hlt]⟩
set_option maxHeartbeats 1000000 in
set_option maxRecDepth 1000000 in
theorem text_walk (s : ByteArray) (w : World) (hs : s.size ≤ 9223372036854775807) (hT : JT w) :
  Calls Tryz.prog 136 #[.string s] w fun e w' => e = .returned (.bool (cleanT s)) ∧ Below w.heap.size w w' := by
 have cV : ∀ w, JT w → Calls Tryz.prog 168 #[.string s] w _ := fun w hT => Any.utf8_ValidString Tryz.laysValid s w hs hT
 unfold cleanT
 generalize hV : Lib.validD s.data.toList = V at cV ⊢
 have bel : ∀ pos, Below w.heap.size w (w.iter s pos) := fun pos => (Below.refl _ w).alloc (Nat.le_refl _) _
 go_enter Tryz.func136, Tryz.ntmps136
 go_wp2
 go_loopw [] (fun w' => ∃ (pos b : Nat), w' = w.iter s pos ∧ noZ b (s.data.toList.drop pos) = noZ s.size s.data.toList ∧ s.size ≤ pos + b) (fun w' => s.size - w'.iterPos w.heap.size)
 case atStart => exact ⟨0, s.size, rfl, by simp, by omega⟩
 case round =>
  obtain ⟨pos, b, rfl, hc, hb⟩ := hrel
  by_cases hp : pos < s.size
  ·have hnx : ∀ ty, (Instr.next (.pointer (some ⟨w.heap.size, 0, none⟩)) true ty).run Tryz.prog (w.iter s pos) = _ := fun ty => run_next_any w s pos ty hp
   have hdd := Lib.decodeL_drop s pos
   have hwd : 1 ≤ (Utf8.decode s pos).2 := by rw [← hdd]; exact Lib.decodeL_width _
   obtain ⟨b, rfl⟩ : ∃ b', b = b' + 1 := ⟨b - 1, by omega⟩
   have hne : s.data.toList.drop pos ≠ [] := by
    intro h
    have := congrArg List.length h
    simp at this
    omega
   rw [noZ, if_neg hne, hdd] at hc
   by_cases hz : (Utf8.decode s pos).1 = 0
   ·rw [if_pos hz] at hc
    have hz' : (((Utf8.decode s pos).1 : Int) == 0) = true := by simp [hz]
    go_wp2
    go_ret
    rw [← hc]
    exact ⟨by simp, bel _⟩
   ·rw [if_neg hz, List.drop_drop] at hc
    have hz' : (((Utf8.decode s pos).1 : Int) == 0) = false := by simp; omega
    go_wp2
    go_roundw
    case rel => exact ⟨pos + (Utf8.decode s pos).2, b, rfl, hc, by omega⟩
    case measure =>
     simp
     omega
  ·have hnx : ∀ ty, (Instr.next (.pointer (some ⟨w.heap.size, 0, none⟩)) true ty).run Tryz.prog (w.iter s pos) = _ := fun ty => run_next_end w s pos ty hp
   have hnil : s.data.toList.drop pos = [] := by
    apply List.drop_of_length_le
    simp
    omega
   have hc2 : noZ s.size s.data.toList = true := by
    rw [← hc, hnil]
    cases b <;> simp [noZ]
   rw [hc2]
   have cV2 := cV (w.iter s pos) (Utf8Tabs_below hT (bel pos))
   go_wp2_with (go_at_call 168; refine cV2.mono ?_; rintro e w' ⟨rfl, hb2⟩)
   all_goals
    go_ret
    refine ⟨?_, (bel pos).trans (hb2.mono (bel pos).size)⟩
   ·simp_all
    omega
   ·simp_all
theorem textGo_eq : ∀ (n : Nat) (l : List UInt8), textGo n l = (noZ n l && Lib.validGoD n l)
 | 0, _ => rfl
 | n + 1, l => by
  rw [textGo, noZ, Lib.validGoD, textGo_eq n]
  by_cases h : l = []
  ·simp [h]
  ·by_cases h1 : (Lib.decodeL l).1 = 65533 ∧ (Lib.decodeL l).2 = 1
   ·simp [h, h1]
   ·by_cases h2 : (Lib.decodeL l).1 = 0
    ·simp [h, h2]
    ·simp [h, h1, h2]
theorem clean_eq (s : ByteArray) : cleanT s = vTextOk s := by
 have e : s.data.toList.length = s.size := by simp
 unfold cleanT vTextOk Lib.validD
 rw [textGo_eq, e]
 cases noZ s.size s.data.toList <;> cases Lib.validGoD s.size s.data.toList <;> simp
theorem ph_of {c : ByteArray} (h : c.data.toList = [43, 35]) : c = phB := by
 cases c with
 | mk d =>
  have : d = #[43, 35] := by apply Array.ext'; simpa using h
  subst this
  rfl
theorem sep_of {c : ByteArray} (h : c.data.toList = [47]) : c = sepB := by
 cases c with
 | mk d =>
  have : d = #[47] := by apply Array.ext'; simpa using h
  subst this
  rfl
theorem set116 : (Tryz.prog.info? (Tryz.laysAny_ren.t 116)).map (fun i => (i.zero, i.size)) = some (some (.agg (Array.replicate 256 (.bool false))), 256) := by kernel_rfl
theorem hi9 : (Tryz.prog.info? (Tryz.laysSplit_ren.t 9)).map (fun i => (i.zero, i.size, i.bytes)) = some (some (.string ByteArray.empty), 1, 16) := by kernel_rfl
theorem hr_same {w w' : World} (hb : Below w.heap.size w w') : HR w noPhi w' [] := by
 refine ⟨hb, ?_, ?_, ?_, ?_⟩
 ·intro i k b o sz hi
  cases hi
 ·intro i k hi
  cases hi
 ·intro i i' k k' b o sz o' sz' hi
  cases hi
 ·intro i p hp
  cases hp
theorem ext_val {w w' : World} (hb : Below w.heap.size w w') (ty : Nat) (v : Value) : ∃ φ' Hc x ids, HR w φ' w' Hc ∧ VR w φ' x v ∧ ownT E0.ti E0.tp Hc 8 ty x = some (.sc v, ids) ∧ ids.Nodup :=
 ⟨noPhi, [], .sc v, [], hr_same hb, VR_sc _ _ _, rfl, List.nodup_nil⟩
theorem ownL_scE {ti : Nat → Option TI} {tp : Nat → Option (List Nat)} {H : Heap} {d : Nat} : ∀ (ts : List Nat) (l : List Value), ts.length = l.length → ownL (ownT ti tp H (d + 1)) ts (l.map AV.sc) = some (l.map AV.sc, [])
 | [], [], _ => rfl
 | t :: ts, v :: l, h => by
  have ih := ownL_scE (ti := ti) (tp := tp) (H := H) (d := d) ts l (by simpa using h)
  simp only [List.map_cons, ownL, ih, Option.bind_some]
  rfl
theorem own_sl0 {ti : Nat → Option TI} {tp : Nat → Option (List Nat)} {H : Heap} {d ty id off n z : Nat} : ownT ti tp H (d + 1) ty (.sl id off n z) = (ti ty).bind fun i => (ti i.elem).bind fun j => if z = j.size then (if isApp H id then (rdCells H id off (n * z)).bind fun cs => (ownL (ownT ti tp H d) (List.replicate n j.cty).flatten cs).bind fun q => some (.ro n q.1, id :: q.2) else none) else none := rfl
theorem ext_strs (w : World) (l : List ByteArray) (e : TypeId) : ∃ φ' Hc x ids, HR w φ' (w.alloc (.cells (l.map Value.string).toArray e)) Hc ∧ VR w φ' x (.slice (some ⟨w.heap.size, 0, none⟩) l.length l.length) ∧
  ownT E0.ti E0.tp Hc 8 73 x = some (.ro l.length (l.map fun s => .sc (.string s)), ids) ∧ ids.Nodup := by
 have hcs : VRs w noPhi ((l.map Value.string).map AV.sc) (fun j => (l.map Value.string).toArray[0 + j]?) := by
  rw [VRs_iff]
  intro j x hj
  rw [List.getElem?_map] at hj
  obtain ⟨v, hv, rfl⟩ := Option.map_eq_some_iff.1 hj
  exact ⟨v, by simpa using hv, VR_sc _ _ _⟩
 obtain ⟨h1, h2⟩ := (HR.start w).alloc (below_alloc' w (.cells (l.map Value.string).toArray e)) (b := w.heap.size) (o := 0) (k := ⟨(l.map Value.string).map AV.sc, true, true⟩) (Nat.le_refl _) (alloc_new w _) (by simp) (fun _ => rfl) (.inl rfl) hcs
 refine ⟨_, _, .sl 0 0 l.length 1, [0], h1, ?_, ?_, by simp⟩
 ·rw [VR]
  refine .inr ⟨w.heap.size, 0, _, upd_at _ _ _, .inr ⟨l.length, Nat.le_refl _, rfl, ?_⟩⟩
  simp
 ·rw [own_sl0]
  have hr : rdCells ([] ++ [⟨(l.map Value.string).map AV.sc, true, true⟩]) 0 0 (l.length * 1) = some ((l.map Value.string).map AV.sc) := by
   simp [rdCells, List.take_of_length_le]
  have e1 : E0.ti 73 = ti0 73 := rfl
  obtain ⟨i, j, hi, hj, hz, hc⟩ : ∃ i j, ti0 73 = some i ∧ ti0 i.elem = some j ∧ j.size = 1 ∧ j.cty = [i.elem] := ⟨_, _, rfl, rfl, rfl, rfl⟩
  simp only [e1, hi, Option.bind_some, show E0.ti i.elem = some j from hj, hz, if_true, hr, hc]
  have ho := ownL_scE (ti := E0.ti) (tp := E0.tp) (H := [] ++ [⟨(l.map Value.string).map AV.sc, true, true⟩]) (d := 6) (List.replicate l.length [i.elem]).flatten (l.map Value.string) (by simp)
  rw [ho]
  have ha : isApp ([] ++ [(⟨(l.map Value.string).map AV.sc, true, true⟩ : Blk)]) 0 = true := rfl
  rw [if_pos ha]
  simp [List.map_map]
theorem any_walk (s : ByteArray) (w : World) (hs : s.size < 4294967281) : Calls Tryz.prog 188 #[.string s, .string phB] w fun e w' => e = .returned (.bool (vPH s)) ∧ Below w.heap.size w w' :=
 contains_ph Tryz.laysAny (zero_of_info set116).1 (zero_of_info set116).2 s w hs
theorem split_walk (s : ByteArray) (w : World) (hs : s.size < 4294967281) (hm : ∃ m, w.cell? ⟨Tryz.laysSplit_ren.g 1, 0, none⟩ = some (.int .i64 m)) : Calls Tryz.prog 202 #[.string s, .string sepB] w fun e w' =>
  e = .returned (.slice (some ⟨w.heap.size, 0, none⟩) (vLevels s).length (vLevels s).length) ∧ w' = w.alloc (.cells ((vLevels s).map Value.string).toArray (Tryz.laysSplit_ren.t 9)) := by
 obtain ⟨m, hm⟩ := hm
 have h := Any.strings_Split Tryz.laysSplit hi9 s sepB m w hs hm (Nat.le_refl _)
 rw [split_levels, ← levels_len] at h
 exact h
theorem one_arg {w : World} {x : Value} {us : List Value} (hl : us.length = 1) (hv : VRs w noPhi [.sc x] (fun j => us[j]?)) : us = [x] := by
 match us, hl with
 | [y], _ =>
  rw [VRs] at hv
  obtain ⟨⟨u, hu, hv⟩, _⟩ := hv
  rw [VR] at hv
  simp at hu
  rw [hu, hv]
theorem two_args {w : World} {x y : Value} {us : List Value} (hl : us.length = 2) (hv : VRs w noPhi [.sc x, .sc y] (fun j => us[j]?)) : us = [x, y] := by
 match us, hl with
 | [a, b], _ =>
  rw [VRs, VRs] at hv
  obtain ⟨⟨u, hu, hv⟩, ⟨u2, hu2, hv2⟩, _⟩ := hv
  rw [VR] at hv hv2
  simp at hu hu2
  rw [hu, hv, hu2, hv2]
theorem ext0 : ExtOk Tryz.prog E0 J0 := by
 intro f g hg w hj ty vs us t hl hv ht
 have hf : E0.ext f = if Nat.beq f 136 then some ext136 else if Nat.beq f 188 then some ext188 else if Nat.beq f 202 then some ext202 else none := rfl
 rw [hf] at hg
 split at hg
 ·rename_i hfe
  obtain rfl := Nat.eq_of_beq_eq_true hfe
  cases hg
  unfold ext136 at ht
  split at ht
  case h_2 => cases ht
  rename_i s
  split at ht
  case isFalse => cases ht
  rename_i hs
  cases ht
  have hm : maxLen = 9223372036854775807 := by decide
  rw [hm] at hs
  obtain rfl := one_arg hl hv
  refine .inr ⟨enters_of Tryz.func136 (by kernel_rfl) rfl _ _, (text_walk s w hs hj.1).mono fun e w' ⟨he, hb⟩ => ⟨_, he, ?_⟩⟩
  rw [clean_eq]
  exact ext_val hb _ _
 split at hg
 ·rename_i hfe
  obtain rfl := Nat.eq_of_beq_eq_true hfe
  cases hg
  unfold ext188 at ht
  split at ht
  case h_2 => cases ht
  rename_i s c
  split at ht
  case isFalse => cases ht
  rename_i hs
  cases ht
  obtain rfl := two_args hl hv
  obtain ⟨hc, hs⟩ := hs
  obtain rfl := ph_of hc
  exact .inr ⟨enters_of Tryz.func188 (by kernel_rfl) rfl _ _, (any_walk s w hs).mono fun e w' ⟨he, hb⟩ => ⟨_, he, ext_val hb _ _⟩⟩
 split at hg
 ·rename_i hfe
  obtain rfl := Nat.eq_of_beq_eq_true hfe
  cases hg
  unfold ext202 at ht
  split at ht
  case h_2 => cases ht
  rename_i s c
  split at ht
  case isFalse => cases ht
  rename_i hs
  cases ht
  obtain rfl := two_args hl hv
  obtain ⟨rfl, hc, hs⟩ := hs
  obtain rfl := sep_of hc
  exact .inr ⟨enters_of Tryz.func202 (by kernel_rfl) rfl _ _, (split_walk s w hs hj.2).mono fun e w' ⟨he, hw⟩ => ⟨_, he, by subst hw; exact ext_strs w (vLevels s) _⟩⟩
 ·cases hg
end YtdameggfgnpehaaGreatDoor.Abs
end Go.Proofs
set_option linter.unusedVariables false
set_option linter.unusedSimpArgs false
set_option maxRecDepth 100000
namespace Go.Proofs.YtdameggfgnpehaaGreatDoor.Abs
open Go
theorem tab0 : tabB Go.Proofs.Tryz.prog 0 tis = true := by kernel_rfl
theorem code0 : fnsB E0 fss = true := by kernel_rfl
theorem tabOk0 : TabOk Go.Proofs.Tryz.prog ti0 := by
 intro t i h
 unfold ti0 at h
 cases hl : tis[t]? with
 | none => rw [hl] at h; cases h
 | some o =>
  rw [hl] at h
  simp only [Option.getD_some] at h
  subst h
  simpa using (tabB_ok tis 0 t i tab0 hl).1
theorem byte0 : ∀ t i, ti0 t = some i → i.ik = some .u8 → i.size = 1 := by
 intro t i h
 unfold ti0 at h
 cases hl : tis[t]? with
 | none => rw [hl] at h; cases h
 | some o =>
  rw [hl] at h
  simp only [Option.getD_some] at h
  subst h
  exact (tabB_ok tis 0 t i tab0 hl).2
def FnQ (n : Nat) (c : Code) (t : Nat) (f : Func) : Prop := ∃ fn, Go.Proofs.Tryz.prog.funcs[n]? = some fn ∧ (fn.name == "runtime.NumGoroutine") = false ∧ fn.body = some c ∧ fn.ntmps = t ∧ fn.results.toList = f.results.toList
theorem fn67 : FnQ 67 c67 12 Go.Proofs.Tryz.f67 := ⟨_, Go.Proofs.Tryz.func67, by kernel_rfl, by kernel_rfl, rfl, rfl⟩
theorem fn20 : FnQ 20 c20 19 Go.Proofs.Tryz.f20 := ⟨_, Go.Proofs.Tryz.func20, by kernel_rfl, by kernel_rfl, rfl, rfl⟩
theorem fn145 : FnQ 145 c145 12 Go.Proofs.Tryz.f145 := ⟨_, Go.Proofs.Tryz.func145, by kernel_rfl, by kernel_rfl, rfl, rfl⟩
theorem fn86 : FnQ 86 c86 27 Go.Proofs.Tryz.f86 := ⟨_, Go.Proofs.Tryz.func86, by kernel_rfl, by kernel_rfl, rfl, rfl⟩
theorem fn87 : FnQ 87 c87 27 Go.Proofs.Tryz.f87 := ⟨_, Go.Proofs.Tryz.func87, by kernel_rfl, by kernel_rfl, rfl, rfl⟩
theorem fn35 : FnQ 35 c35 18 Go.Proofs.Tryz.f35 := ⟨_, Go.Proofs.Tryz.func35, by kernel_rfl, by kernel_rfl, rfl, rfl⟩
theorem fn59 : FnQ 59 c59 12 Go.Proofs.Tryz.f59 := ⟨_, Go.Proofs.Tryz.func59, by kernel_rfl, by kernel_rfl, rfl, rfl⟩
theorem fn11 : FnQ 11 c11 25 Go.Proofs.Tryz.f11 := ⟨_, Go.Proofs.Tryz.func11, by kernel_rfl, by kernel_rfl, rfl, rfl⟩
theorem fn69 : FnQ 69 c69 22 Go.Proofs.Tryz.f69 := ⟨_, Go.Proofs.Tryz.func69, by kernel_rfl, by kernel_rfl, rfl, rfl⟩
theorem fn22 : FnQ 22 c22 18 Go.Proofs.Tryz.f22 := ⟨_, Go.Proofs.Tryz.func22, by kernel_rfl, by kernel_rfl, rfl, rfl⟩
theorem fn147 : FnQ 147 c147 15 Go.Proofs.Tryz.f147 := ⟨_, Go.Proofs.Tryz.func147, by kernel_rfl, by kernel_rfl, rfl, rfl⟩
theorem fn90 : FnQ 90 c90 23 Go.Proofs.Tryz.f90 := ⟨_, Go.Proofs.Tryz.func90, by kernel_rfl, by kernel_rfl, rfl, rfl⟩
theorem fn91 : FnQ 91 c91 23 Go.Proofs.Tryz.f91 := ⟨_, Go.Proofs.Tryz.func91, by kernel_rfl, by kernel_rfl, rfl, rfl⟩
theorem fn37 : FnQ 37 c37 16 Go.Proofs.Tryz.f37 := ⟨_, Go.Proofs.Tryz.func37, by kernel_rfl, by kernel_rfl, rfl, rfl⟩
theorem fn61 : FnQ 61 c61 22 Go.Proofs.Tryz.f61 := ⟨_, Go.Proofs.Tryz.func61, by kernel_rfl, by kernel_rfl, rfl, rfl⟩
theorem fn13 : FnQ 13 c13 28 Go.Proofs.Tryz.f13 := ⟨_, Go.Proofs.Tryz.func13, by kernel_rfl, by kernel_rfl, rfl, rfl⟩
theorem fn152 : FnQ 152 c152 14 Go.Proofs.Tryz.f152 := ⟨_, Go.Proofs.Tryz.func152, by kernel_rfl, by kernel_rfl, rfl, rfl⟩
theorem fn151 : FnQ 151 c151 21 Go.Proofs.Tryz.f151 := ⟨_, Go.Proofs.Tryz.func151, by kernel_rfl, by kernel_rfl, rfl, rfl⟩
theorem fn104 : FnQ 104 c104 44 Go.Proofs.Tryz.f104 := ⟨_, Go.Proofs.Tryz.func104, by kernel_rfl, by kernel_rfl, rfl, rfl⟩
theorem fn60 : FnQ 60 c60 15 Go.Proofs.Tryz.f60 := ⟨_, Go.Proofs.Tryz.func60, by kernel_rfl, by kernel_rfl, rfl, rfl⟩
theorem fn83 : FnQ 83 c83 15 Go.Proofs.Tryz.f83 := ⟨_, Go.Proofs.Tryz.func83, by kernel_rfl, by kernel_rfl, rfl, rfl⟩
theorem fn172 : FnQ 172 c172 104 Go.Proofs.Tryz.f172 := ⟨_, Go.Proofs.Tryz.func172, by kernel_rfl, by kernel_rfl, rfl, rfl⟩
theorem fn141 : FnQ 141 c141 35 Go.Proofs.Tryz.f141 := ⟨_, Go.Proofs.Tryz.func141, by kernel_rfl, by kernel_rfl, rfl, rfl⟩
theorem fn82 : FnQ 82 c82 6 Go.Proofs.Tryz.f82 := ⟨_, Go.Proofs.Tryz.func82, by kernel_rfl, by kernel_rfl, rfl, rfl⟩
theorem fn190 : FnQ 190 c190 17 Go.Proofs.Tryz.f190 := ⟨_, Go.Proofs.Tryz.func190, by kernel_rfl, by kernel_rfl, rfl, rfl⟩
theorem fn191 : FnQ 191 c191 33 Go.Proofs.Tryz.f191 := ⟨_, Go.Proofs.Tryz.func191, by kernel_rfl, by kernel_rfl, rfl, rfl⟩
theorem fn173 : FnQ 173 c173 25 Go.Proofs.Tryz.f173 := ⟨_, Go.Proofs.Tryz.func173, by kernel_rfl, by kernel_rfl, rfl, rfl⟩
theorem fn142 : FnQ 142 c142 17 Go.Proofs.Tryz.f142 := ⟨_, Go.Proofs.Tryz.func142, by kernel_rfl, by kernel_rfl, rfl, rfl⟩
theorem fn143 : FnQ 143 c143 24 Go.Proofs.Tryz.f143 := ⟨_, Go.Proofs.Tryz.func143, by kernel_rfl, by kernel_rfl, rfl, rfl⟩
theorem fn144 : FnQ 144 c144 19 Go.Proofs.Tryz.f144 := ⟨_, Go.Proofs.Tryz.func144, by kernel_rfl, by kernel_rfl, rfl, rfl⟩
theorem fn84 : FnQ 84 c84 71 Go.Proofs.Tryz.f84 := ⟨_, Go.Proofs.Tryz.func84, by kernel_rfl, by kernel_rfl, rfl, rfl⟩
theorem fn85 : FnQ 85 c85 35 Go.Proofs.Tryz.f85 := ⟨_, Go.Proofs.Tryz.func85, by kernel_rfl, by kernel_rfl, rfl, rfl⟩
theorem fn31 : FnQ 31 c31 48 Go.Proofs.Tryz.f31 := ⟨_, Go.Proofs.Tryz.func31, by kernel_rfl, by kernel_rfl, rfl, rfl⟩
theorem fn12 : FnQ 12 c12 16 Go.Proofs.Tryz.f12 := ⟨_, Go.Proofs.Tryz.func12, by kernel_rfl, by kernel_rfl, rfl, rfl⟩
theorem fn149 : FnQ 149 c149 18 Go.Proofs.Tryz.f149 := ⟨_, Go.Proofs.Tryz.func149, by kernel_rfl, by kernel_rfl, rfl, rfl⟩
theorem fn155 : FnQ 155 c155 9 Go.Proofs.Tryz.f155 := ⟨_, Go.Proofs.Tryz.func155, by kernel_rfl, by kernel_rfl, rfl, rfl⟩
theorem fn154 : FnQ 154 c154 20 Go.Proofs.Tryz.f154 := ⟨_, Go.Proofs.Tryz.func154, by kernel_rfl, by kernel_rfl, rfl, rfl⟩
theorem fn108 : FnQ 108 c108 34 Go.Proofs.Tryz.f108 := ⟨_, Go.Proofs.Tryz.func108, by kernel_rfl, by kernel_rfl, rfl, rfl⟩
theorem fn127 : FnQ 127 c127 6 Go.Proofs.Tryz.f127 := ⟨_, Go.Proofs.Tryz.func127, by kernel_rfl, by kernel_rfl, rfl, rfl⟩
theorem fn62 : FnQ 62 c62 12 Go.Proofs.Tryz.f62 := ⟨_, Go.Proofs.Tryz.func62, by kernel_rfl, by kernel_rfl, rfl, rfl⟩
theorem fn79 : FnQ 79 c79 9 Go.Proofs.Tryz.f79 := ⟨_, Go.Proofs.Tryz.func79, by kernel_rfl, by kernel_rfl, rfl, rfl⟩
theorem fn128 : FnQ 128 c128 15 Go.Proofs.Tryz.f128 := ⟨_, Go.Proofs.Tryz.func128, by kernel_rfl, by kernel_rfl, rfl, rfl⟩
theorem fn66 : FnQ 66 c66 21 Go.Proofs.Tryz.f66 := ⟨_, Go.Proofs.Tryz.func66, by kernel_rfl, by kernel_rfl, rfl, rfl⟩
theorem fn137 : FnQ 137 c137 5 Go.Proofs.Tryz.f137 := ⟨_, Go.Proofs.Tryz.func137, by kernel_rfl, by kernel_rfl, rfl, rfl⟩
theorem fn158 : FnQ 158 c158 8 Go.Proofs.Tryz.f158 := ⟨_, Go.Proofs.Tryz.func158, by kernel_rfl, by kernel_rfl, rfl, rfl⟩
theorem fn157 : FnQ 157 c157 19 Go.Proofs.Tryz.f157 := ⟨_, Go.Proofs.Tryz.func157, by kernel_rfl, by kernel_rfl, rfl, rfl⟩
theorem fn116 : FnQ 116 c116 8 Go.Proofs.Tryz.f116 := ⟨_, Go.Proofs.Tryz.func116, by kernel_rfl, by kernel_rfl, rfl, rfl⟩
theorem fn189 : FnQ 189 c189 5 Go.Proofs.Tryz.f189 := ⟨_, Go.Proofs.Tryz.func189, by kernel_rfl, by kernel_rfl, rfl, rfl⟩
theorem fn169 : FnQ 169 c169 20 Go.Proofs.Tryz.f169 := ⟨_, Go.Proofs.Tryz.func169, by kernel_rfl, by kernel_rfl, rfl, rfl⟩
theorem fn170 : FnQ 170 c170 5 Go.Proofs.Tryz.f170 := ⟨_, Go.Proofs.Tryz.func170, by kernel_rfl, by kernel_rfl, rfl, rfl⟩
theorem fn138 : FnQ 138 c138 17 Go.Proofs.Tryz.f138 := ⟨_, Go.Proofs.Tryz.func138, by kernel_rfl, by kernel_rfl, rfl, rfl⟩
theorem fn139 : FnQ 139 c139 5 Go.Proofs.Tryz.f139 := ⟨_, Go.Proofs.Tryz.func139, by kernel_rfl, by kernel_rfl, rfl, rfl⟩
theorem fn171 : FnQ 171 c171 15 Go.Proofs.Tryz.f171 := ⟨_, Go.Proofs.Tryz.func171, by kernel_rfl, by kernel_rfl, rfl, rfl⟩
theorem fn140 : FnQ 140 c140 10 Go.Proofs.Tryz.f140 := ⟨_, Go.Proofs.Tryz.func140, by kernel_rfl, by kernel_rfl, rfl, rfl⟩
theorem fn80 : FnQ 80 c80 67 Go.Proofs.Tryz.f80 := ⟨_, Go.Proofs.Tryz.func80, by kernel_rfl, by kernel_rfl, rfl, rfl⟩
theorem fn81 : FnQ 81 c81 32 Go.Proofs.Tryz.f81 := ⟨_, Go.Proofs.Tryz.func81, by kernel_rfl, by kernel_rfl, rfl, rfl⟩
theorem fn30 : FnQ 30 c30 30 Go.Proofs.Tryz.f30 := ⟨_, Go.Proofs.Tryz.func30, by kernel_rfl, by kernel_rfl, rfl, rfl⟩
theorem fn14 : FnQ 14 c14 16 Go.Proofs.Tryz.f14 := ⟨_, Go.Proofs.Tryz.func14, by kernel_rfl, by kernel_rfl, rfl, rfl⟩
theorem fn71 : FnQ 71 c71 26 Go.Proofs.Tryz.f71 := ⟨_, Go.Proofs.Tryz.func71, by kernel_rfl, by kernel_rfl, rfl, rfl⟩
theorem fn24 : FnQ 24 c24 26 Go.Proofs.Tryz.f24 := ⟨_, Go.Proofs.Tryz.func24, by kernel_rfl, by kernel_rfl, rfl, rfl⟩
theorem fn150 : FnQ 150 c150 21 Go.Proofs.Tryz.f150 := ⟨_, Go.Proofs.Tryz.func150, by kernel_rfl, by kernel_rfl, rfl, rfl⟩
theorem fn94 : FnQ 94 c94 27 Go.Proofs.Tryz.f94 := ⟨_, Go.Proofs.Tryz.func94, by kernel_rfl, by kernel_rfl, rfl, rfl⟩
theorem fn95 : FnQ 95 c95 27 Go.Proofs.Tryz.f95 := ⟨_, Go.Proofs.Tryz.func95, by kernel_rfl, by kernel_rfl, rfl, rfl⟩
theorem fn40 : FnQ 40 c40 22 Go.Proofs.Tryz.f40 := ⟨_, Go.Proofs.Tryz.func40, by kernel_rfl, by kernel_rfl, rfl, rfl⟩
theorem fn63 : FnQ 63 c63 26 Go.Proofs.Tryz.f63 := ⟨_, Go.Proofs.Tryz.func63, by kernel_rfl, by kernel_rfl, rfl, rfl⟩
theorem fn15 : FnQ 15 c15 42 Go.Proofs.Tryz.f15 := ⟨_, Go.Proofs.Tryz.func15, by kernel_rfl, by kernel_rfl, rfl, rfl⟩
theorem fn98 : FnQ 98 c98 20 Go.Proofs.Tryz.f98 := ⟨_, Go.Proofs.Tryz.func98, by kernel_rfl, by kernel_rfl, rfl, rfl⟩
theorem fn72 : FnQ 72 c72 20 Go.Proofs.Tryz.f72 := ⟨_, Go.Proofs.Tryz.func72, by kernel_rfl, by kernel_rfl, rfl, rfl⟩
theorem fn96 : FnQ 96 c96 62 Go.Proofs.Tryz.f96 := ⟨_, Go.Proofs.Tryz.func96, by kernel_rfl, by kernel_rfl, rfl, rfl⟩
theorem fn97 : FnQ 97 c97 44 Go.Proofs.Tryz.f97 := ⟨_, Go.Proofs.Tryz.func97, by kernel_rfl, by kernel_rfl, rfl, rfl⟩
theorem fn41 : FnQ 41 c41 14 Go.Proofs.Tryz.f41 := ⟨_, Go.Proofs.Tryz.func41, by kernel_rfl, by kernel_rfl, rfl, rfl⟩
theorem fn64 : FnQ 64 c64 19 Go.Proofs.Tryz.f64 := ⟨_, Go.Proofs.Tryz.func64, by kernel_rfl, by kernel_rfl, rfl, rfl⟩
theorem fn16 : FnQ 16 c16 14 Go.Proofs.Tryz.f16 := ⟨_, Go.Proofs.Tryz.func16, by kernel_rfl, by kernel_rfl, rfl, rfl⟩
theorem fn101 : FnQ 101 c101 22 Go.Proofs.Tryz.f101 := ⟨_, Go.Proofs.Tryz.func101, by kernel_rfl, by kernel_rfl, rfl, rfl⟩
theorem fn114 : FnQ 114 c114 74 Go.Proofs.Tryz.f114 := ⟨_, Go.Proofs.Tryz.func114, by kernel_rfl, by kernel_rfl, rfl, rfl⟩
theorem fn115 : FnQ 115 c115 52 Go.Proofs.Tryz.f115 := ⟨_, Go.Proofs.Tryz.func115, by kernel_rfl, by kernel_rfl, rfl, rfl⟩
theorem fn48 : FnQ 48 c48 18 Go.Proofs.Tryz.f48 := ⟨_, Go.Proofs.Tryz.func48, by kernel_rfl, by kernel_rfl, rfl, rfl⟩
theorem fn65 : FnQ 65 c65 21 Go.Proofs.Tryz.f65 := ⟨_, Go.Proofs.Tryz.func65, by kernel_rfl, by kernel_rfl, rfl, rfl⟩
theorem fn17 : FnQ 17 c17 18 Go.Proofs.Tryz.f17 := ⟨_, Go.Proofs.Tryz.func17, by kernel_rfl, by kernel_rfl, rfl, rfl⟩
theorem fn3 : FnQ 3 c3 69 Go.Proofs.Tryz.f3 := ⟨_, Go.Proofs.Tryz.func3, by kernel_rfl, by kernel_rfl, rfl, rfl⟩
theorem fn18 : FnQ 18 c18 29 Go.Proofs.Tryz.f18 := ⟨_, Go.Proofs.Tryz.func18, by kernel_rfl, by kernel_rfl, rfl, rfl⟩
theorem fn19 : FnQ 19 c19 27 Go.Proofs.Tryz.f19 := ⟨_, Go.Proofs.Tryz.func19, by kernel_rfl, by kernel_rfl, rfl, rfl⟩
theorem fn4 : FnQ 4 c4 84 Go.Proofs.Tryz.f4 := ⟨_, Go.Proofs.Tryz.func4, by kernel_rfl, by kernel_rfl, rfl, rfl⟩
theorem fn129 : FnQ 129 c129 31 Go.Proofs.Tryz.f129 := ⟨_, Go.Proofs.Tryz.func129, by kernel_rfl, by kernel_rfl, rfl, rfl⟩
theorem fn68 : FnQ 68 c68 26 Go.Proofs.Tryz.f68 := ⟨_, Go.Proofs.Tryz.func68, by kernel_rfl, by kernel_rfl, rfl, rfl⟩
theorem fn21 : FnQ 21 c21 41 Go.Proofs.Tryz.f21 := ⟨_, Go.Proofs.Tryz.func21, by kernel_rfl, by kernel_rfl, rfl, rfl⟩
theorem fn130 : FnQ 130 c130 34 Go.Proofs.Tryz.f130 := ⟨_, Go.Proofs.Tryz.func130, by kernel_rfl, by kernel_rfl, rfl, rfl⟩
theorem fn70 : FnQ 70 c70 26 Go.Proofs.Tryz.f70 := ⟨_, Go.Proofs.Tryz.func70, by kernel_rfl, by kernel_rfl, rfl, rfl⟩
theorem fn23 : FnQ 23 c23 41 Go.Proofs.Tryz.f23 := ⟨_, Go.Proofs.Tryz.func23, by kernel_rfl, by kernel_rfl, rfl, rfl⟩
theorem fn25 : FnQ 25 c25 10 Go.Proofs.Tryz.f25 := ⟨_, Go.Proofs.Tryz.func25, by kernel_rfl, by kernel_rfl, rfl, rfl⟩
theorem fn5 : FnQ 5 c5 124 Go.Proofs.Tryz.f5 := ⟨_, Go.Proofs.Tryz.func5, by kernel_rfl, by kernel_rfl, rfl, rfl⟩
theorem fnC {c : Code} {t : Nat} {f : Func} {o : List (Nat × PI)} {i : FnI} (e : (⟨c, t, f.results.toList, o⟩ : FnI) = i) {n : Nat} (h : FnQ n c t f) : ∃ fn, Go.Proofs.Tryz.prog.funcs[n]? = some fn ∧ (fn.name == "runtime.NumGoroutine") = false ∧ fn.body = some i.body ∧ fn.ntmps = i.ntmps ∧ fn.results.toList = i.results := by subst e; exact h
theorem fnAll : ∀ (f : Nat) (i : FnI), f < 192 → fss[f]? = some (some i) → ∃ fn, Go.Proofs.Tryz.prog.funcs[f]? = some fn ∧ (fn.name == "runtime.NumGoroutine") = false ∧ fn.body = some i.body ∧ fn.ntmps = i.ntmps ∧ fn.results.toList = i.results
 | 0, i, _, h => nomatch Option.some.inj h
 | 1, i, _, h => nomatch Option.some.inj h
 | 2, i, _, h => nomatch Option.some.inj h
 | 3, i, _, h => fnC (Option.some.inj (Option.some.inj h)) fn3
 | 4, i, _, h => fnC (Option.some.inj (Option.some.inj h)) fn4
 | 5, i, _, h => fnC (Option.some.inj (Option.some.inj h)) fn5
 | 6, i, _, h => nomatch Option.some.inj h
 | 7, i, _, h => nomatch Option.some.inj h
 | 8, i, _, h => nomatch Option.some.inj h
 | 9, i, _, h => nomatch Option.some.inj h
 | 10, i, _, h => nomatch Option.some.inj h
 | 11, i, _, h => fnC (Option.some.inj (Option.some.inj h)) fn11
 | 12, i, _, h => fnC (Option.some.inj (Option.some.inj h)) fn12
 | 13, i, _, h => fnC (Option.some.inj (Option.some.inj h)) fn13
 | 14, i, _, h => fnC (Option.some.inj (Option.some.inj h)) fn14
 | 15, i, _, h => fnC (Option.some.inj (Option.some.inj h)) fn15
 | 16, i, _, h => fnC (Option.some.inj (Option.some.inj h)) fn16
 | 17, i, _, h => fnC (Option.some.inj (Option.some.inj h)) fn17
 | 18, i, _, h => fnC (Option.some.inj (Option.some.inj h)) fn18
 | 19, i, _, h => fnC (Option.some.inj (Option.some.inj h)) fn19
 | 20, i, _, h => fnC (Option.some.inj (Option.some.inj h)) fn20
 | 21, i, _, h => fnC (Option.some.inj (Option.some.inj h)) fn21
 | 22, i, _, h => fnC (Option.some.inj (Option.some.inj h)) fn22
 | 23, i, _, h => fnC (Option.some.inj (Option.some.inj h)) fn23
 | 24, i, _, h => fnC (Option.some.inj (Option.some.inj h)) fn24
 | 25, i, _, h => fnC (Option.some.inj (Option.some.inj h)) fn25
 | 26, i, _, h => nomatch Option.some.inj h
 | 27, i, _, h => nomatch Option.some.inj h
 | 28, i, _, h => nomatch Option.some.inj h
 | 29, i, _, h => nomatch Option.some.inj h
 | 30, i, _, h => fnC (Option.some.inj (Option.some.inj h)) fn30
 | 31, i, _, h => fnC (Option.some.inj (Option.some.inj h)) fn31
 | 32, i, _, h => nomatch Option.some.inj h
 | 33, i, _, h => nomatch Option.some.inj h
 | 34, i, _, h => nomatch Option.some.inj h
 | 35, i, _, h => fnC (Option.some.inj (Option.some.inj h)) fn35
 | 36, i, _, h => nomatch Option.some.inj h
 | 37, i, _, h => fnC (Option.some.inj (Option.some.inj h)) fn37
 | 38, i, _, h => nomatch Option.some.inj h
 | 39, i, _, h => nomatch Option.some.inj h
 | 40, i, _, h => fnC (Option.some.inj (Option.some.inj h)) fn40
 | 41, i, _, h => fnC (Option.some.inj (Option.some.inj h)) fn41
 | 42, i, _, h => nomatch Option.some.inj h
 | 43, i, _, h => nomatch Option.some.inj h
 | 44, i, _, h => nomatch Option.some.inj h
 | 45, i, _, h => nomatch Option.some.inj h
 | 46, i, _, h => nomatch Option.some.inj h
 | 47, i, _, h => nomatch Option.some.inj h
 | 48, i, _, h => fnC (Option.some.inj (Option.some.inj h)) fn48
 | 49, i, _, h => nomatch Option.some.inj h
 | 50, i, _, h => nomatch Option.some.inj h
 | 51, i, _, h => nomatch Option.some.inj h
 | 52, i, _, h => nomatch Option.some.inj h
 | 53, i, _, h => nomatch Option.some.inj h
 | 54, i, _, h => nomatch Option.some.inj h
 | 55, i, _, h => nomatch Option.some.inj h
 | 56, i, _, h => nomatch Option.some.inj h
 | 57, i, _, h => nomatch Option.some.inj h
 | 58, i, _, h => nomatch Option.some.inj h
 | 59, i, _, h => fnC (Option.some.inj (Option.some.inj h)) fn59
 | 60, i, _, h => fnC (Option.some.inj (Option.some.inj h)) fn60
 | 61, i, _, h => fnC (Option.some.inj (Option.some.inj h)) fn61
 | 62, i, _, h => fnC (Option.some.inj (Option.some.inj h)) fn62
 | 63, i, _, h => fnC (Option.some.inj (Option.some.inj h)) fn63
 | 64, i, _, h => fnC (Option.some.inj (Option.some.inj h)) fn64
 | 65, i, _, h => fnC (Option.some.inj (Option.some.inj h)) fn65
 | 66, i, _, h => fnC (Option.some.inj (Option.some.inj h)) fn66
 | 67, i, _, h => fnC (Option.some.inj (Option.some.inj h)) fn67
 | 68, i, _, h => fnC (Option.some.inj (Option.some.inj h)) fn68
 | 69, i, _, h => fnC (Option.some.inj (Option.some.inj h)) fn69
 | 70, i, _, h => fnC (Option.some.inj (Option.some.inj h)) fn70
 | 71, i, _, h => fnC (Option.some.inj (Option.some.inj h)) fn71
 | 72, i, _, h => fnC (Option.some.inj (Option.some.inj h)) fn72
 | 73, i, _, h => nomatch Option.some.inj h
 | 74, i, _, h => nomatch Option.some.inj h
 | 75, i, _, h => nomatch Option.some.inj h
 | 76, i, _, h => nomatch Option.some.inj h
 | 77, i, _, h => nomatch Option.some.inj h
 | 78, i, _, h => nomatch Option.some.inj h
 | 79, i, _, h => fnC (Option.some.inj (Option.some.inj h)) fn79
 | 80, i, _, h => fnC (Option.some.inj (Option.some.inj h)) fn80
 | 81, i, _, h => fnC (Option.some.inj (Option.some.inj h)) fn81
 | 82, i, _, h => fnC (Option.some.inj (Option.some.inj h)) fn82
 | 83, i, _, h => fnC (Option.some.inj (Option.some.inj h)) fn83
 | 84, i, _, h => fnC (Option.some.inj (Option.some.inj h)) fn84
 | 85, i, _, h => fnC (Option.some.inj (Option.some.inj h)) fn85
 | 86, i, _, h => fnC (Option.some.inj (Option.some.inj h)) fn86
 | 87, i, _, h => fnC (Option.some.inj (Option.some.inj h)) fn87
 | 88, i, _, h => nomatch Option.some.inj h
 | 89, i, _, h => nomatch Option.some.inj h
 | 90, i, _, h => fnC (Option.some.inj (Option.some.inj h)) fn90
 | 91, i, _, h => fnC (Option.some.inj (Option.some.inj h)) fn91
 | 92, i, _, h => nomatch Option.some.inj h
 | 93, i, _, h => nomatch Option.some.inj h
 | 94, i, _, h => fnC (Option.some.inj (Option.some.inj h)) fn94
 | 95, i, _, h => fnC (Option.some.inj (Option.some.inj h)) fn95
 | 96, i, _, h => fnC (Option.some.inj (Option.some.inj h)) fn96
 | 97, i, _, h => fnC (Option.some.inj (Option.some.inj h)) fn97
 | 98, i, _, h => fnC (Option.some.inj (Option.some.inj h)) fn98
 | 99, i, _, h => nomatch Option.some.inj h
 | 100, i, _, h => nomatch Option.some.inj h
 | 101, i, _, h => fnC (Option.some.inj (Option.some.inj h)) fn101
 | 102, i, _, h => nomatch Option.some.inj h
 | 103, i, _, h => nomatch Option.some.inj h
 | 104, i, _, h => fnC (Option.some.inj (Option.some.inj h)) fn104
 | 105, i, _, h => nomatch Option.some.inj h
 | 106, i, _, h => nomatch Option.some.inj h
 | 107, i, _, h => nomatch Option.some.inj h
 | 108, i, _, h => fnC (Option.some.inj (Option.some.inj h)) fn108
 | 109, i, _, h => nomatch Option.some.inj h
 | 110, i, _, h => nomatch Option.some.inj h
 | 111, i, _, h => nomatch Option.some.inj h
 | 112, i, _, h => nomatch Option.some.inj h
 | 113, i, _, h => nomatch Option.some.inj h
 | 114, i, _, h => fnC (Option.some.inj (Option.some.inj h)) fn114
 | 115, i, _, h => fnC (Option.some.inj (Option.some.inj h)) fn115
 | 116, i, _, h => fnC (Option.some.inj (Option.some.inj h)) fn116
 | 117, i, _, h => nomatch Option.some.inj h
 | 118, i, _, h => nomatch Option.some.inj h
 | 119, i, _, h => nomatch Option.some.inj h
 | 120, i, _, h => nomatch Option.some.inj h
 | 121, i, _, h => nomatch Option.some.inj h
 | 122, i, _, h => nomatch Option.some.inj h
 | 123, i, _, h => nomatch Option.some.inj h
 | 124, i, _, h => nomatch Option.some.inj h
 | 125, i, _, h => nomatch Option.some.inj h
 | 126, i, _, h => nomatch Option.some.inj h
 | 127, i, _, h => fnC (Option.some.inj (Option.some.inj h)) fn127
 | 128, i, _, h => fnC (Option.some.inj (Option.some.inj h)) fn128
 | 129, i, _, h => fnC (Option.some.inj (Option.some.inj h)) fn129
 | 130, i, _, h => fnC (Option.some.inj (Option.some.inj h)) fn130
 | 131, i, _, h => nomatch Option.some.inj h
 | 132, i, _, h => nomatch Option.some.inj h
 | 133, i, _, h => nomatch Option.some.inj h
 | 134, i, _, h => nomatch Option.some.inj h
 | 135, i, _, h => nomatch Option.some.inj h
 | 136, i, _, h => nomatch Option.some.inj h
 | 137, i, _, h => fnC (Option.some.inj (Option.some.inj h)) fn137
 | 138, i, _, h => fnC (Option.some.inj (Option.some.inj h)) fn138
 | 139, i, _, h => fnC (Option.some.inj (Option.some.inj h)) fn139
 | 140, i, _, h => fnC (Option.some.inj (Option.some.inj h)) fn140
 | 141, i, _, h => fnC (Option.some.inj (Option.some.inj h)) fn141
 | 142, i, _, h => fnC (Option.some.inj (Option.some.inj h)) fn142
 | 143, i, _, h => fnC (Option.some.inj (Option.some.inj h)) fn143
 | 144, i, _, h => fnC (Option.some.inj (Option.some.inj h)) fn144
 | 145, i, _, h => fnC (Option.some.inj (Option.some.inj h)) fn145
 | 146, i, _, h => nomatch Option.some.inj h
 | 147, i, _, h => fnC (Option.some.inj (Option.some.inj h)) fn147
 | 148, i, _, h => nomatch Option.some.inj h
 | 149, i, _, h => fnC (Option.some.inj (Option.some.inj h)) fn149
 | 150, i, _, h => fnC (Option.some.inj (Option.some.inj h)) fn150
 | 151, i, _, h => fnC (Option.some.inj (Option.some.inj h)) fn151
 | 152, i, _, h => fnC (Option.some.inj (Option.some.inj h)) fn152
 | 153, i, _, h => nomatch Option.some.inj h
 | 154, i, _, h => fnC (Option.some.inj (Option.some.inj h)) fn154
 | 155, i, _, h => fnC (Option.some.inj (Option.some.inj h)) fn155
 | 156, i, _, h => nomatch Option.some.inj h
 | 157, i, _, h => fnC (Option.some.inj (Option.some.inj h)) fn157
 | 158, i, _, h => fnC (Option.some.inj (Option.some.inj h)) fn158
 | 159, i, _, h => nomatch Option.some.inj h
 | 160, i, _, h => nomatch Option.some.inj h
 | 161, i, _, h => nomatch Option.some.inj h
 | 162, i, _, h => nomatch Option.some.inj h
 | 163, i, _, h => nomatch Option.some.inj h
 | 164, i, _, h => nomatch Option.some.inj h
 | 165, i, _, h => nomatch Option.some.inj h
 | 166, i, _, h => nomatch Option.some.inj h
 | 167, i, _, h => nomatch Option.some.inj h
 | 168, i, _, h => nomatch Option.some.inj h
 | 169, i, _, h => fnC (Option.some.inj (Option.some.inj h)) fn169
 | 170, i, _, h => fnC (Option.some.inj (Option.some.inj h)) fn170
 | 171, i, _, h => fnC (Option.some.inj (Option.some.inj h)) fn171
 | 172, i, _, h => fnC (Option.some.inj (Option.some.inj h)) fn172
 | 173, i, _, h => fnC (Option.some.inj (Option.some.inj h)) fn173
 | 174, i, _, h => nomatch Option.some.inj h
 | 175, i, _, h => nomatch Option.some.inj h
 | 176, i, _, h => nomatch Option.some.inj h
 | 177, i, _, h => nomatch Option.some.inj h
 | 178, i, _, h => nomatch Option.some.inj h
 | 179, i, _, h => nomatch Option.some.inj h
 | 180, i, _, h => nomatch Option.some.inj h
 | 181, i, _, h => nomatch Option.some.inj h
 | 182, i, _, h => nomatch Option.some.inj h
 | 183, i, _, h => nomatch Option.some.inj h
 | 184, i, _, h => nomatch Option.some.inj h
 | 185, i, _, h => nomatch Option.some.inj h
 | 186, i, _, h => nomatch Option.some.inj h
 | 187, i, _, h => nomatch Option.some.inj h
 | 188, i, _, h => nomatch Option.some.inj h
 | 189, i, _, h => fnC (Option.some.inj (Option.some.inj h)) fn189
 | 190, i, _, h => fnC (Option.some.inj (Option.some.inj h)) fn190
 | 191, i, _, h => fnC (Option.some.inj (Option.some.inj h)) fn191
 | n + 192, i, hlt, h => by omega
theorem fns0 : ∀ f i, E0.fs f = some i → FnOk Go.Proofs.Tryz.prog E0 f i := by
 intro f i h
 have hl : fss[f]? = some (some i) := by
  have h : (fss[f]?).getD none = some i := h
  cases hl : fss[f]? with
  | none => rw [hl] at h; cases h
  | some o => rw [hl] at h; simp only [Option.getD_some] at h; rw [h]
 refine ⟨?_, fnsB_ok code0 hl⟩
 have hlt : f < 192 := (List.getElem?_eq_some_iff.1 hl).1
 exact fnAll f i hlt hl
theorem env0 : EnvOk Go.Proofs.Tryz.prog E0 J0 := ⟨tabOk0, byte0, by kernel_rfl, fns0, ext0, j0_stays⟩
end Go.Proofs.YtdameggfgnpehaaGreatDoor.Abs
set_option linter.unusedVariables false
set_option linter.unusedSimpArgs false
namespace Go.Proofs.YtdameggfgnpehaaGreatDoor.Abs
open Go
variable {β : Type} {n : Nat}
section
variable {k : AV → Heap → Option β} {k1 : AV → Option β} {H : Heap}
@[simp] theorem PR_load : (PR n β).load = pLoad := rfl
@[simp] theorem PR_store : (PR n β).store = pStore := rfl
@[simp] theorem PR_new : (PR n β).new = pNew := rfl
@[simp] theorem PR_box : (PR n β).box = pBox := rfl
@[simp] theorem PR_newSl : (PR n β).newSl = pNewSl := rfl
@[simp] theorem PR_fadr : (PR n β).fadr = pFadr := rfl
@[simp] theorem PR_fld : (PR n β).fld = pFld := rfl
@[simp] theorem PR_iadr : (PR n β).iadr = pIadr := rfl
@[simp] theorem PR_idx : (PR n β).idx = pIdx := rfl
@[simp] theorem PR_lenS : (PR n β).lenS = pLenS := rfl
@[simp] theorem PR_len : (PR n β).len = pLen := rfl
@[simp] theorem PR_sliceS : (PR n β).sliceS = pSliceS := rfl
@[simp] theorem PR_slice : (PR n β).slice = pSlice := rfl
@[simp] theorem PR_app : (PR n β).app = pApp := rfl
@[simp] theorem PR_appS : (PR n β).appS = pAppS := rfl
@[simp] theorem PR_bin : (PR n β).bin = pBin := rfl
@[simp] theorem PR_binB : (PR n β).binB = pBinB := rfl
@[simp] theorem PR_binA : (PR n β).binA = pBinA := rfl
@[simp] theorem PR_un : (PR n β).un = pUn := rfl
@[simp] theorem PR_pick : (PR n β).pick = pPick := rfl
@[simp] theorem PR_cvI : (PR n β).cvI = pCvI := rfl
@[simp] theorem PR_cvSS : (PR n β).cvSS = pCvSS := rfl
@[simp] theorem PR_cvBS : (PR n β).cvBS = pCvBS := rfl
@[simp] theorem PR_cvSB : (PR n β).cvSB = pCvSB := rfl
@[simp] theorem PR_extr : (PR n β).extr = pExtr := rfl
@[simp] theorem PR_nil : (PR n β).nil = pNil := rfl
@[simp] theorem PR_fill : (PR n β).fill = fun a l k => (fillA a l).bind k := rfl
@[simp] theorem PR_make : (PR n β).make = pMake := rfl
@[simp] theorem PR_guard : (PR n β).guard = pGuard := rfl
@[simp] theorem PR_cond : (PR n β).cond = pCond := rfl
@[simp] theorem PR_clear : (PR n β).clear = pClear := rfl
@[simp] theorem PR_both : (PR n β).both = pBoth := rfl
noncomputable def plainF (f : Nat) : Bool := E0.hm f || (E0.ext f).isSome
theorem plain_hm {f : Nat} (h : plainF f = false) : E0.hm f = false := by
 unfold plainF at h
 simp only [Bool.or_eq_false_iff] at h
 exact h.1
theorem plain_ext {f : Nat} (h : plainF f = false) : E0.ext f = none := by
 unfold plainF at h
 simp only [Bool.or_eq_false_iff] at h
 simpa using h.2
theorem PR_call {ty : Nat} {f : FuncId} {args vs : List AV} {t : AV} (hh : plainF f = false) (hv : args.mapM (viewV H 8) = some vs) (ht : tree E0 n ty f vs = some t) :
  (PR n β).call ty (.fn f [] []) args H k = k (instT ti0 E0.tp H.length ty t).1 (H ++ (instT ti0 E0.tp H.length ty t).2) := by
 show callF E0 (evalFn E0 n) ty f ([] ++ args ++ []) H k = _
 simp only [callF, plain_ext hh, plain_hm hh, List.nil_append, List.append_nil, Bool.false_eq_true, if_false, callT, hv, Option.bind_some]
 have ht : treeOf E0 (evalFn E0 n) ty f vs = some t := ht
 rw [ht]
 rfl
theorem PR_ext {ty : Nat} {f : FuncId} {g : Nat → List AV → Option AV} {args vs : List AV} {t : AV} (hg : E0.ext f = some g) (hv : args.mapM (viewV H 8) = some vs) (ht : g ty vs = some t) :
  (PR n β).call ty (.fn f [] []) args H k = k (instT ti0 E0.tp H.length ty t).1 (H ++ (instT ti0 E0.tp H.length ty t).2) := by
 show callF E0 (evalFn E0 n) ty f ([] ++ args ++ []) H k = _
 simp only [callF, hg, List.nil_append, List.append_nil, callX, hv, Option.bind_some, ht]
 rfl
end
theorem tree_def (n ty : Nat) (f : FuncId) (args : List AV) : tree E0 n ty f args = evalFn E0 n AV f args [] fun x H => ownTree ti0 E0.tp ty H x := rfl
@[simp] theorem own_scalar {ti : Nat → Option TI} {tp : Nat → Option (List Nat)} (ty : Nat) (H : Heap) (v : Value) : ownTree ti tp ty H (.sc v) = some (.sc v) := rfl
theorem ownT_sl {ti : Nat → Option TI} {tp : Nat → Option (List Nat)} {H : Heap} {d ty id off n z : Nat} : ownT ti tp H (d + 1) ty (.sl id off n z) = (ti ty).bind fun i => (ti i.elem).bind fun j => if z = j.size then (if isApp H id then (rdCells H id off (n * z)).bind fun cs => (ownL (ownT ti tp H d) (List.replicate n j.cty).flatten cs).bind fun q => some (.ro n q.1, id :: q.2) else none) else none := rfl
theorem ownT_agg {ti : Nat → Option TI} {tp : Nat → Option (List Nat)} {H : Heap} {d ty : Nat} {cs : List AV} : ownT ti tp H (d + 1) ty (.agg cs) = (ti ty).bind fun i => (ownL (ownT ti tp H d) i.cty cs).bind fun q => some (.agg q.1, q.2) := rfl
theorem ownT_tup {ti : Nat → Option TI} {tp : Nat → Option (List Nat)} {H : Heap} {d ty : Nat} {cs : List AV} : ownT ti tp H (d + 1) ty (.tup cs) = (tp ty).bind fun ts => (ownL (ownT ti tp H d) ts cs).bind fun q => some (.tup q.1, q.2) := rfl
theorem ownT_sc {ti : Nat → Option TI} {tp : Nat → Option (List Nat)} {H : Heap} {d ty : Nat} {v : Value} : ownT ti tp H (d + 1) ty (.sc v) = some (.sc v, []) := rfl
theorem instT_sc {ti : Nat → Option TI} {tp : Nat → Option (List Nat)} {n ty : Nat} {v : Value} : instT ti tp n ty (.sc v) = (.sc v, []) := rfl
theorem instT_agg {ti : Nat → Option TI} {tp : Nat → Option (List Nat)} {n ty : Nat} {cs : List AV} : instT ti tp n ty (.agg cs) = (.agg (instL ti tp n ((ti ty).getD default).cty cs).1, (instL ti tp n ((ti ty).getD default).cty cs).2) := rfl
theorem instT_tup {ti : Nat → Option TI} {tp : Nat → Option (List Nat)} {n ty : Nat} {cs : List AV} : instT ti tp n ty (.tup cs) = (.tup (instL ti tp n ((tp ty).getD []) cs).1, (instL ti tp n ((tp ty).getD []) cs).2) := rfl
theorem viewV_sl {H : Heap} {d id off n z : Nat} : viewV H (d + 1) (.sl id off n z) = (rdCells H id off (n * z)).bind fun cs => (cs.mapM (viewV H d)).bind fun vs => some (.ro n vs) := rfl
theorem viewV_agg {H : Heap} {d : Nat} {cs : List AV} : viewV H (d + 1) (.agg cs) = (cs.mapM (viewV H d)).bind fun vs => some (.agg vs) := rfl
theorem viewV_sc {H : Heap} {d : Nat} {v : Value} : viewV H (d + 1) (.sc v) = some (.sc v) := rfl
theorem viewV_ro {H : Heap} {d n : Nat} {cs : List AV} : viewV H (d + 1) (.ro n cs) = some (.ro n cs) := rfl
theorem splice_next (l : List AV) (i j : Nat) (z : AV) (hi : i < l.length) : splice (l.take i ++ List.replicate (j + 1) z) i [l[i]] = l.take (i + 1) ++ List.replicate j z := by
 have hlen : (l.take i).length = i := by simp; omega
 have e1 : (l.take i ++ List.replicate (j + 1) z).take i = l.take i := List.take_left' hlen
 have e2 : (l.take i ++ List.replicate (j + 1) z).drop (i + 1) = List.replicate j z := by
  rw [List.drop_append, hlen, List.drop_of_length_le (by omega), List.nil_append, Nat.add_sub_cancel_left, List.replicate_succ, List.drop_one, List.tail_cons]
 unfold splice
 rw [e1, List.length_singleton, e2, List.take_succ_eq_append_getElem hi]
theorem mapM_sc {H : Heap} {d : Nat} : ∀ (l : List Value), (l.map AV.sc).mapM (viewV H (d + 1)) = some (l.map AV.sc)
 | [] => rfl
 | x :: l => by
  have e : viewV H (d + 1) (.sc x) = some (.sc x) := rfl
  simp only [List.map_cons, List.mapM_cons, e, Option.pure_def, Option.bind_eq_bind, Option.bind_some, mapM_sc l]
theorem ownL_sc {ti : Nat → Option TI} {tp : Nat → Option (List Nat)} {H : Heap} {d : Nat} : ∀ (ts : List Nat) (l : List Value), ts.length = l.length → ownL (ownT ti tp H (d + 1)) ts (l.map AV.sc) = some (l.map AV.sc, [])
 | [], [], _ => rfl
 | t :: ts, x :: l, h => by
  have e : ownT ti tp H (d + 1) t (.sc x) = some (.sc x, []) := rfl
  simp only [List.map_cons, ownL, e, Option.bind_some, ownL_sc ts l (by simpa using h), List.append_nil]
 | [], _ :: _, h => by simp at h
 | _ :: _, [], h => by simp at h
theorem instL_sc {ti : Nat → Option TI} {tp : Nat → Option (List Nat)} {n : Nat} : ∀ (ts : List Nat) (l : List Value), instL ti tp n ts (l.map AV.sc) = (l.map AV.sc, [])
 | ts, [] => rfl
 | ts, x :: l => by
  simp only [List.map_cons, instL, instT, instL_sc _ l, List.nil_append]
def bv (s : ByteArray) : List Value := s.data.toList.map fun b => .int .u8 b.toNat
theorem bytesAV_eq (s : ByteArray) : bytesAV s = (bv s).map AV.sc := by simp [bytesAV, bv]
theorem bv_len (s : ByteArray) : (bv s).length = s.size := by simp [bv]
theorem bytesAV_len (s : ByteArray) : (bytesAV s).length = s.size := by simp [bytesAV]
theorem bytesAV_leaf (s : ByteArray) : (bytesAV s).all isLeaf = true := by
 simp only [bytesAV, List.all_map, List.all_eq_true]
 intro b _
 rfl
theorem byteOf_bytes : ∀ (l : List UInt8), (l.map fun b => AV.sc (.int .u8 (b.toNat : Int))).mapM byteOf = some l
 | [] => rfl
 | b :: l => by
  have e : byteOf (.sc (.int .u8 (b.toNat : Int))) = some b := by simp [byteOf]
  simp only [List.map_cons, List.mapM_cons, e, byteOf_bytes l, Option.pure_def, Option.bind_eq_bind, Option.bind_some]
end Go.Proofs.YtdameggfgnpehaaGreatDoor.Abs
set_option linter.unusedVariables false
set_option linter.unusedSimpArgs false
namespace Go.Proofs.YtdameggfgnpehaaGreatDoor.Abs
open Go
section gen
variable {ti : Nat → Option TI} {tp : Nat → Option (List Nat)}
def okLW (f : Nat → AV → Prop) : List Nat → List AV → Prop
 | [], [] => True
 | t :: ts, x :: xs => f t x ∧ okLW f ts xs
 | _, _ => False
def okW (ti : Nat → Option TI) (tp : Nat → Option (List Nat)) : Nat → Nat → AV → Prop
 | 0, _, _ => False
 | d + 1, ty, x =>
  match x with
  | .sc _ => True
  | .ro n cells => ∃ i j, ti ty = some i ∧ ti i.elem = some j ∧ cells.length = n * j.size ∧ okLW (okW ti tp d) (List.replicate n j.cty).flatten cells
  | .agg cs => ∃ i, ti ty = some i ∧ okLW (okW ti tp d) i.cty cs
  | .tup cs => ∃ ts, tp ty = some ts ∧ okLW (okW ti tp d) ts cs
  | _ => False
theorem okLW_len {f : Nat → AV → Prop} : ∀ {ts : List Nat} {cs : List AV}, okLW f ts cs → ts.length = cs.length
 | [], [], _ => rfl
 | _ :: ts, _ :: cs, h => by rw [List.length_cons, List.length_cons, okLW_len h.2]
theorem okLW_append {f : Nat → AV → Prop} : ∀ {ts : List Nat} {cs : List AV} {ts' : List Nat} {cs' : List AV}, okLW f ts cs → okLW f ts' cs' → okLW f (ts ++ ts') (cs ++ cs')
 | [], [], _, _, _, h => h
 | _ :: ts, _ :: cs, _, _, h, h' => ⟨h.1, okLW_append h.2 h'⟩
theorem okLW_rows {α : Type} {f : Nat → AV → Prop} {cty : List Nat} {enc : α → List AV} : ∀ (l : List α), (∀ x ∈ l, okLW f cty (enc x)) → okLW f (List.replicate l.length cty).flatten (l.map enc).flatten
 | [], _ => by simp [okLW]
 | x :: l, h => by
  rw [List.length_cons, List.replicate_succ, List.flatten_cons, List.map_cons, List.flatten_cons]
  exact okLW_append (h x List.mem_cons_self) (okLW_rows l fun y hy => h y (List.mem_cons_of_mem _ hy))
theorem okLW_okL {f g : Nat → AV → Prop} (hfg : ∀ t x, f t x → g t x) : ∀ {ts : List Nat} {cs : List AV}, okLW f ts cs → okL g ts cs
 | [], [], _ => trivial
 | _ :: ts, _ :: cs, h => ⟨hfg _ _ h.1, okLW_okL hfg h.2⟩
theorem okW_okTr : ∀ (d : Nat) (ty : Nat) (x : AV), okW ti tp d ty x → okTr ti tp d ty x
 | 0, _, _, h => h
 | d + 1, ty, x, h => by
  cases x with
  | sc v => trivial
  | ro n cells =>
   obtain ⟨i, j, h1, h2, h3, h4⟩ := h
   show cells.length = n * (((ti ty).bind fun i => ti i.elem).getD default).size ∧ _
   simp only [h1, Option.bind_some, h2, Option.getD_some]
   exact ⟨h3, okLW_okL (okW_okTr d) h4⟩
  | agg cs =>
   obtain ⟨i, h1, h2⟩ := h
   show okL _ ((ti ty).getD default).cty cs
   rw [h1]
   exact okLW_okL (okW_okTr d) h2
  | tup cs =>
   obtain ⟨ts, h1, h2⟩ := h
   show okL _ ((tp ty).getD []) cs
   rw [h1]
   exact okLW_okL (okW_okTr d) h2
  | _ => cases h
theorem own_instL {H : Heap} {d : Nat} (hd : ∀ ty t N, okW ti tp d ty t → Lies H N (instT ti tp N ty t).2 → (∀ b ∈ (instT ti tp N ty t).2, b.live = true ∧ b.app = true) → ownT ti tp H d ty (instT ti tp N ty t).1 = some (t, List.range' N (instT ti tp N ty t).2.length)) :
  ∀ (ts : List Nat) (cs : List AV) (N : Nat), okLW (okW ti tp d) ts cs → Lies H N (instL ti tp N ts cs).2 → (∀ b ∈ (instL ti tp N ts cs).2, b.live = true ∧ b.app = true) → ownL (ownT ti tp H d) ts (instL ti tp N ts cs).1 = some (cs, List.range' N (instL ti tp N ts cs).2.length)
 | [], [], N, _, _, _ => rfl
 | t :: ts, x :: cs, N, h, hl, hb => by
  simp only [instL, List.headD_cons, List.tail_cons] at hl hb ⊢
  have h1 := hd t x N h.1 hl.left fun b hb' => hb b (List.mem_append_left _ hb')
  have h2 := own_instL hd ts cs _ h.2 hl.right fun b hb' => hb b (List.mem_append_right _ hb')
  have e := List.range'_append (s := N) (m := (instT ti tp N t x).2.length) (n := (instL ti tp (N + (instT ti tp N t x).2.length) ts cs).2.length) (step := 1)
  rw [Nat.one_mul] at e
  simp only [ownL, h1, h2, Option.bind_some, List.length_append, e]
mutual
theorem inst_live : ∀ (x : AV) (N ty : Nat), ∀ b ∈ (instT ti tp N ty x).2, b.live = true ∧ b.app = true
 | .sc v, N, ty => by intro b h; cases h
 | .ro n cells, N, ty => by
  intro b h
  simp only [instT, List.mem_cons] at h
  rcases h with rfl | h
  ·exact ⟨rfl, rfl⟩
  ·exact instL_live cells _ _ b h
 | .agg cs, N, ty => fun b h => instL_live cs _ _ b h
 | .tup cs, N, ty => fun b h => instL_live cs _ _ b h
 | .any, N, ty => by intro b h; cases h
 | .nl, N, ty => by intro b h; cases h
 | .sl .., N, ty => by intro b h; cases h
 | .ptr .., N, ty => by intro b h; cases h
 | .rp .., N, ty => by intro b h; cases h
 | .fn .., N, ty => by intro b h; cases h
theorem instL_live : ∀ (cs : List AV) (N : Nat) (ts : List Nat), ∀ b ∈ (instL ti tp N ts cs).2, b.live = true ∧ b.app = true
 | [], N, ts => by intro b h; cases h
 | x :: cs, N, ts => by
  intro b h
  simp only [instL, List.mem_append] at h
  rcases h with h | h
  ·exact inst_live x _ _ b h
  ·exact instL_live cs _ _ b h
end
theorem own_inst {H : Heap} : ∀ (d ty : Nat) (t : AV) (N : Nat), okW ti tp d ty t → Lies H N (instT ti tp N ty t).2 → ownT ti tp H d ty (instT ti tp N ty t).1 = some (t, List.range' N (instT ti tp N ty t).2.length)
 | 0, _, _, _, h, _ => by cases h
 | d + 1, ty, t, N, h, hl => by
  have ih := own_instL (H := H) (d := d) (ti := ti) (tp := tp) (fun ty t N h h' _ => own_inst d ty t N h h')
  cases t with
  | sc v => rfl
  | ro n cells =>
   obtain ⟨i, j, h1, h2, h3, h4⟩ := h
   have e : instT ti tp N ty (.ro n cells) = (.sl N 0 n j.size, ⟨(instL ti tp (N + 1) (List.replicate n j.cty).flatten cells).1, true, true⟩ :: (instL ti tp (N + 1) (List.replicate n j.cty).flatten cells).2) := by
    simp only [instT, h1, Option.bind_some, h2, Option.getD_some]
   rw [e] at hl ⊢
   have hb := hl 0 _ rfl
   rw [Nat.add_zero] at hb
   have hv := ih (List.replicate n j.cty).flatten cells (N + 1) h4 hl.tail (instL_live _ _ _)
   have hlen := instL_len (ti := ti) (tp := tp) (N + 1) (List.replicate n j.cty).flatten cells
   have e2 : rdCells H N 0 (n * j.size) = some (instL ti tp (N + 1) (List.replicate n j.cty).flatten cells).1 := by
    simp only [rdCells, hb, if_true, List.drop_zero, Nat.zero_add]
    rw [if_pos (by rw [hlen, h3]; exact Nat.le_refl _), ← h3, ← hlen, List.take_length]
   have e3 : isApp H N = true := by simp only [isApp, hb]
   rw [ownT_sl]
   simp only [h1, h2, Option.bind_some, if_true, e2, e3, hv, List.length_cons]
   rw [List.range'_succ]
  | agg cs =>
   obtain ⟨i, h1, h2⟩ := h
   have e : instT ti tp N ty (.agg cs) = (.agg (instL ti tp N i.cty cs).1, (instL ti tp N i.cty cs).2) := by rw [instT_agg, h1]; rfl
   rw [e] at hl ⊢
   rw [ownT_agg]
   simp only [h1, Option.bind_some, ih i.cty cs N h2 hl (instL_live _ _ _)]
  | tup cs =>
   obtain ⟨ts, h1, h2⟩ := h
   have e : instT ti tp N ty (.tup cs) = (.tup (instL ti tp N ts cs).1, (instL ti tp N ts cs).2) := by rw [instT_tup, h1]; rfl
   rw [e] at hl ⊢
   rw [ownT_tup]
   simp only [h1, Option.bind_some, ih ts cs N h2 hl (instL_live _ _ _)]
  | _ => cases h
theorem Lies_in (A B X : List Blk) : Lies (A ++ B ++ X) A.length B := fun j b hj => by
 have hlt := (List.getElem?_eq_some_iff.1 hj).1
 rw [List.append_assoc, List.getElem?_append_right (by omega), Nat.add_sub_cancel_left, List.getElem?_append_left hlt]
 exact hj
theorem Lies_end (A B : List Blk) : Lies (A ++ B) A.length B := by
 have := Lies_in A B []
 rwa [List.append_nil] at this
theorem own_ret (A : List Blk) (ty : Nat) (t : AV) (h : okW ti tp 8 ty t) : ownTree ti tp ty (A ++ (instT ti tp A.length ty t).2) (instT ti tp A.length ty t).1 = some t := by
 rw [ownTree, own_inst 8 ty t A.length h (Lies_end _ _)]
 simp only [Option.bind_some]
 rw [if_pos (List.nodup_range')]
def Vw (H : Heap) (x v : AV) : Prop := ∀ X : List Blk, viewV (H ++ X) 8 x = some v
theorem Vw.grow {H : Heap} {x v : AV} (h : Vw H x v) (X : List Blk) : Vw (H ++ X) x v := fun Y => by
 rw [List.append_assoc]
 exact h _
theorem Vw.now {H : Heap} {x v : AV} (h : Vw H x v) : viewV H 8 x = some v := by
 have := h []
 rwa [List.append_nil] at this
theorem Vw_inst (H : Heap) (ty : Nat) (t : AV) (h : okW ti tp 8 ty t) : Vw (H ++ (instT ti tp H.length ty t).2) (instT ti tp H.length ty t).1 t := fun X => view_inst 8 ty t H.length (okW_okTr 8 ty t h) (Lies_in _ _ _)
theorem Vw_sc (H : Heap) (v : Value) : Vw H (.sc v) (.sc v) := fun _ => rfl
theorem Vw_ro (H : Heap) (n : Nat) (cs : List AV) : Vw H (.ro n cs) (.ro n cs) := fun _ => rfl
def isFl : AV → Bool
 | .sc v => leafV v
 | .ro _ _ => true
 | _ => false
theorem fl_leaf {cs : List AV} (h : cs.all isFl = true) : cs.all isLeaf = true := by
 rw [List.all_eq_true] at h ⊢
 intro x hx
 have := h x hx
 cases x <;> simp_all [isFl, isLeaf]
theorem fl_cells {cs : List AV} (h : cs.all isFl = true) : cellsA (.agg cs) = some cs := by
 show (if cs.all isLeaf then some cs else none) = _
 rw [if_pos (fl_leaf h)]
theorem fl_view {H : Heap} {d : Nat} : ∀ {cs : List AV}, cs.all isFl = true → cs.mapM (viewV H (d + 1)) = some cs
 | [], _ => rfl
 | x :: cs, h => by
  rw [List.all_cons, Bool.and_eq_true] at h
  have e : viewV H (d + 1) x = some x := by
   have := h.1
   cases x <;> first | rfl | (exfalso; simp [isFl] at this)
  simp only [List.mapM_cons, e, fl_view h.2, Option.pure_def, Option.bind_eq_bind, Option.bind_some]
theorem Vw_agg (H : Heap) {cs : List AV} (h : cs.all isFl = true) : Vw H (.agg cs) (.agg cs) := fun X => by
 rw [viewV_agg, fl_view h]
 rfl
theorem instL_leaf : ∀ (cs : List AV) (N : Nat) (ts : List Nat), cs.all isFl = true → (instL ti tp N ts cs).1.all isLeaf = true
 | [], _, _, _ => rfl
 | x :: cs, N, ts, h => by
  rw [List.all_cons, Bool.and_eq_true] at h
  simp only [instL, List.all_cons, Bool.and_eq_true]
  refine ⟨?_, instL_leaf cs _ _ h.2⟩
  have := h.1
  cases x <;> first | exact this | rfl | (exfalso; simp [isFl] at this)
theorem instL_append : ∀ (ts : List Nat) (cs : List AV) (ts' : List Nat) (cs' : List AV) (N : Nat), ts.length = cs.length →
  instL ti tp N (ts ++ ts') (cs ++ cs') = ((instL ti tp N ts cs).1 ++ (instL ti tp (N + (instL ti tp N ts cs).2.length) ts' cs').1, (instL ti tp N ts cs).2 ++ (instL ti tp (N + (instL ti tp N ts cs).2.length) ts' cs').2)
 | [], [], ts', cs', N, _ => by simp [instL]
 | t :: ts, x :: cs, ts', cs', N, h => by
  have ih := instL_append ts cs ts' cs' (N + (instT ti tp N t x).2.length) (by simpa using h)
  simp only [List.cons_append, instL, List.headD_cons, List.tail_cons, ih, List.length_append, List.append_assoc, Nat.add_assoc]
end gen
section ops
variable {β : Type}
theorem iadr_ro (w len : Nat) (cells : List AV) (i : Nat) (k : AV → Option β) (h : i < len) (h2 : i * w < cells.length) : pIadr w (.ro len cells) (.sc (.int .i64 i)) k = k (.rp (cells.drop (i * w))) := by
 simp only [pIadr, asI, Option.bind_some, Int.toNat_natCast]
 rw [if_pos ⟨by omega, by omega⟩, if_pos h2]
theorem iadr_sl (w len id off : Nat) (i : Nat) (k : AV → Option β) (h : i < len) : pIadr w (.sl id off len w) (.sc (.int .i64 i)) k = k (.ptr id (off + i * w)) := by
 simp only [pIadr, asI, Option.bind_some, Int.toNat_natCast, if_true]
 rw [if_pos ⟨by omega, by omega⟩]
theorem ld_rp (w : Nat) (cs r : List AV) (H : Heap) (k : AV → Option β) (h : cs.length = w) : pLoad true w (.rp (cs ++ r)) H k = k (.agg cs) := by
 simp only [pLoad, List.length_append, h, Nat.le_add_right, if_true, List.take_left' h]
theorem ld1_rp (c : AV) (r : List AV) (H : Heap) (k : AV → Option β) : pLoad false 1 (.rp (c :: r)) H k = k c := by
 simp only [pLoad, List.length_cons, Nat.le_add_left, if_true, Bool.false_eq_true, if_false]
 rfl
theorem st_at (w id off : Nat) (y : AV) (b : Blk) (cs : List AV) (H : Heap) (k : Heap → Option β) (h : H[id]? = some b) (hc : cellsA y = some cs) (hl : cs.length = w) (ho : off + w ≤ b.cells.length) (hb : b.live = true) : pStore w (.ptr id off) y H k = k (H.set id { b with cells := splice b.cells off cs }) := by
 simp only [pStore, h, hc, Option.bind_some, hb, if_true, hl, ho]
theorem splice_mid (A z C cs : List AV) (h : z.length = cs.length) : splice (A ++ (z ++ C)) A.length cs = A ++ (cs ++ C) := by
 unfold splice
 rw [List.take_left' rfl, ← List.append_assoc A z C, List.drop_append_of_le_length (by rw [List.length_append]; omega), ← h, ← List.length_append, List.drop_length, List.nil_append, List.append_assoc]
theorem lss_nat (a b : Nat) (k : AV → Option β) : pBin .lss (.sc (.int .i64 a)) (.sc (.int .i64 b)) k = k (.sc (.bool (decide (a < b)))) := by
 show k (.sc (.bool (decide ((a : Int) < (b : Int))))) = _
 rw [show decide ((a : Int) < (b : Int)) = decide (a < b) from by simp]
theorem inc_nat (a : Nat) (k : AV → Option β) (h : a < 9223372036854775807) : pBin .add (.sc (.int .i64 a)) (.sc (.int .i64 1)) k = k (.sc (.int .i64 (a + 1 : Nat))) := by
 show k (.sc (.int .i64 (IntKind.i64.wrap ((a : Int) + 1)))) = _
 have e : IntKind.i64.wrap ((a : Int) + 1) = ((a + 1 : Nat) : Int) := by
  rw [IntKind.wrap_i64, Int.natCast_add]
  simp only [Int.cast_ofNat_Int]
  omega
 rw [e]
theorem cond_b (b : Bool) (x y : Option β) : pCond (.sc (.bool b)) x y = if b then x else y := rfl
theorem len_ro (n : Nat) (cs : List AV) (k : AV → Option β) : pLen (.ro n cs) k = k (.sc (.int .i64 n)) := rfl
theorem wrap64 (n : Int) (h0 : -9223372036854775808 ≤ n) (h1 : n ≤ 9223372036854775807) : IntKind.i64.wrap n = n := by
 rw [IntKind.wrap_i64]; omega
theorem sub64 (a b : Int) (k : AV → Option β) (h0 : -9223372036854775808 ≤ a - b) (h1 : a - b ≤ 9223372036854775807) : pBin .sub (.sc (.int .i64 a)) (.sc (.int .i64 b)) k = k (.sc (.int .i64 (a - b))) := by
 show k (.sc (.int .i64 (IntKind.i64.wrap (a - b)))) = _
 rw [wrap64 _ h0 h1]
theorem lss64 (a b : Int) (k : AV → Option β) : pBin .lss (.sc (.int .i64 a)) (.sc (.int .i64 b)) k = k (.sc (.bool (decide (a < b)))) := rfl
theorem drop_rows {α : Type} {w : Nat} {enc : α → List AV} (hw : ∀ x, (enc x).length = w) (pre r : List α) : ((pre ++ r).map enc).flatten.drop (pre.length * w) = (r.map enc).flatten := by
 have hl : ((pre.map enc).flatten).length = pre.length * w := by
  induction pre with
  | nil => simp
  | cons x pre ih => rw [List.map_cons, List.flatten_cons, List.length_append, ih, hw, List.length_cons, Nat.succ_mul, Nat.add_comm]
 rw [List.map_append, List.flatten_append, List.drop_append_of_le_length (by omega), ← hl, List.drop_length, List.nil_append]
theorem rows_len {α : Type} {w : Nat} {enc : α → List AV} (hw : ∀ x, (enc x).length = w) (l : List α) : ((l.map enc).flatten).length = l.length * w := by
 induction l with
 | nil => simp
 | cons x l ih => rw [List.map_cons, List.flatten_cons, List.length_append, ih, hw, List.length_cons, Nat.succ_mul, Nat.add_comm]
theorem el_ro {α : Type} {w : Nat} {enc : α → List AV} (hw : ∀ x, (enc x).length = w) (h0 : 0 < w) (pre : List α) (x : α) (r : List α) (k : AV → Option β) :
  pIadr w (.ro (pre ++ x :: r).length ((pre ++ x :: r).map enc).flatten) (.sc (.int .i64 pre.length)) k = k (.rp (enc x ++ (r.map enc).flatten)) := by
 have hl := rows_len hw (pre ++ x :: r)
 have h1 : pre.length < (pre ++ x :: r).length := by simp
 rw [iadr_ro w _ _ pre.length k h1 (by rw [hl]; exact Nat.mul_lt_mul_of_pos_right h1 h0), drop_rows hw pre (x :: r), List.map_cons, List.flatten_cons]
theorem to_loop {α : Type} {n te g w : Nat} {cty : List Nat} (enc : α → List AV) (k : AV → Heap → Option β) (z : List AV) (hz : z.length = w) (hw : ∀ x, (enc x).length = w) (hc : cty.length = w) (h0 : 0 < w)
  (hte : ∃ i, ti0 te = some i ∧ i.cty = cty) (hfl : ∀ x, (enc x).all isFl = true) (hh : plainF g = false) (L : Nat → AV → AV → AV → Heap → Option β)
  (hL : ∀ m a o i H, L (m + 1) a o i H = pLen a fun t10 => pBin .lss i t10 fun t11 => pCond t11 (pIadr w a i fun t18 => pLoad true w t18 H fun t19 => (PR n β).call te (.fn g [] []) [t19] H fun t20 H => pIadr w o i fun t21 => pStore w t21 t20 H fun H => pBin .add i (.sc (.int .i64 1)) fun t13 => L m a o t13 H) (k o H))
  (l : List α) (hto : ∀ x ∈ l, tree E0 n te g [.agg (enc x)] = some (.agg (enc x))) (hlen : l.length ≤ 1048576) : ∀ (r pre : List α) (m : Nat), l = pre ++ r → r.length < m →
   L m (.ro l.length (l.map enc).flatten) (.sl 0 0 l.length w) (.sc (.int .i64 pre.length)) (⟨(instL ti0 E0.tp 1 (List.replicate pre.length cty).flatten (pre.map enc).flatten).1 ++ (List.replicate r.length z).flatten, true, true⟩ :: (instL ti0 E0.tp 1 (List.replicate pre.length cty).flatten (pre.map enc).flatten).2)
    = k (.sl 0 0 l.length w) (⟨(instL ti0 E0.tp 1 (List.replicate l.length cty).flatten (l.map enc).flatten).1, true, true⟩ :: (instL ti0 E0.tp 1 (List.replicate l.length cty).flatten (l.map enc).flatten).2)
 | [], pre, m + 1, hl, hm => by
  rw [List.append_nil] at hl
  subst hl
  rw [hL, len_ro, lss_nat, cond_b]
  simp
 | x :: r, pre, m + 1, hl, hm => by
  have hlt : pre.length < l.length := by rw [hl]; simp
  rw [hL, len_ro, lss_nat, cond_b, if_pos (by simpa using hlt)]
  have hel := fun k => el_ro (β := β) hw h0 pre x r k
  rw [← hl] at hel
  rw [hel, ld_rp w _ _ _ _ (hw x)]
  rw [PR_call (vs := [.agg (enc x)]) hh (by rw [List.mapM_cons, (Vw_agg _ (hfl x)).now]; rfl) (hto x (by rw [hl]; simp))]
  rw [iadr_sl w _ _ _ _ _ hlt]
  obtain ⟨i, hi, rfl⟩ := hte
  have hr : (List.replicate pre.length i.cty).flatten.length = ((pre.map enc).flatten).length := by rw [rows_len hw]; simp [hc]
  have hJ := instL_append (ti := ti0) (tp := E0.tp) (List.replicate pre.length i.cty).flatten (pre.map enc).flatten i.cty (enc x) 1 hr
  generalize hP : instL ti0 E0.tp 1 (List.replicate pre.length i.cty).flatten (pre.map enc).flatten = P at hJ ⊢
  have hPl : P.1.length = pre.length * w := by rw [← hP, instL_len, rows_len hw]
  have hN : (⟨P.1 ++ (List.replicate (x :: r).length z).flatten, true, true⟩ :: P.2 : Heap).length = 1 + P.2.length := by simp [Nat.add_comm]
  rw [hN, instT_agg, hi, Option.getD_some]
  simp only
  generalize hQ : instL ti0 E0.tp (1 + P.2.length) i.cty (enc x) = Q at hJ ⊢
  have hQl : Q.1.length = w := by rw [← hQ, instL_len, hw]
  have hcl : cellsA (.agg Q.1) = some Q.1 := by
   show (if Q.1.all isLeaf then some Q.1 else none) = _
   rw [if_pos (by rw [← hQ]; exact instL_leaf _ _ _ (hfl x))]
  rw [List.cons_append, st_at w 0 (0 + pre.length * w) (.agg Q.1) ⟨P.1 ++ (List.replicate (x :: r).length z).flatten, true, true⟩ Q.1 _ _ rfl hcl hQl (by simp [hPl, hz, Nat.succ_mul]) rfl]
  rw [List.set_cons_zero, inc_nat _ _ (by omega)]
  have ih := to_loop enc k z hz hw hc h0 ⟨i, hi, rfl⟩ hfl hh L hL l hto hlen r (pre ++ [x]) m (by rw [hl]; simp) (by simpa using hm)
  have e1 : (List.replicate (pre ++ [x]).length i.cty).flatten = (List.replicate pre.length i.cty).flatten ++ i.cty := by
   rw [List.length_append, List.length_singleton, List.replicate_succ', List.flatten_append]; simp
  have e2 : ((pre ++ [x]).map enc).flatten = (pre.map enc).flatten ++ enc x := by simp
  rw [e1, e2, hJ] at ih
  have e3 : splice (P.1 ++ (List.replicate (x :: r).length z).flatten) (0 + pre.length * w) Q.1 = P.1 ++ Q.1 ++ (List.replicate r.length z).flatten := by
   rw [List.length_cons, List.replicate_succ, List.flatten_cons, Nat.zero_add, ← hPl, splice_mid _ _ _ _ (by rw [hz, hQl]), List.append_assoc]
  simp only [e3]
  rw [List.length_append, List.length_singleton] at ih
  exact ih
theorem to_slice {α : Type} {n te tyS f g w bytes : Nat} {cty : List Nat} (enc : α → List AV) (z : List AV) (hz : z.length = w) (hw : ∀ x, (enc x).length = w) (hc : cty.length = w) (h0 : 0 < w)
  (hty : ∃ i j, ti0 tyS = some i ∧ ti0 i.elem = some j ∧ j.size = w ∧ j.cty = cty) (hte : ∃ i, ti0 te = some i ∧ i.cty = cty) (hfl : ∀ x, (enc x).all isFl = true) (hh : plainF g = false) (L : (AV → Heap → Option AV) → Nat → AV → AV → AV → Heap → Option AV)
  (hL : ∀ k m a o i H, L k (m + 1) a o i H = pLen a fun t10 => pBin .lss i t10 fun t11 => pCond t11 (pIadr w a i fun t18 => pLoad true w t18 H fun t19 => (PR n AV).call te (.fn g [] []) [t19] H fun t20 H => pIadr w o i fun t21 => pStore w t21 t20 H fun H => pBin .add i (.sc (.int .i64 1)) fun t13 => L k m a o t13 H) (k o H))
  (hF : ∀ a H k, evalFn E0 (n + 1) AV f [a] H k = pLen a fun t6 => pMake w bytes z t6 t6 H fun t7 H => L k n a t7 (.sc (.int .i64 0)) H)
  (hby : bytes ≤ 134217728) (l : List α) (hto : ∀ x ∈ l, tree E0 n te g [.agg (enc x)] = some (.agg (enc x))) (hok : ∀ x ∈ l, okLW (okW ti0 E0.tp 7) cty (enc x)) (hlen : l.length ≤ 1048576) (hn : 1048576 < n) :
  tree E0 (n + 1) tyS f [.ro l.length (l.map enc).flatten] = some (.ro l.length (l.map enc).flatten) := by
 rw [tree_def, hF, len_ro]
 have hb : l.length * bytes ≤ 140737488355328 := Nat.le_trans (Nat.mul_le_mul hlen hby) (by decide)
 simp only [pMake, asI, Option.bind_some, if_true, Int.toNat_natCast, hb, Int.natCast_nonneg, pNewSl, List.length_nil, List.nil_append]
 have key := to_loop (n := n) (te := te) (g := g) (cty := cty) enc (fun x H => ownTree ti0 E0.tp tyS H x) z hz hw hc h0 hte hfl hh _ (hL _) l hto hlen l [] n (by simp) (by omega)
 simp only [List.length_nil, List.replicate_zero, List.flatten_nil, List.map_nil, instL, List.nil_append, Int.natCast_zero] at key
 refine key.trans ?_
 obtain ⟨i, j, h1, h2, h3, rfl⟩ := hty
 have hok' : okW ti0 E0.tp 8 tyS (.ro l.length (l.map enc).flatten) := ⟨i, j, h1, h2, by rw [rows_len hw, h3], okLW_rows l hok⟩
 have := own_ret [] tyS _ hok'
 simp only [instT, h1, h2, Option.bind_some, Option.getD_some, List.length_nil, List.nil_append, Nat.zero_add, h3] at this
 exact this
theorem flat_loop {α : Type} {n : Nat} (e : α → Value) (k : AV → Heap → Option β) (z : AV) (hlf : ∀ x, leafV (e x) = true) (L : Nat → AV → AV → AV → Heap → Option β)
  (hL : ∀ m a o i H, L (m + 1) a o i H = pLen a fun t10 => pBin .lss i t10 fun t11 => pCond t11 (pIadr 1 a i fun t18 => pLoad false 1 t18 H fun t19 => pIadr 1 o i fun t21 => pStore 1 t21 t19 H fun H => pBin .add i (.sc (.int .i64 1)) fun t13 => L m a o t13 H) (k o H))
  (l : List α) (hlen : l.length ≤ 1048576) : ∀ (r pre : List α) (m : Nat), l = pre ++ r → r.length < m →
   L m (.ro l.length (l.map fun x => .sc (e x))) (.sl 0 0 l.length 1) (.sc (.int .i64 pre.length)) [⟨(pre.map fun x => .sc (e x)) ++ List.replicate r.length z, true, true⟩]
    = k (.sl 0 0 l.length 1) [⟨l.map fun x => .sc (e x), true, true⟩]
 | [], pre, m + 1, hl, hm => by
  rw [List.append_nil] at hl
  subst hl
  rw [hL, len_ro, lss_nat, cond_b]
  simp
 | x :: r, pre, m + 1, hl, hm => by
  have hlt : pre.length < l.length := by rw [hl]; simp
  rw [hL, len_ro, lss_nat, cond_b, if_pos (by simpa using hlt)]
  rw [iadr_ro 1 _ _ pre.length _ hlt (by simpa using hlt)]
  have hd : (l.map fun x => AV.sc (e x)).drop (pre.length * 1) = .sc (e x) :: r.map fun x => .sc (e x) := by
   rw [Nat.mul_one, hl, List.map_append, List.drop_append_of_le_length (by simp)]
   rw [show pre.length = (pre.map fun x => AV.sc (e x)).length by simp, List.drop_length]
   rfl
  rw [hd, ld1_rp, iadr_sl 1 _ _ _ _ _ hlt]
  have hc : cellsA (.sc (e x)) = some [.sc (e x)] := by
   show cellsA (.sc (e x)) = _
   simp only [cellsA, isLeaf, hlf, if_true]
  rw [st_at 1 0 (0 + pre.length * 1) (.sc (e x)) ⟨(pre.map fun x => .sc (e x)) ++ List.replicate (x :: r).length z, true, true⟩ [.sc (e x)] _ _ rfl hc rfl (by simp) rfl]
  rw [List.set_cons_zero, inc_nat _ _ (by omega)]
  have ih := flat_loop (n := n) e k z hlf L hL l hlen r (pre ++ [x]) m (by rw [hl]; simp) (by simpa using hm)
  have e3 : splice ((pre.map fun x => AV.sc (e x)) ++ List.replicate (x :: r).length z) (0 + pre.length * 1) [.sc (e x)] = ((pre ++ [x]).map fun x => AV.sc (e x)) ++ List.replicate r.length z := by
   have := splice_mid (pre.map fun x => AV.sc (e x)) [z] (List.replicate r.length z) [.sc (e x)] rfl
   rw [List.length_map] at this
   rw [List.length_cons, List.replicate_succ, Nat.zero_add, Nat.mul_one]
   refine this.trans ?_
   simp
  simp only [e3]
  rw [List.length_append, List.length_singleton] at ih
  exact ih
theorem to_flat {α : Type} {n tyS f bytes : Nat} (e : α → Value) (z : AV) (hlf : ∀ x, leafV (e x) = true) (hty : ∃ i j, ti0 tyS = some i ∧ ti0 i.elem = some j ∧ j.size = 1 ∧ j.cty.length = 1) (L : (AV → Heap → Option AV) → Nat → AV → AV → AV → Heap → Option AV)
  (hL : ∀ k m a o i H, L k (m + 1) a o i H = pLen a fun t10 => pBin .lss i t10 fun t11 => pCond t11 (pIadr 1 a i fun t18 => pLoad false 1 t18 H fun t19 => pIadr 1 o i fun t21 => pStore 1 t21 t19 H fun H => pBin .add i (.sc (.int .i64 1)) fun t13 => L k m a o t13 H) (k o H))
  (hF : ∀ a H k, evalFn E0 (n + 1) AV f [a] H k = pLen a fun t6 => pMake 1 bytes [z] t6 t6 H fun t7 H => L k n a t7 (.sc (.int .i64 0)) H)
  (hby : bytes ≤ 134217728) (l : List α) (hlen : l.length ≤ 1048576) (hn : 1048576 < n) :
  tree E0 (n + 1) tyS f [.ro l.length (l.map fun x => .sc (e x))] = some (.ro l.length (l.map fun x => .sc (e x))) := by
 rw [tree_def, hF, len_ro]
 have hb : l.length * bytes ≤ 140737488355328 := Nat.le_trans (Nat.mul_le_mul hlen hby) (by decide)
 have hz : (List.replicate l.length [z]).flatten = List.replicate l.length z := by
  generalize l.length = m
  induction m with
  | zero => rfl
  | succ m ih => rw [List.replicate_succ, List.flatten_cons, ih, List.replicate_succ]; rfl
 simp only [pMake, asI, Option.bind_some, if_true, Int.toNat_natCast, hb, Int.natCast_nonneg, pNewSl, List.length_nil, List.nil_append, hz]
 have key := flat_loop (n := n) e (fun x H => ownTree ti0 E0.tp tyS H x) z hlf _ (hL _) l hlen l [] n (by simp) (by omega)
 simp only [List.length_nil, List.map_nil, List.nil_append, Int.natCast_zero] at key
 refine key.trans ?_
 obtain ⟨i, j, h1, h2, h3, h4⟩ := hty
 have em : (l.map fun x => AV.sc (e x)) = (l.map e).map AV.sc := by rw [List.map_map]; rfl
 have hl1 : (List.replicate l.length j.cty).flatten.length = (l.map e).length := by simp [h4]
 have e3 := ownL_sc (ti := ti0) (tp := E0.tp) (H := [⟨l.map fun x => AV.sc (e x), true, true⟩]) (d := 6) _ _ hl1
 have e2 : rdCells [⟨l.map fun x => AV.sc (e x), true, true⟩] 0 0 (l.length * 1) = some (l.map fun x => AV.sc (e x)) := by
  simp [rdCells, List.take_of_length_le]
 rw [ownTree, ownT_sl]
 simp only [h1, h2, h3, Option.bind_some, if_true, e2, isApp, List.getElem?_cons_zero]
 rw [em] at e3 ⊢
 rw [e3]
 rfl
theorem eq_loop {α : Type} {n tb g w : Nat} (enc : α → List AV) (k : AV → Heap → Option β) (hw : ∀ x, (enc x).length = w) (h0 : 0 < w) (hfl : ∀ x, (enc x).all isFl = true) (hh : plainF g = false) (L : Nat → AV → AV → AV → Heap → Option β)
  (hL : ∀ m a b i H, L (m + 1) a b i H = pLen a fun t13 => pBin .lss i t13 fun t14 => pCond t14 (pIadr w a i fun t19 => pLoad true w t19 H fun t20 => pIadr w b i fun t23 => pLoad true w t23 H fun t24 => (PR n β).call tb (.fn g [] []) [t20, t24] H fun t25 H => pUn .not t25 fun t26 => pCond t26 (k (.sc (.bool false)) H) (pBin .add i (.sc (.int .i64 1)) fun t16 => L m a b t16 H)) (k (.sc (.bool true)) H))
  (l : List α) (heq : ∀ x ∈ l, tree E0 n tb g [.agg (enc x), .agg (enc x)] = some (.sc (.bool true))) (hlen : l.length ≤ 1048576) (H : Heap) : ∀ (r pre : List α) (m : Nat), l = pre ++ r → r.length < m →
   L m (.ro l.length (l.map enc).flatten) (.ro l.length (l.map enc).flatten) (.sc (.int .i64 pre.length)) H = k (.sc (.bool true)) H
 | [], pre, m + 1, hl, hm => by
  rw [List.append_nil] at hl
  subst hl
  rw [hL, len_ro, lss_nat, cond_b]
  simp
 | x :: r, pre, m + 1, hl, hm => by
  have hlt : pre.length < l.length := by rw [hl]; simp
  rw [hL, len_ro, lss_nat, cond_b, if_pos (by simpa using hlt)]
  have hel := fun k => el_ro (β := β) hw h0 pre x r k
  rw [← hl] at hel
  rw [hel, ld_rp w _ _ _ _ (hw x), hel, ld_rp w _ _ _ _ (hw x)]
  rw [PR_call (vs := [.agg (enc x), .agg (enc x)]) hh (by simp only [List.mapM_cons, (Vw_agg _ (hfl x)).now]; rfl) (heq x (by rw [hl]; simp))]
  rw [instT_sc]
  simp only [pUn, Bool.not_true, List.append_nil]
  rw [cond_b, if_neg (by simp), inc_nat _ _ (by omega)]
  have ih := eq_loop enc k hw h0 hfl hh L hL l heq hlen H r (pre ++ [x]) m (by rw [hl]; simp) (by simpa using hm)
  rw [List.length_append, List.length_singleton] at ih
  exact ih
theorem neq_nat (a b : Nat) (k : AV → Option β) : pBin .neq (.sc (.int .i64 a)) (.sc (.int .i64 b)) k = k (.sc (.bool (decide (a ≠ b)))) := by
 show k (.sc (.bool ((a : Int) != (b : Int)))) = _
 congr 3
 by_cases h : a = b
 ·subst h; simp
 ·simp [bne, h]; omega
theorem eq_slice {α : Type} {n tb f g w : Nat} (enc : α → List AV) (hw : ∀ x, (enc x).length = w) (h0 : 0 < w) (hfl : ∀ x, (enc x).all isFl = true) (hh : plainF g = false) (L : (AV → Heap → Option AV) → Nat → AV → AV → AV → Heap → Option AV)
  (hL : ∀ k m a b i H, L k (m + 1) a b i H = pLen a fun t13 => pBin .lss i t13 fun t14 => pCond t14 (pIadr w a i fun t19 => pLoad true w t19 H fun t20 => pIadr w b i fun t23 => pLoad true w t23 H fun t24 => (PR n AV).call tb (.fn g [] []) [t20, t24] H fun t25 H => pUn .not t25 fun t26 => pCond t26 (k (.sc (.bool false)) H) (pBin .add i (.sc (.int .i64 1)) fun t16 => L k m a b t16 H)) (k (.sc (.bool true)) H))
  (hF : ∀ a b H k, evalFn E0 (n + 1) AV f [a, b] H k = pLen a fun t7 => pLen b fun t9 => pBin .neq t7 t9 fun t10 => pCond t10 (k (.sc (.bool false)) H) (L k n a b (.sc (.int .i64 0)) H))
  (l : List α) (heq : ∀ x ∈ l, tree E0 n tb g [.agg (enc x), .agg (enc x)] = some (.sc (.bool true))) (hlen : l.length ≤ 1048576) (hn : 1048576 < n) (tb' : Nat) :
  tree E0 (n + 1) tb' f [.ro l.length (l.map enc).flatten, .ro l.length (l.map enc).flatten] = some (.sc (.bool true)) := by
 rw [tree_def, hF, len_ro, len_ro, neq_nat, cond_b, if_neg (by simp)]
 have key := eq_loop (n := n) (tb := tb) (g := g) enc (fun x H => ownTree ti0 E0.tp tb' H x) hw h0 hfl hh (L fun x H => ownTree ti0 E0.tp tb' H x) (hL fun x H => ownTree ti0 E0.tp tb' H x) l heq hlen [] l [] n (by simp) (by omega)
 simp only [List.length_nil, Int.natCast_zero] at key
 rw [key]
 rfl
theorem eqf_loop {α : Type} {n : Nat} (e : α → Value) (k : AV → Heap → Option β) (hne : ∀ (x : α) (γ : Type) (k : AV → Option γ), pBin .neq (.sc (e x)) (.sc (e x)) k = k (.sc (.bool false))) (L : Nat → AV → AV → AV → Heap → Option β)
  (hL : ∀ m a b i H, L (m + 1) a b i H = pLen a fun t13 => pBin .lss i t13 fun t14 => pCond t14 (pIadr 1 a i fun t19 => pLoad false 1 t19 H fun t20 => pIadr 1 b i fun t23 => pLoad false 1 t23 H fun t24 => pBin .neq t20 t24 fun t25 => pCond t25 (k (.sc (.bool false)) H) (pBin .add i (.sc (.int .i64 1)) fun t16 => L m a b t16 H)) (k (.sc (.bool true)) H))
  (l : List α) (hlen : l.length ≤ 1048576) (H : Heap) : ∀ (r pre : List α) (m : Nat), l = pre ++ r → r.length < m →
   L m (.ro l.length (l.map fun x => .sc (e x))) (.ro l.length (l.map fun x => .sc (e x))) (.sc (.int .i64 pre.length)) H = k (.sc (.bool true)) H
 | [], pre, m + 1, hl, hm => by
  rw [List.append_nil] at hl
  subst hl
  rw [hL, len_ro, lss_nat, cond_b]
  simp
 | x :: r, pre, m + 1, hl, hm => by
  have hlt : pre.length < l.length := by rw [hl]; simp
  rw [hL, len_ro, lss_nat, cond_b, if_pos (by simpa using hlt)]
  have hd : (l.map fun x => AV.sc (e x)).drop (pre.length * 1) = .sc (e x) :: r.map fun x => .sc (e x) := by
   rw [Nat.mul_one, hl, List.map_append, List.drop_append_of_le_length (by simp)]
   rw [show pre.length = (pre.map fun x => AV.sc (e x)).length by simp, List.drop_length]
   rfl
  rw [iadr_ro 1 _ _ pre.length _ hlt (by simpa using hlt), hd, ld1_rp, iadr_ro 1 _ _ pre.length _ hlt (by simpa using hlt), hd, ld1_rp, hne, cond_b, if_neg (by simp), inc_nat _ _ (by omega)]
  have ih := eqf_loop (n := n) e k hne L hL l hlen H r (pre ++ [x]) m (by rw [hl]; simp) (by simpa using hm)
  rw [List.length_append, List.length_singleton] at ih
  exact ih
theorem eq_flat {α : Type} {n f : Nat} (e : α → Value) (hne : ∀ (x : α) (γ : Type) (k : AV → Option γ), pBin .neq (.sc (e x)) (.sc (e x)) k = k (.sc (.bool false))) (L : (AV → Heap → Option AV) → Nat → AV → AV → AV → Heap → Option AV)
  (hL : ∀ k m a b i H, L k (m + 1) a b i H = pLen a fun t13 => pBin .lss i t13 fun t14 => pCond t14 (pIadr 1 a i fun t19 => pLoad false 1 t19 H fun t20 => pIadr 1 b i fun t23 => pLoad false 1 t23 H fun t24 => pBin .neq t20 t24 fun t25 => pCond t25 (k (.sc (.bool false)) H) (pBin .add i (.sc (.int .i64 1)) fun t16 => L k m a b t16 H)) (k (.sc (.bool true)) H))
  (hF : ∀ a b H k, evalFn E0 (n + 1) AV f [a, b] H k = pLen a fun t7 => pLen b fun t9 => pBin .neq t7 t9 fun t10 => pCond t10 (k (.sc (.bool false)) H) (L k n a b (.sc (.int .i64 0)) H))
  (l : List α) (hlen : l.length ≤ 1048576) (hn : 1048576 < n) (tb' : Nat) :
  tree E0 (n + 1) tb' f [.ro l.length (l.map fun x => .sc (e x)), .ro l.length (l.map fun x => .sc (e x))] = some (.sc (.bool true)) := by
 rw [tree_def, hF, len_ro, len_ro, neq_nat, cond_b, if_neg (by simp)]
 have key := eqf_loop (n := n) e (fun x H => ownTree ti0 E0.tp tb' H x) hne (L fun x H => ownTree ti0 E0.tp tb' H x) (hL fun x H => ownTree ti0 E0.tp tb' H x) l hlen [] l [] n (by simp) (by omega)
 simp only [List.length_nil, Int.natCast_zero] at key
 rw [key]
 rfl
def szR (w : Nat) (left : Int) : Int := if left < w then -1 else left - w
def wtL {α : Type} (wt : α → Nat) : List α → Nat
 | [] => 0
 | x :: l => 1 + wt x + wtL wt l
def wtS {α : Type} (wt : α → Nat) : List α → Nat
 | [] => 0
 | x :: l => wt x + wtS wt l
theorem wtL_eq {α : Type} (wt : α → Nat) : ∀ l : List α, wtL wt l = l.length + wtS wt l
 | [] => rfl
 | x :: l => by rw [wtL, wtS, wtL_eq wt l, List.length_cons]; omega
theorem wtS_mem {α : Type} {wt : α → Nat} : ∀ {l : List α} {x : α}, x ∈ l → wt x ≤ wtS wt l
 | y :: l, x, h => by
  rw [wtS]
  rcases List.mem_cons.1 h with rfl | h
  ·omega
  ·have := wtS_mem (wt := wt) h
   omega
theorem sz_loop {α : Type} {n ty g w : Nat} (enc : α → List AV) (wt : α → Nat) (k : AV → Heap → Option β) (hw : ∀ x, (enc x).length = w) (h0 : 0 < w) (hfl : ∀ x, (enc x).all isFl = true) (hh : plainF g = false) (L : Nat → AV → AV → AV → Heap → Option β)
  (hL : ∀ m a l i H, L (m + 1) a l i H = pLen a fun t14 => pBin .lss i t14 fun t15 => pCond t15 (pIadr w a i fun t20 => pLoad true w t20 H fun t21 => (PR n β).call ty (.fn g [] []) [t21, l] H fun t23 H => pBin .lss t23 (.sc (.int .i64 0)) fun t25 => pCond t25 (k (.sc (.int .i64 (-1))) H) (pBin .add i (.sc (.int .i64 1)) fun t17 => L m a t23 t17 H)) (k l H))
  (l : List α) (hsz : ∀ x ∈ l, ∀ left : Int, 0 ≤ left → left ≤ 1048576 → tree E0 n ty g [.agg (enc x), .sc (.int .i64 left)] = some (.sc (.int .i64 (szR (wt x) left)))) (hlen : l.length ≤ 1048576) (H : Heap) : ∀ (r pre : List α) (m : Nat) (left : Int), 0 ≤ left → left ≤ 1048576 → l = pre ++ r → r.length < m →
   L m (.ro l.length (l.map enc).flatten) (.sc (.int .i64 left)) (.sc (.int .i64 pre.length)) H = k (.sc (.int .i64 (szR (wtS wt r) left))) H
 | [], pre, m + 1, left, hl0, hl1, hl, hm => by
  rw [List.append_nil] at hl
  subst hl
  rw [hL, len_ro, lss_nat, cond_b]
  have : szR (wtS wt []) left = left := by simp [szR, wtS]; omega
  rw [this]
  simp
 | x :: r, pre, m + 1, left, hl0, hl1, hl, hm => by
  have hlt : pre.length < l.length := by rw [hl]; simp
  rw [hL, len_ro, lss_nat, cond_b, if_pos (by simpa using hlt)]
  have hel := fun k => el_ro (β := β) hw h0 pre x r k
  rw [← hl] at hel
  rw [hel, ld_rp w _ _ _ _ (hw x)]
  rw [PR_call (vs := [.agg (enc x), .sc (.int .i64 left)]) hh (by simp only [List.mapM_cons, (Vw_agg _ (hfl x)).now]; rfl) (hsz x (by rw [hl]; simp) left hl0 hl1)]
  rw [instT_sc]
  simp only [List.append_nil]
  rw [lss64, cond_b]
  by_cases hs : left < wt x
  ·have e1 : szR (wt x) left = -1 := by simp [szR, hs]
   have e2 : szR (wtS wt (x :: r)) left = -1 := by
    rw [wtS, szR, if_pos]; omega
   rw [e1, e2]
   simp
  ·have e1 : szR (wt x) left = left - wt x := by simp [szR, hs]
   have e2 : szR (wtS wt (x :: r)) left = szR (wtS wt r) (left - wt x) := by
    unfold szR
    rw [wtS]
    by_cases h : left < ((wt x + wtS wt r : Nat) : Int)
    ·rw [if_pos h, if_pos (by omega)]
    ·rw [if_neg h, if_neg (by omega)]; omega
   rw [e1, e2, if_neg (by simp; omega), inc_nat _ _ (by omega)]
   have ih := sz_loop enc wt k hw h0 hfl hh L hL l hsz hlen H r (pre ++ [x]) m (left - wt x) (by omega) (by omega) (by rw [hl]; simp) (by simpa using hm)
   rw [List.length_append, List.length_singleton] at ih
   exact ih
theorem sz_slice {α : Type} {n ty f g w : Nat} (enc : α → List AV) (wt : α → Nat) (hw : ∀ x, (enc x).length = w) (h0 : 0 < w) (hfl : ∀ x, (enc x).all isFl = true) (hh : plainF g = false) (L : (AV → Heap → Option AV) → Nat → AV → AV → AV → Heap → Option AV)
  (hL : ∀ k m a l i H, L k (m + 1) a l i H = pLen a fun t14 => pBin .lss i t14 fun t15 => pCond t15 (pIadr w a i fun t20 => pLoad true w t20 H fun t21 => (PR n AV).call ty (.fn g [] []) [t21, l] H fun t23 H => pBin .lss t23 (.sc (.int .i64 0)) fun t25 => pCond t25 (k (.sc (.int .i64 (-1))) H) (pBin .add i (.sc (.int .i64 1)) fun t17 => L k m a t23 t17 H)) (k l H))
  (hF : ∀ a b H k, evalFn E0 (n + 1) AV f [a, b] H k = pLen a fun t8 => pBin .sub b t8 fun t9 => pBin .lss t9 (.sc (.int .i64 0)) fun t11 => pCond t11 (k (.sc (.int .i64 (-1))) H) (L k n a t9 (.sc (.int .i64 0)) H))
  (l : List α) (hsz : ∀ x ∈ l, ∀ left : Int, 0 ≤ left → left ≤ 1048576 → tree E0 n ty g [.agg (enc x), .sc (.int .i64 left)] = some (.sc (.int .i64 (szR (wt x) left)))) (hmax : l.length ≤ 9223372036854775807) (hn : 1048576 < n) (left : Int) (hl0 : 0 ≤ left) (hl1 : left ≤ 1048576) (ty' : Nat) :
  tree E0 (n + 1) ty' f [.ro l.length (l.map enc).flatten, .sc (.int .i64 left)] = some (.sc (.int .i64 (szR (wtL wt l) left))) := by
 rw [tree_def, hF, len_ro, sub64 _ _ _ (by omega) (by omega), lss64, cond_b]
 by_cases h : left - (l.length : Int) < 0
 ·have e : szR (wtL wt l) left = -1 := by rw [wtL_eq, szR, if_pos]; omega
  rw [if_pos (by simpa using h), e]
  rfl
 ·have e : szR (wtL wt l) left = szR (wtS wt l) (left - l.length) := by
   rw [wtL_eq]
   unfold szR
   by_cases h : left < ((l.length + wtS wt l : Nat) : Int)
   ·rw [if_pos h, if_pos (by omega)]
   ·rw [if_neg h, if_neg (by omega)]; omega
  rw [if_neg (by simpa using h), e]
  have key := sz_loop (n := n) (ty := ty) (g := g) enc wt (fun x H => ownTree ti0 E0.tp ty' H x) hw h0 hfl hh (L fun x H => ownTree ti0 E0.tp ty' H x) (hL fun x H => ownTree ti0 E0.tp ty' H x) l hsz (by omega) [] l [] n (left - l.length) (by omega) (by omega) (by simp) (by omega)
  simp only [List.length_nil, Int.natCast_zero] at key
  rw [key]
  rfl
theorem sz_len {n f : Nat} (hF : ∀ a b H k, evalFn E0 (n + 1) AV f [a, b] H k = pLen a fun t8 => pBin .sub b t8 fun t9 => pBin .lss t9 (.sc (.int .i64 0)) fun t11 => pCond t11 (k (.sc (.int .i64 (-1))) H) (k t9 H))
  (len : Nat) (cells : List AV) (hmax : len ≤ 9223372036854775807) (left : Int) (hl0 : 0 ≤ left) (hl1 : left ≤ 1048576) (ty' : Nat) :
  tree E0 (n + 1) ty' f [.ro len cells, .sc (.int .i64 left)] = some (.sc (.int .i64 (szR len left))) := by
 rw [tree_def, hF, len_ro, sub64 _ _ _ (by omega) (by omega), lss64, cond_b]
 by_cases h : left - (len : Int) < 0
 ·have e : szR len left = -1 := by rw [szR, if_pos]; omega
  rw [if_pos (by simpa using h), e]
  rfl
 ·have e : szR len left = left - len := by rw [szR, if_neg]; omega
  rw [if_neg (by simpa using h), e]
  rfl
end ops
end Go.Proofs.YtdameggfgnpehaaGreatDoor.Abs
set_option linter.unusedVariables false
set_option linter.unusedSimpArgs false
namespace Go.Proofs.YtdameggfgnpehaaGreatDoor.Abs
open Go
variable {β : Type} {n : Nat}
theorem box_fl (cs : List AV) (H : Heap) (k : AV → Heap → Option β) (h : cs.all isFl = true) : pBox (.agg cs) H k = k (.ptr H.length 0) (H ++ [⟨cs, true, true⟩]) := by
 rw [pBox, fl_cells h]
 rfl
theorem ldT {m id off : Nat} {H : Heap} {cs : List AV} (h : rdCells H id off m = some cs) (k : AV → Option β) : pLoad true m (.ptr id off) H k = k (.agg cs) := by
 simp only [pLoad, h, Option.bind_some, if_true]
theorem ldF {id off : Nat} {H : Heap} {c : AV} (h : rdCells H id off 1 = some [c]) (k : AV → Option β) : pLoad false 1 (.ptr id off) H k = k c := by
 simp only [pLoad, h, Option.bind_some, Bool.false_eq_true, if_false, one]
noncomputable def FrB (b0 b1 : Blk) (ts : List Nat) (cs z : List AV) : Heap := b0 :: b1 :: ⟨(instL ti0 E0.tp 3 ts cs).1 ++ z, true, true⟩ :: (instL ti0 E0.tp 3 ts cs).2
theorem fr_put {b0 b1 : Blk} {ts : List Nat} {cs z0 z : List AV} {w o : Nat} {y : AV} {ys : List AV} {B : List Blk} {ts' : List Nat} {cs' : List AV} (hl : ts.length = cs.length) (ho : o = cs.length) (hw : z0.length = w) (hc : cellsA y = some ys) (hy : ys.length = w)
  (hB : instL ti0 E0.tp (3 + (instL ti0 E0.tp 3 ts cs).2.length) ts' cs' = (ys, B)) (K : Heap → Option β) :
  pStore w (.ptr 2 o) y (FrB b0 b1 ts cs (z0 ++ z) ++ B) K = K (FrB b0 b1 (ts ++ ts') (cs ++ cs') z) := by
 have hP : (instL ti0 E0.tp 3 ts cs).1.length = cs.length := instL_len _ _ _
 rw [st_at w 2 o y ⟨(instL ti0 E0.tp 3 ts cs).1 ++ (z0 ++ z), true, true⟩ ys _ _ rfl hc hy (by simp [hP, ho, hw]) rfl]
 congr 1
 have hs : splice ((instL ti0 E0.tp 3 ts cs).1 ++ (z0 ++ z)) o ys = (instL ti0 E0.tp 3 ts cs).1 ++ (ys ++ z) := by
  rw [ho, ← hP]
  exact splice_mid _ _ _ _ (by rw [hw, hy])
 simp only [FrB, List.cons_append, List.set_cons_succ, List.set_cons_zero, hs, instL_append ts cs ts' cs' 3 hl, hB, List.append_assoc]
theorem to_sc {b0 b1 : Blk} {ts : List Nat} {cs z z' : List AV} {o : Nat} {t : Nat} {v : Value} {c : AV} {K : Heap → Option β} {r : Option β} (hr : rdCells (FrB b0 b1 ts cs z) 0 o 1 = some [.sc v]) (hv : leafV v = true) (hl : ts.length = cs.length) (ho : o = cs.length) (hz : z = c :: z')
  (h : K (FrB b0 b1 (ts ++ [t]) (cs ++ [.sc v]) z') = r) :
  (pFadr o (.ptr 0 0) fun t4 => pLoad false 1 t4 (FrB b0 b1 ts cs z) fun t5 => pFadr o (.ptr 2 0) fun t6 => pStore 1 t6 t5 (FrB b0 b1 ts cs z) fun H => K H) = r := by
 subst hz
 simp only [pFadr, Nat.zero_add]
 rw [ldF hr]
 have := fr_put (β := β) (b0 := b0) (b1 := b1) (ts := ts) (cs := cs) (z0 := [c]) (z := z') (w := 1) (o := o) (y := .sc v) (ys := [.sc v]) (B := []) (ts' := [t]) (cs' := [.sc v]) hl ho rfl (by simp only [cellsA, isLeaf, hv, if_true]) rfl (by simp [instL, instT]) K
 rw [List.append_nil] at this
 exact this.trans h
theorem to_ro {b0 b1 : Blk} {ts : List Nat} {cs z z' : List AV} {o t g len : Nat} {c : AV} {cells : List AV} {K : Heap → Option β} {r : Option β} (hr : rdCells (FrB b0 b1 ts cs z) 0 o 1 = some [.ro len cells]) (hh : plainF g = false) (ht : tree E0 n t g [.ro len cells] = some (.ro len cells)) (hl : ts.length = cs.length) (ho : o = cs.length) (hz : z = c :: z')
  (h : K (FrB b0 b1 (ts ++ [t]) (cs ++ [.ro len cells]) z') = r) :
  (pFadr o (.ptr 0 0) fun t4 => pLoad false 1 t4 (FrB b0 b1 ts cs z) fun t5 => (PR n β).call t (.fn g [] []) [t5] (FrB b0 b1 ts cs z) fun t9 H => pFadr o (.ptr 2 0) fun t6 => pStore 1 t6 t9 H fun H => K H) = r := by
 subst hz
 simp only [pFadr, Nat.zero_add]
 rw [ldF hr, PR_call (vs := [.ro len cells]) hh (by simp only [List.mapM_cons, viewV_ro]; rfl) ht]
 have hH : (FrB b0 b1 ts cs (c :: z')).length = 3 + (instL ti0 E0.tp 3 ts cs).2.length := by simp [FrB]; omega
 rw [hH]
 have hi : ∀ N, ∃ s : AV, isLeaf s = true ∧ (instT ti0 E0.tp N t (.ro len cells)).1 = s ∧ cellsA s = some [s] := fun N => by
  refine ⟨_, ?_, rfl, ?_⟩ <;> simp [instT, isLeaf, cellsA]
 obtain ⟨s, _, hs, hc⟩ := hi (3 + (instL ti0 E0.tp 3 ts cs).2.length)
 have := fr_put (β := β) (b0 := b0) (b1 := b1) (ts := ts) (cs := cs) (z0 := [c]) (z := z') (w := 1) (o := o) (y := s) (ys := [s]) (ts' := [t]) (cs' := [.ro len cells]) (B := (instT ti0 E0.tp (3 + (instL ti0 E0.tp 3 ts cs).2.length) t (.ro len cells)).2) hl ho rfl hc rfl (by simp only [instL, List.headD_cons, List.append_nil, hs]) K
 rw [hs]
 exact this.trans h
theorem to_agg {b0 b1 : Blk} {ts cty : List Nat} {cs z z0 z' : List AV} {o t g w : Nat} {cells : List AV} {K : Heap → Option β} {r : Option β} (hr : rdCells (FrB b0 b1 ts cs z) 0 o w = some cells) (hh : plainF g = false) (hfl : cells.all isFl = true) (ht : tree E0 n t g [.agg cells] = some (.agg cells)) (hty : ∃ i, ti0 t = some i ∧ i.cty = cty) (hw : cells.length = w) (hl : ts.length = cs.length) (ho : o = cs.length) (hz : z = z0 ++ z') (hz0 : z0.length = w)
  (h : K (FrB b0 b1 (ts ++ cty) (cs ++ cells) z') = r) :
  (pFadr o (.ptr 0 0) fun t4 => pLoad true w t4 (FrB b0 b1 ts cs z) fun t5 => (PR n β).call t (.fn g [] []) [t5] (FrB b0 b1 ts cs z) fun t9 H => pFadr o (.ptr 2 0) fun t6 => pStore w t6 t9 H fun H => K H) = r := by
 subst hz
 obtain ⟨i, hi, rfl⟩ := hty
 simp only [pFadr, Nat.zero_add]
 rw [ldT hr, PR_call (vs := [.agg cells]) hh (by rw [List.mapM_cons, (Vw_agg _ hfl).now]; rfl) ht]
 have hH : (FrB b0 b1 ts cs (z0 ++ z')).length = 3 + (instL ti0 E0.tp 3 ts cs).2.length := by simp [FrB]; omega
 rw [hH, instT_agg, hi, Option.getD_some]
 have hleaf := instL_leaf (ti := ti0) (tp := E0.tp) cells (3 + (instL ti0 E0.tp 3 ts cs).2.length) i.cty hfl
 have hlen := instL_len (ti := ti0) (tp := E0.tp) (3 + (instL ti0 E0.tp 3 ts cs).2.length) i.cty cells
 have := fr_put (β := β) (b0 := b0) (b1 := b1) (ts := ts) (cs := cs) (z0 := z0) (z := z') (w := w) (o := o) (y := .agg (instL ti0 E0.tp (3 + (instL ti0 E0.tp 3 ts cs).2.length) i.cty cells).1) (ys := (instL ti0 E0.tp (3 + (instL ti0 E0.tp 3 ts cs).2.length) i.cty cells).1) (ts' := i.cty) (cs' := cells) (B := (instL ti0 E0.tp (3 + (instL ti0 E0.tp 3 ts cs).2.length) i.cty cells).2) hl ho hz0 (by
  show (if _ then _ else none) = _
  rw [if_pos hleaf]) (by rw [hlen, hw]) rfl K
 exact this.trans h
theorem to_end {b0 : Blk} {z1 cells : List AV} {cty : List Nat} {w ty : Nat} (hw : cells.length = w) (hz : z1.length = w) (hfl : cells.all isFl = true) (hty : ∃ i, ti0 ty = some i ∧ i.cty = cty) (hok : okLW (okW ti0 E0.tp 7) cty cells) :
  (pLoad true w (.ptr 2 0) (FrB b0 ⟨z1, true, true⟩ cty cells []) fun t14 => pStore w (.ptr 1 0) t14 (FrB b0 ⟨z1, true, true⟩ cty cells []) fun H => pLoad true w (.ptr 1 0) H fun r0 => ownTree ti0 E0.tp ty H r0) = some (.agg cells) := by
 obtain ⟨i, hi, rfl⟩ := hty
 have hlen := instL_len (ti := ti0) (tp := E0.tp) 3 i.cty cells
 have hleaf := instL_leaf (ti := ti0) (tp := E0.tp) cells 3 i.cty hfl
 have h1 : rdCells (FrB b0 ⟨z1, true, true⟩ i.cty cells []) 2 0 w = some (instL ti0 E0.tp 3 i.cty cells).1 := by
  simp [rdCells, FrB, hlen, hw, List.take_of_length_le]
 rw [ldT h1]
 have hc : cellsA (.agg (instL ti0 E0.tp 3 i.cty cells).1) = some (instL ti0 E0.tp 3 i.cty cells).1 := by
  show (if _ then _ else none) = _
  rw [if_pos hleaf]
 rw [st_at w 1 0 _ ⟨z1, true, true⟩ _ _ _ rfl hc (by rw [hlen, hw]) (by simp [hz]) rfl]
 have hs : splice z1 0 (instL ti0 E0.tp 3 i.cty cells).1 = (instL ti0 E0.tp 3 i.cty cells).1 := by
  unfold splice
  rw [List.take_zero, List.nil_append, List.drop_of_length_le (by rw [hlen, hw, hz]; omega), List.append_nil]
 simp only [hs]
 have h2 : rdCells ((FrB b0 ⟨z1, true, true⟩ i.cty cells []).set 1 ⟨(instL ti0 E0.tp 3 i.cty cells).1, true, true⟩) 1 0 w = some (instL ti0 E0.tp 3 i.cty cells).1 := by
  simp [rdCells, FrB, hlen, hw, List.take_of_length_le]
 rw [ldT h2]
 have hok' : okW ti0 E0.tp 8 ty (.agg cells) := ⟨i, hi, hok⟩
 have := own_ret [b0, ⟨(instL ti0 E0.tp 3 i.cty cells).1, true, true⟩, ⟨(instL ti0 E0.tp 3 i.cty cells).1 ++ [], true, true⟩] ty _ hok'
 rw [instT_agg, hi] at this
 exact this
noncomputable def StB (T : List Nat) (C Z : List AV) (o : Nat) : Heap := FrB ⟨C, true, true⟩ ⟨Z, true, true⟩ (T.take o) (C.take o) (Z.drop o)
theorem StB_rd {T : List Nat} {C Z : List AV} {o p w : Nat} {cs : List AV} (h : (C.drop p).take w = cs) (hl : cs.length = w) (hw : 0 < w) : rdCells (StB T C Z o) 0 p w = some cs := by
 have hle : p + w ≤ C.length := by
  have := congrArg List.length h
  rw [hl, List.length_take, List.length_drop] at this
  omega
 show (match (some ⟨C, true, true⟩ : Option Blk) with | some b => if b.live then (if p + w ≤ b.cells.length then some ((b.cells.drop p).take w) else none) else none | none => none) = _
 simp only [if_true, hle, h]
theorem one_of {C : List AV} {o : Nat} {c : AV} (h : C[o]? = some c) : (C.drop o).take 1 = [c] := by
 obtain ⟨hlt, e⟩ := List.getElem?_eq_some_iff.1 h
 rw [List.drop_eq_getElem_cons hlt, e]
 rfl
theorem take_w {α : Type} {T : List α} {o w o' : Nat} {c : List α} (h : (T.drop o).take w = c) (ho : o' = o + w) : T.take o' = T.take o ++ c := by
 rw [ho, List.take_add, h]
theorem st_sc {T : List Nat} {C Z : List AV} {o o' : Nat} {v : Value} {K : Heap → Option β} {r : Option β} (hT : T.length = C.length) (hZ : Z.length = C.length) (hC : C[o]? = some (.sc v)) (hv : leafV v = true) (ho : o' = o + 1) (h : K (StB T C Z o') = r) :
  (pFadr o (.ptr 0 0) fun t4 => pLoad false 1 t4 (StB T C Z o) fun t5 => pFadr o (.ptr 2 0) fun t6 => pStore 1 t6 t5 (StB T C Z o) fun H => K H) = r := by
 obtain ⟨hlt, _⟩ := List.getElem?_eq_some_iff.1 hC
 have hz : Z.drop o = Z[o]'(by omega) :: Z.drop o' := by rw [ho]; exact List.drop_eq_getElem_cons _
 refine to_sc (t := T[o]'(by omega)) (z' := Z.drop o') (StB_rd (one_of hC) rfl (by decide)) hv (by simp [hT]) (by simp; omega) hz ?_
 have e1 : T.take o' = T.take o ++ [T[o]'(by omega)] := take_w (w := 1) (by rw [List.drop_eq_getElem_cons (by omega)]; rfl) ho
 have e2 : C.take o' = C.take o ++ [.sc v] := take_w (one_of hC) ho
 rw [← e1, ← e2]
 exact h
theorem st_ro {T : List Nat} {C Z : List AV} {o o' t g len : Nat} {cells : List AV} {K : Heap → Option β} {r : Option β} (hT : T.length = C.length) (hZ : Z.length = C.length) (hC : C[o]? = some (.ro len cells)) (hTt : T[o]? = some t) (hh : plainF g = false) (ht : tree E0 n t g [.ro len cells] = some (.ro len cells)) (ho : o' = o + 1) (h : K (StB T C Z o') = r) :
  (pFadr o (.ptr 0 0) fun t4 => pLoad false 1 t4 (StB T C Z o) fun t5 => (PR n β).call t (.fn g [] []) [t5] (StB T C Z o) fun t9 H => pFadr o (.ptr 2 0) fun t6 => pStore 1 t6 t9 H fun H => K H) = r := by
 obtain ⟨hlt, _⟩ := List.getElem?_eq_some_iff.1 hC
 obtain ⟨hlt2, hTe⟩ := List.getElem?_eq_some_iff.1 hTt
 have hz : Z.drop o = Z[o]'(by omega) :: Z.drop o' := by rw [ho]; exact List.drop_eq_getElem_cons _
 refine to_ro (z' := Z.drop o') (StB_rd (one_of hC) rfl (by decide)) hh ht (by simp [hT]) (by simp; omega) hz ?_
 have e1 : T.take o' = T.take o ++ [t] := take_w (w := 1) (by rw [List.drop_eq_getElem_cons hlt2, hTe]; rfl) ho
 have e2 : C.take o' = C.take o ++ [.ro len cells] := take_w (one_of hC) ho
 rw [← e1, ← e2]
 exact h
theorem st_agg {T cty : List Nat} {C Z : List AV} {o o' t g w : Nat} {cells : List AV} {K : Heap → Option β} {r : Option β} (hT : T.length = C.length) (hZ : Z.length = C.length) (hC : (C.drop o).take w = cells) (hTt : (T.drop o).take w = cty) (hh : plainF g = false) (hfl : cells.all isFl = true) (ht : tree E0 n t g [.agg cells] = some (.agg cells)) (hty : ∃ i, ti0 t = some i ∧ i.cty = cty) (hw : cells.length = w) (hw0 : 0 < w) (ho : o' = o + w) (h : K (StB T C Z o') = r) :
  (pFadr o (.ptr 0 0) fun t4 => pLoad true w t4 (StB T C Z o) fun t5 => (PR n β).call t (.fn g [] []) [t5] (StB T C Z o) fun t9 H => pFadr o (.ptr 2 0) fun t6 => pStore w t6 t9 H fun H => K H) = r := by
 have hle : o + w ≤ C.length := by
  have := congrArg List.length hC
  rw [hw, List.length_take, List.length_drop] at this
  omega
 have hz : Z.drop o = (Z.drop o).take w ++ Z.drop o' := by
  rw [ho]
  conv => lhs; rw [← List.take_append_drop w (Z.drop o)]
  rw [List.drop_drop]
 refine to_agg (z0 := (Z.drop o).take w) (z' := Z.drop o') (StB_rd hC hw hw0) hh hfl ht hty hw (by simp [hT]) (by simp; omega) hz (by simp; omega) ?_
 have e1 : T.take o' = T.take o ++ cty := take_w hTt ho
 have e2 : C.take o' = C.take o ++ cells := take_w hC ho
 rw [← e1, ← e2]
 exact h
theorem st_end {T : List Nat} {C Z : List AV} {w ty : Nat} (hT : T.length = C.length) (hZ : Z.length = C.length) (hw : C.length = w) (hfl : C.all isFl = true) (hty : ∃ i, ti0 ty = some i ∧ i.cty = T) (hok : okLW (okW ti0 E0.tp 7) T C) :
  (pLoad true w (.ptr 2 0) (StB T C Z w) fun t14 => pStore w (.ptr 1 0) t14 (StB T C Z w) fun H => pLoad true w (.ptr 1 0) H fun r0 => ownTree ti0 E0.tp ty H r0) = some (.agg C) := by
 have e : StB T C Z w = FrB ⟨C, true, true⟩ ⟨Z, true, true⟩ T C [] := by
  unfold StB
  rw [List.take_of_length_le (by omega), List.take_of_length_le (by omega), List.drop_of_length_le (by omega)]
 rw [e]
 exact to_end hw (by omega) hfl hty hok
theorem eq_sc {o : Nat} {H : Heap} {v : Value} {A K r : Option β} (h0 : rdCells H 0 o 1 = some [.sc v]) (h1 : rdCells H 1 o 1 = some [.sc v]) (hv : ∀ k : AV → Option β, pBin .neq (.sc v) (.sc v) k = k (.sc (.bool false))) (h : K = r) :
  (pFadr o (.ptr 0 0) fun t5 => pLoad false 1 t5 H fun t6 => pFadr o (.ptr 1 0) fun t7 => pLoad false 1 t7 H fun t8 => pBin .neq t6 t8 fun t9 => pCond t9 A K) = r := by
 simp only [pFadr, Nat.zero_add]
 rw [ldF h0, ldF h1, hv, cond_b]
 exact h
theorem eq_b {o : Nat} {H : Heap} {b : Bool} {A K r : Option β} (h0 : rdCells H 0 o 1 = some [.sc (.bool b)]) (h1 : rdCells H 1 o 1 = some [.sc (.bool b)]) (h : K = r) :
  (pFadr o (.ptr 0 0) fun t5 => pLoad false 1 t5 H fun t6 => pFadr o (.ptr 1 0) fun t7 => pLoad false 1 t7 H fun t8 => pBinB .neq t6 t8 fun t9 => pCond t9 A K) = r := by
 simp only [pFadr, Nat.zero_add]
 rw [ldF h0, ldF h1]
 simp only [pBinB, asB, Option.bind_some, binB, beq_self_eq_true, Bool.not_true]
 exact h
theorem eq_ro {o tb g : Nat} {H : Heap} {len : Nat} {cells : List AV} {A : Heap → Option β} {K : Heap → Option β} {r : Option β} (h0 : rdCells H 0 o 1 = some [.ro len cells]) (h1 : rdCells H 1 o 1 = some [.ro len cells]) (hh : plainF g = false) (ht : tree E0 n tb g [.ro len cells, .ro len cells] = some (.sc (.bool true))) (h : K H = r) :
  (pFadr o (.ptr 0 0) fun t5 => pLoad false 1 t5 H fun t6 => pFadr o (.ptr 1 0) fun t7 => pLoad false 1 t7 H fun t8 => (PR n β).call tb (.fn g [] []) [t6, t8] H fun t H => pUn .not t fun t9 => pCond t9 (A H) (K H)) = r := by
 simp only [pFadr, Nat.zero_add]
 rw [ldF h0, ldF h1, PR_call (vs := [.ro len cells, .ro len cells]) hh (by simp only [List.mapM_cons, viewV_ro]; rfl) ht, instT_sc, List.append_nil]
 exact h
theorem eq_agg {o tb g w : Nat} {H : Heap} {cells : List AV} {A : Heap → Option β} {K : Heap → Option β} {r : Option β} (h0 : rdCells H 0 o w = some cells) (h1 : rdCells H 1 o w = some cells) (hh : plainF g = false) (hfl : cells.all isFl = true) (ht : tree E0 n tb g [.agg cells, .agg cells] = some (.sc (.bool true))) (h : K H = r) :
  (pFadr o (.ptr 0 0) fun t5 => pLoad true w t5 H fun t6 => pFadr o (.ptr 1 0) fun t7 => pLoad true w t7 H fun t8 => (PR n β).call tb (.fn g [] []) [t6, t8] H fun t H => pUn .not t fun t9 => pCond t9 (A H) (K H)) = r := by
 simp only [pFadr, Nat.zero_add]
 rw [ldT h0, ldT h1, PR_call (vs := [.agg cells, .agg cells]) hh (by simp only [List.mapM_cons, (Vw_agg _ hfl).now]; rfl) ht, instT_sc, List.append_nil]
 exact h
theorem ne_int (z : Int) (k : AV → Option β) : pBin .neq (.sc (.int .i64 z)) (.sc (.int .i64 z)) k = k (.sc (.bool false)) := by
 show k (.sc (.bool (z != z))) = _
 rw [bne_self_eq_false]
theorem ne_str (s : ByteArray) (k : AV → Option β) : pBin .neq (.sc (.string s)) (.sc (.string s)) k = k (.sc (.bool false)) := by
 show k (.sc (.bool (!(s.toList == s.toList)))) = _
 rw [beq_self_eq_true, Bool.not_true]
theorem ne_u8 (z : Int) (k : AV → Option β) : pBin .neq (.sc (.int .u8 z)) (.sc (.int .u8 z)) k = k (.sc (.bool false)) := by
 show k (.sc (.bool (z != z))) = _
 rw [bne_self_eq_false]
def szA (W : Nat) (left : Int) : Option AV := some (.sc (.int .i64 (szR W left)))
theorem szR_cut {s W : Nat} {left : Int} (h : left < s) : szR (s + W) left = -1 := by rw [szR, if_pos]; omega
theorem szR_go {s W : Nat} {left : Int} (h : ¬ left < s) : szR (s + W) left = szR W (left - s) := by
 unfold szR
 by_cases h2 : left < ((s + W : Nat) : Int)
 ·rw [if_pos h2, if_pos (by omega)]
 ·rw [if_neg h2, if_neg (by omega)]; omega
theorem sz_str {o : Nat} {H : Heap} {s : ByteArray} {W : Nat} {left : Int} {A : Option AV} {K : AV → Option AV} (hr : rdCells H 0 o 1 = some [.sc (.string s)]) (h0 : 0 ≤ left) (h1 : left ≤ 1048576) (hs : s.size ≤ 9223372036854775807) (hA : A = some (.sc (.int .i64 (-1)))) (hK : 0 ≤ left - s.size → left - s.size ≤ 1048576 → K (.sc (.int .i64 (left - s.size))) = szA W (left - s.size)) :
  (pFadr o (.ptr 0 0) fun t6 => pLoad false 1 t6 H fun t7 => pLenS t7 fun t8 => pBin .sub (.sc (.int .i64 left)) t8 fun t9 => pBin .lss t9 (.sc (.int .i64 0)) fun t11 => pCond t11 A (K t9)) = szA (s.size + W) left := by
 simp only [pFadr, Nat.zero_add]
 rw [ldF hr]
 simp only [pLenS, asS, Option.bind_some]
 rw [sub64 _ _ _ (by omega) (by omega), lss64, cond_b]
 by_cases h : left < s.size
 ·rw [if_pos (by simpa using (show left - (s.size : Int) < 0 by omega)), hA, szA, szR_cut h]
 ·rw [if_neg (by simpa using (show ¬ left - (s.size : Int) < 0 by omega)), hK (by omega) (by omega), szA, szA, szR_go h]
theorem sz_ro {o ty g : Nat} {H : Heap} {len : Nat} {cells : List AV} {w W : Nat} {left : Int} {A : Heap → Option AV} {K : AV → Heap → Option AV} (hr : rdCells H 0 o 1 = some [.ro len cells]) (h0 : 0 ≤ left) (h1 : left ≤ 1048576) (hh : plainF g = false) (ht : tree E0 n ty g [.ro len cells, .sc (.int .i64 left)] = some (.sc (.int .i64 (szR w left)))) (hA : A H = some (.sc (.int .i64 (-1)))) (hK : 0 ≤ left - w → left - w ≤ 1048576 → K (.sc (.int .i64 (left - w))) H = szA W (left - w)) :
  (pFadr o (.ptr 0 0) fun t6 => pLoad false 1 t6 H fun t7 => (PR n AV).call ty (.fn g [] []) [t7, .sc (.int .i64 left)] H fun t15 H => pBin .lss t15 (.sc (.int .i64 0)) fun t11 => pCond t11 (A H) (K t15 H)) = szA (w + W) left := by
 simp only [pFadr, Nat.zero_add]
 rw [ldF hr, PR_call (vs := [.ro len cells, .sc (.int .i64 left)]) hh (by simp only [List.mapM_cons, viewV_ro, viewV_sc]; rfl) ht, instT_sc, List.append_nil]
 simp only
 rw [lss64, cond_b]
 by_cases h : left < w
 ·have e : szR w left = -1 := by rw [szR, if_pos h]
  rw [e, if_pos (by decide), hA, szA, szR_cut h]
 ·have e : szR w left = left - w := by rw [szR, if_neg h]
  rw [e, if_neg (by simpa using (show ¬ left - (w : Int) < 0 by omega)), hK (by omega) (by omega), szA, szA, szR_go h]
theorem sz_agg {o ty g wd : Nat} {H : Heap} {cells : List AV} {w W : Nat} {left : Int} {A : Heap → Option AV} {K : AV → Heap → Option AV} (hr : rdCells H 0 o wd = some cells) (h0 : 0 ≤ left) (h1 : left ≤ 1048576) (hh : plainF g = false) (hfl : cells.all isFl = true) (ht : tree E0 n ty g [.agg cells, .sc (.int .i64 left)] = some (.sc (.int .i64 (szR w left)))) (hA : A H = some (.sc (.int .i64 (-1)))) (hK : 0 ≤ left - w → left - w ≤ 1048576 → K (.sc (.int .i64 (left - w))) H = szA W (left - w)) :
  (pFadr o (.ptr 0 0) fun t6 => pLoad true wd t6 H fun t7 => (PR n AV).call ty (.fn g [] []) [t7, .sc (.int .i64 left)] H fun t15 H => pBin .lss t15 (.sc (.int .i64 0)) fun t11 => pCond t11 (A H) (K t15 H)) = szA (w + W) left := by
 simp only [pFadr, Nat.zero_add]
 rw [ldT hr, PR_call (vs := [.agg cells, .sc (.int .i64 left)]) hh (by simp only [List.mapM_cons, (Vw_agg _ hfl).now, viewV_sc]; rfl) ht, instT_sc, List.append_nil]
 simp only
 rw [lss64, cond_b]
 by_cases h : left < w
 ·have e : szR w left = -1 := by rw [szR, if_pos h]
  rw [e, if_pos (by decide), hA, szA, szR_cut h]
 ·have e : szR w left = left - w := by rw [szR, if_neg h]
  rw [e, if_neg (by simpa using (show ¬ left - (w : Int) < 0 by omega)), hK (by omega) (by omega), szA, szA, szR_go h]
theorem sz_end {left : Int} (h0 : 0 ≤ left) : some (AV.sc (.int .i64 left)) = szA 0 left := by
 rw [szA, szR, if_neg (by omega)]
 simp
abbrev bytesC (s : ByteArray) : AV := .ro s.size (bytesAV s)
abbrev intsC (l : List Int) : AV := .ro l.length (l.map fun z => .sc (.int .i64 z))
abbrev strsC (l : List ByteArray) : AV := .ro l.length (l.map fun s => .sc (.string s))
abbrev rowsC {α : Type} (enc : α → List AV) (l : List α) : AV := .ro l.length (l.map enc).flatten
def okI (z : Int) : Prop := -9223372036854775808 ≤ z ∧ z ≤ 9223372036854775807
def okS (s : ByteArray) : Prop := s.size ≤ 9223372036854775807
theorem okLW_flat {f : Nat → AV → Prop} {α : Type} (e : α → Value) (hf : ∀ t v, f t (.sc v)) : ∀ (ts : List Nat) (l : List α), ts.length = l.length → okLW f ts (l.map fun x => .sc (e x))
 | [], [], _ => trivial
 | t :: ts, x :: l, h => ⟨hf _ _, okLW_flat e hf ts l (by simpa using h)⟩
 | [], _ :: _, h => by simp at h
 | _ :: _, [], h => by simp at h
theorem okW_flat {α : Type} {ty d : Nat} (e : α → Value) (hty : ∃ i j, ti0 ty = some i ∧ ti0 i.elem = some j ∧ j.size = 1 ∧ j.cty.length = 1) (l : List α) : okW ti0 E0.tp (d + 2) ty (.ro l.length (l.map fun x => .sc (e x))) := by
 obtain ⟨i, j, h1, h2, h3, h4⟩ := hty
 exact ⟨i, j, h1, h2, by simp [h3], okLW_flat e (fun _ _ => trivial) _ l (by simp [h4])⟩
theorem okW_bytes {d ty : Nat} (hty : ∃ i j, ti0 ty = some i ∧ ti0 i.elem = some j ∧ j.size = 1 ∧ j.cty.length = 1) (s : ByteArray) : okW ti0 E0.tp (d + 2) ty (bytesC s) := by
 have := okW_flat (d := d) (fun b : UInt8 => .int .u8 b.toNat) hty s.data.toList
 have e : s.data.toList.length = s.size := by simp
 rw [e] at this
 exact this
theorem okW_rows {α : Type} {ty d w : Nat} {cty : List Nat} {enc : α → List AV} (hw : ∀ x, (enc x).length = w) (hty : ∃ i j, ti0 ty = some i ∧ ti0 i.elem = some j ∧ j.size = w ∧ j.cty = cty) (he : ∀ x, okLW (okW ti0 E0.tp d) cty (enc x)) (l : List α) : okW ti0 E0.tp (d + 1) ty (rowsC enc l) := by
 obtain ⟨i, j, h1, h2, h3, rfl⟩ := hty
 exact ⟨i, j, h1, h2, by rw [rows_len hw, h3], okLW_rows l fun x _ => he x⟩
theorem okT_rows {α : Type} {enc : α → List AV} {ok : α → Prop} {n t e : Nat} {cs : List AV} (hi : ∃ i, ti0 t = some i ∧ i.isB = false ∧ i.ik = none ∧ i.isStr = false ∧ i.sl = true ∧ i.elem = e) (hel : ∀ n cs, okT ti0 n e cs → ∃ x, cs = enc x ∧ ok x) (h : okT ti0 n t cs) :
  ∃ l : List α, cs = [rowsC enc l] ∧ l.length ≤ 9223372036854775807 ∧ ∀ x ∈ l, ok x := by
 cases n with
 | zero => cases h
 | succ n =>
  obtain ⟨i, h1, h2, h3, h4, h5, rfl⟩ := hi
  obtain ⟨i', hi', h⟩ := h
  rw [h1] at hi'
  obtain rfl := Option.some.inj hi'
  simp only [h2, h3, h4, h5] at h
  obtain ⟨rows, rfl, hl, hr⟩ := h
  have hm : maxLen = 9223372036854775807 := by decide
  rw [hm] at hl
  have key : ∀ rows : List (List AV), (∀ r ∈ rows, okT ti0 n i.elem r) → ∃ l : List α, rows = l.map enc ∧ ∀ x ∈ l, ok x := by
   intro rows
   induction rows with
   | nil => intro _; exact ⟨[], rfl, fun x h => by cases h⟩
   | cons r rows ih =>
    intro h
    obtain ⟨l, h1, h2⟩ := ih fun r hr => h r (List.mem_cons_of_mem _ hr)
    obtain ⟨x, hx, hox⟩ := hel n r (h r List.mem_cons_self)
    exact ⟨x :: l, by rw [h1, hx]; rfl, fun y hy => by rcases List.mem_cons.1 hy with rfl | hy; exact hox; exact h2 y hy⟩
  obtain ⟨l, rfl, h2⟩ := key rows hr
  exact ⟨l, by simp, by simpa using hl, h2⟩
theorem okT_str' {n : Nat} {cs : List AV} (h : okT ti0 n 9 cs) : ∃ s : ByteArray, cs = [.sc (.string s)] ∧ okS s := by
 cases n with
 | zero => cases h
 | succ n =>
  obtain ⟨i, hi, h⟩ := h
  obtain rfl := Option.some.inj (show some _ = some i from hi)
  have hm : maxLen = 9223372036854775807 := by decide
  obtain ⟨s, h1, h2⟩ := (show ∃ s : ByteArray, cs = [.sc (.string s)] ∧ s.size ≤ maxLen from h)
  exact ⟨s, h1, by rw [hm] at h2; exact h2⟩
theorem okT_int' {n : Nat} {cs : List AV} (h : okT ti0 n 3 cs) : ∃ z : Int, cs = [.sc (.int .i64 z)] ∧ okI z := by
 cases n with
 | zero => cases h
 | succ n =>
  obtain ⟨i, hi, h⟩ := h
  obtain rfl := Option.some.inj (show some _ = some i from hi)
  obtain ⟨z, h1, h2⟩ := (show ∃ z, cs = [.sc (.int .i64 z)] ∧ (Lit.int .i64 z).wf = true from h)
  refine ⟨z, h1, ?_⟩
  have hw' : IntKind.i64.min ≤ z ∧ z ≤ IntKind.i64.max := by simpa [Lit.wf] using h2
  have e1 : IntKind.i64.min = -9223372036854775808 := by decide
  have e2 : IntKind.i64.max = 9223372036854775807 := by decide
  rw [e1, e2] at hw'
  exact hw'
theorem okT_bool' {n : Nat} {cs : List AV} (h : okT ti0 n 4 cs) : ∃ b : Bool, cs = [.sc (.bool b)] := by
 cases n with
 | zero => cases h
 | succ n =>
  obtain ⟨i, hi, h⟩ := h
  obtain rfl := Option.some.inj (show some _ = some i from hi)
  exact h
theorem okT_byte' {n : Nat} {cs : List AV} (h : okT ti0 n 5 cs) : ∃ b : UInt8, cs = [.sc (.int .u8 b.toNat)] := by
 cases n with
 | zero => cases h
 | succ n =>
  obtain ⟨i, hi, h⟩ := h
  obtain rfl := Option.some.inj (show some _ = some i from hi)
  obtain ⟨z, rfl, hw⟩ := (show ∃ z, cs = [.sc (.int .u8 z)] ∧ (Lit.int .u8 z).wf = true from h)
  have hz : 0 ≤ z ∧ z < 256 := by
   have hw' : IntKind.u8.min ≤ z ∧ z ≤ IntKind.u8.max := by simpa [Lit.wf] using hw
   have e1 : IntKind.u8.min = 0 := by decide
   have e2 : IntKind.u8.max = 255 := by decide
   rw [e1, e2] at hw'
   omega
  refine ⟨UInt8.ofNat z.toNat, ?_⟩
  have : (UInt8.ofNat z.toNat).toNat = z.toNat := by simp [UInt8.toNat_ofNat']; omega
  rw [this, Int.toNat_of_nonneg hz.1]
theorem flat_one {α : Type} (e : α → AV) (l : List α) : (l.map fun x => [e x]).flatten = l.map e := by
 induction l with
 | nil => rfl
 | cons x l ih => rw [List.map_cons, List.flatten_cons, ih]; rfl
theorem okT_bytes' {n t : Nat} {cs : List AV} (hi : ∃ i, ti0 t = some i ∧ i.isB = false ∧ i.ik = none ∧ i.isStr = false ∧ i.sl = true ∧ i.elem = 5) (h : okT ti0 n t cs) : ∃ s : ByteArray, cs = [bytesC s] ∧ okS s := by
 obtain ⟨l, rfl, h1, _⟩ := okT_rows (α := UInt8) (enc := fun b => [.sc (.int .u8 b.toNat)]) (ok := fun _ => True) hi (fun n cs h => by obtain ⟨b, h⟩ := okT_byte' h; exact ⟨b, h, trivial⟩) h
 refine ⟨⟨l.toArray⟩, ?_, ?_⟩
 ·rw [rowsC, flat_one]
  simp [bytesC, bytesAV]
  rfl
 ·exact h1
theorem okT_ints' {n t : Nat} {cs : List AV} (hi : ∃ i, ti0 t = some i ∧ i.isB = false ∧ i.ik = none ∧ i.isStr = false ∧ i.sl = true ∧ i.elem = 3) (h : okT ti0 n t cs) : ∃ l : List Int, cs = [intsC l] ∧ l.length ≤ 9223372036854775807 ∧ ∀ z ∈ l, okI z := by
 obtain ⟨l, rfl, h1, h2⟩ := okT_rows (α := Int) (enc := fun z => [.sc (.int .i64 z)]) (ok := okI) hi (fun n cs h => okT_int' h) h
 exact ⟨l, by rw [rowsC, flat_one], h1, h2⟩
theorem okT_strs' {n t : Nat} {cs : List AV} (hi : ∃ i, ti0 t = some i ∧ i.isB = false ∧ i.ik = none ∧ i.isStr = false ∧ i.sl = true ∧ i.elem = 9) (h : okT ti0 n t cs) : ∃ l : List ByteArray, cs = [strsC l] ∧ l.length ≤ 9223372036854775807 ∧ ∀ s ∈ l, okS s := by
 obtain ⟨l, rfl, h1, h2⟩ := okT_rows (α := ByteArray) (enc := fun s => [.sc (.string s)]) (ok := okS) hi (fun n cs h => okT_str' h) h
 exact ⟨l, by rw [rowsC, flat_one], h1, h2⟩
theorem okT_struct {n t : Nat} {cs : List AV} {fs : List (Nat × Nat)} (hi : ∃ i, ti0 t = some i ∧ i.isB = false ∧ i.ik = none ∧ i.isStr = false ∧ i.sl = false ∧ i.isAgg = true ∧ i.fields = fs) (h : okT ti0 n t cs) : ∃ m, okFs (okT ti0 m) fs cs := by
 cases n with
 | zero => cases h
 | succ n =>
  obtain ⟨i, h1, h2, h3, h4, h5, h6, rfl⟩ := hi
  obtain ⟨i', hi', h⟩ := h
  rw [h1] at hi'
  obtain rfl := Option.some.inj hi'
  simp only [h2, h3, h4, h5, h6] at h
  exact ⟨n, h⟩
end Go.Proofs.YtdameggfgnpehaaGreatDoor.Abs
set_option linter.unusedVariables false
set_option linter.unusedSimpArgs false
namespace Go.Proofs.YtdameggfgnpehaaGreatDoor.Abs
open Go
variable {β : Type} {n : Nat} {H : Heap} {r : Option β}
theorem vnil : ([] : List AV).mapM (viewV H 8) = some [] := rfl
theorem vcons {x v : AV} {xs vs : List AV} (h : Vw H x v) (hs : xs.mapM (viewV H 8) = some vs) : (x :: xs).mapM (viewV H 8) = some (v :: vs) := by
 simp only [List.mapM_cons, h.now, hs, Option.pure_def, Option.bind_eq_bind, Option.bind_some]
theorem blk_grow {i : Nat} {b : Blk} (h : H[i]? = some b) (X : List Blk) : (H ++ X)[i]? = some b := by
 rw [List.getElem?_append_left (List.getElem?_eq_some_iff.1 h).1]
 exact h
theorem lw_box {cs : List AV} {K : AV → Heap → Option β} (hf : cs.all isFl = true) (h : ∀ i, (H ++ [⟨cs, true, true⟩])[i]? = some ⟨cs, true, true⟩ → K (.ptr i 0) (H ++ [⟨cs, true, true⟩]) = r) : pBox (.agg cs) H (fun x H => K x H) = r := by
 rw [box_fl cs H _ hf]
 exact h _ (by rw [List.getElem?_append_right (Nat.le_refl _), Nat.sub_self]; rfl)
theorem lw_ld {i w : Nat} {cs : List AV} {K : AV → Option β} (hi : H[i]? = some ⟨cs, true, true⟩) (hw : cs.length = w) (h : K (.agg cs) = r) : pLoad true w (.ptr i 0) H (fun x => K x) = r := by
 have e : rdCells H i 0 w = some cs := by
  simp only [rdCells, hi, if_true, List.drop_zero, Nat.zero_add, ← hw, Nat.le_refl, List.take_length]
 rw [ldT e]
 exact h
theorem lw_sc {ty f : Nat} {args vs : List AV} {v : Value} {K : AV → Heap → Option β} (hh : plainF f = false) (hv : args.mapM (viewV H 8) = some vs) (ht : tree E0 n ty f vs = some (.sc v)) (h : K (.sc v) H = r) : (PR n β).call ty (.fn f [] []) args H (fun x H => K x H) = r := by
 rw [PR_call hh hv ht, instT_sc, List.append_nil]
 exact h
theorem lw_tree {ty f : Nat} {args vs : List AV} {t : AV} {K : AV → Heap → Option β} (hh : plainF f = false) (hv : args.mapM (viewV H 8) = some vs) (ht : tree E0 n ty f vs = some t) (hok : okW ti0 E0.tp 8 ty t) (h : ∀ X y, Vw (H ++ X) y t → K y (H ++ X) = r) : (PR n β).call ty (.fn f [] []) args H (fun x H => K x H) = r := by
 rw [PR_call hh hv ht]
 exact h _ _ (Vw_inst H ty t hok)
theorem lw_agg {ty f : Nat} {args vs cs : List AV} {K : AV → Heap → Option β} (hh : plainF f = false) (hv : args.mapM (viewV H 8) = some vs) (ht : tree E0 n ty f vs = some (.agg cs)) (hf : cs.all isFl = true) (hok : okW ti0 E0.tp 8 ty (.agg cs)) (h : ∀ X (ys : List AV), ys.length = cs.length → ys.all isLeaf = true → Vw (H ++ X) (.agg ys) (.agg cs) → K (.agg ys) (H ++ X) = r) : (PR n β).call ty (.fn f [] []) args H (fun x H => K x H) = r := by
 rw [PR_call hh hv ht, instT_agg]
 refine h _ _ (instL_len _ _ _) (instL_leaf _ _ _ hf) ?_
 have := Vw_inst H ty (.agg cs) hok
 rwa [instT_agg] at this
theorem lw_put {w : Nat} {z ys : List AV} {K : AV → Heap → Option β} (hz : z.length = w) (hy : ys.length = w) (hl : ys.all isLeaf = true) (h : ∀ i, (H ++ [⟨ys, true, true⟩])[i]? = some ⟨ys, true, true⟩ → K (.ptr i 0) (H ++ [⟨ys, true, true⟩]) = r) :
  pNew z H (fun t H => pStore w t (.agg ys) H fun H => K t H) = r := by
 have hg : (H ++ [(⟨z, true, true⟩ : Blk)])[H.length]? = some ⟨z, true, true⟩ := by rw [List.getElem?_append_right (Nat.le_refl _), Nat.sub_self]; rfl
 have hc : cellsA (.agg ys) = some ys := by
  show (if ys.all isLeaf then some ys else none) = _
  rw [if_pos hl]
 show pStore w (.ptr H.length 0) (.agg ys) (H ++ [⟨z, true, true⟩]) _ = r
 rw [st_at w H.length 0 _ ⟨z, true, true⟩ ys _ _ hg hc hy (by rw [hz]; omega) rfl]
 have hs : splice z 0 ys = ys := by
  unfold splice
  rw [List.take_zero, List.nil_append, List.drop_of_length_le (by rw [hz, hy]; omega), List.append_nil]
 have e : (H ++ [(⟨z, true, true⟩ : Blk)]).set H.length ⟨ys, true, true⟩ = H ++ [⟨ys, true, true⟩] := by
  rw [List.set_append_right _ _ (Nat.le_refl _), Nat.sub_self]
  rfl
 simp only [hs, e]
 exact h _ (by rw [List.getElem?_append_right (Nat.le_refl _), Nat.sub_self]; rfl)
theorem lw_sz {ty f W : Nat} {args vs : List AV} {left : Int} {A : Heap → Option β} {K : AV → Heap → Option β} (hh : plainF f = false) (hv : args.mapM (viewV H 8) = some vs) (ht : tree E0 n ty f vs = some (.sc (.int .i64 (szR W left)))) (h0 : 0 ≤ left) (hA : A H = r) (h : (W : Int) ≤ left → K (.sc (.int .i64 (left - W))) H = r) :
  (PR n β).call ty (.fn f [] []) args H (fun t H => pBin .lss t (.sc (.int .i64 0)) fun t' => pCond t' (A H) (K t H)) = r := by
 rw [PR_call hh hv ht, instT_sc, List.append_nil]
 simp only
 rw [lss64, cond_b]
 by_cases hw : left < W
 ·have e : szR W left = -1 := by rw [szR, if_pos hw]
  rw [e, if_pos (by decide)]
  exact hA
 ·have e : szR W left = left - W := by rw [szR, if_neg hw]
  rw [e, if_neg (by simpa using (show ¬ left - (W : Int) < 0 by omega))]
  exact h (by omega)
theorem lw_str {s : ByteArray} {A K : Option β} (hA : A = r) (h : s.size ≤ 1048576 → K = r) : (pLenS (.sc (.string s)) fun t => pBin .gtr t (.sc (.int .i64 1048576)) fun t' => pCond t' A K) = r := by
 simp only [pLenS, asS, Option.bind_some]
 show pCond (.sc (.bool (decide ((s.size : Int) > 1048576)))) A K = r
 rw [cond_b]
 by_cases hs : s.size ≤ 1048576
 ·rw [if_neg (by simp; omega)]
  exact h hs
 ·rw [if_pos (by simp; omega)]
  exact hA
theorem lw_neb {b : Bool} {A K : Option β} (h : K = r) : (pBinB .neq (.sc (.bool b)) (.sc (.bool b)) fun t => pCond t A K) = r := by
 simp only [pBinB, asB, Option.bind_some, binB, beq_self_eq_true, Bool.not_true]
 exact h
theorem lw_nei {z : Int} {A K : Option β} (h : K = r) : (pBin .neq (.sc (.int .i64 z)) (.sc (.int .i64 z)) fun t => pCond t A K) = r := by
 rw [ne_int, cond_b]
 exact h
theorem lw_eq {ty f : Nat} {args vs : List AV} {A : Heap → Option β} {K : Heap → Option β} (hh : plainF f = false) (hv : args.mapM (viewV H 8) = some vs) (ht : tree E0 n ty f vs = some (.sc (.bool true))) (h : K H = r) : (PR n β).call ty (.fn f [] []) args H (fun t H => pUn .not t fun t' => pCond t' (A H) (K H)) = r := by
 rw [PR_call hh hv ht, instT_sc, List.append_nil]
 exact h
theorem eql64 (a b : Int) (k : AV → Option β) : pBin .eql (.sc (.int .i64 a)) (.sc (.int .i64 b)) k = k (.sc (.bool (a == b))) := rfl
theorem neq64 (a b : Int) (k : AV → Option β) : pBin .neq (.sc (.int .i64 a)) (.sc (.int .i64 b)) k = k (.sc (.bool (a != b))) := rfl
theorem leq64 (a b : Int) (k : AV → Option β) : pBin .leq (.sc (.int .i64 a)) (.sc (.int .i64 b)) k = k (.sc (.bool (decide (a ≤ b)))) := rfl
theorem gtr64 (a b : Int) (k : AV → Option β) : pBin .gtr (.sc (.int .i64 a)) (.sc (.int .i64 b)) k = k (.sc (.bool (decide (a > b)))) := rfl
theorem geq64 (a b : Int) (k : AV → Option β) : pBin .geq (.sc (.int .i64 a)) (.sc (.int .i64 b)) k = k (.sc (.bool (decide (a ≥ b)))) := rfl
theorem add64 (a b : Int) (k : AV → Option β) : pBin .add (.sc (.int .i64 a)) (.sc (.int .i64 b)) k = k (.sc (.int .i64 (IntKind.i64.wrap (a + b)))) := rfl
theorem sub64w (a b : Int) (k : AV → Option β) : pBin .sub (.sc (.int .i64 a)) (.sc (.int .i64 b)) k = k (.sc (.int .i64 (IntKind.i64.wrap (a - b)))) := rfl
theorem mul64 (a b : Int) (k : AV → Option β) : pBin .mul (.sc (.int .i64 a)) (.sc (.int .i64 b)) k = k (.sc (.int .i64 (IntKind.i64.wrap (a * b)))) := rfl
theorem eqlS (a b : ByteArray) (k : AV → Option β) : pBin .eql (.sc (.string a)) (.sc (.string b)) k = k (.sc (.bool (a.toList == b.toList))) := rfl
theorem neqS (a b : ByteArray) (k : AV → Option β) : pBin .neq (.sc (.string a)) (.sc (.string b)) k = k (.sc (.bool (!(a.toList == b.toList)))) := rfl
theorem eqlB (a b : Bool) (k : AV → Option β) : pBinB .eql (.sc (.bool a)) (.sc (.bool b)) k = k (.sc (.bool (a == b))) := rfl
theorem neqB (a b : Bool) (k : AV → Option β) : pBinB .neq (.sc (.bool a)) (.sc (.bool b)) k = k (.sc (.bool (!(a == b)))) := rfl
theorem notB (a : Bool) (k : AV → Option β) : pUn .not (.sc (.bool a)) k = k (.sc (.bool (!a))) := rfl
theorem gdT (m : (AV → Heap → Option β) → Option β) (k : AV → Heap → Option β) : pGuard (.sc (.bool true)) true H m k = m k := rfl
theorem gdF (m : (AV → Heap → Option β) → Option β) (k : AV → Heap → Option β) : pGuard (.sc (.bool false)) true H m k = k (.sc undef) H := rfl
theorem gfT (m : (AV → Heap → Option β) → Option β) (k : AV → Heap → Option β) : pGuard (.sc (.bool true)) false H m k = k (.sc undef) H := rfl
theorem gfF (m : (AV → Heap → Option β) → Option β) (k : AV → Heap → Option β) : pGuard (.sc (.bool false)) false H m k = m k := rfl
theorem pkT (a b : Value) (k : AV → Option β) : pPick (.sc (.bool true)) (.sc a) (.sc b) k = k (.sc a) := rfl
theorem pkF (a b : Value) (k : AV → Option β) : pPick (.sc (.bool false)) (.sc a) (.sc b) k = k (.sc b) := rfl
theorem fadr_p (o id off : Nat) (k : AV → Option β) : pFadr o (.ptr id off) k = k (.ptr id (off + o)) := rfl
theorem lenSc (s : ByteArray) (k : AV → Option β) : pLenS (.sc (.string s)) k = k (.sc (.int .i64 s.size)) := rfl
theorem own_v (ty : Nat) (H : Heap) (v : Value) : ownTree ti0 E0.tp ty H (.sc v) = some (.sc v) := rfl
theorem okW_agg {ty : Nat} {cty : List Nat} {cs : List AV} (hty : ∃ i, ti0 ty = some i ∧ i.cty = cty) (h : okLW (okW ti0 E0.tp 7) cty cs) : okW ti0 E0.tp 8 ty (.agg cs) := by
 obtain ⟨i, hi, rfl⟩ := hty
 exact ⟨i, hi, h⟩
end Go.Proofs.YtdameggfgnpehaaGreatDoor.Abs
set_option linter.unusedVariables false
set_option linter.unusedSimpArgs false
namespace Go.Proofs.YtdameggfgnpehaaGreatDoor.Abs
open Go
section own
variable {ti : Nat → Option TI} {tp : Nat → Option (List Nat)}
theorem ownL_cons {f : Nat → AV → Option (AV × List Nat)} {t : Nat} {ts : List Nat} {x : AV} {xs : List AV} {p : List AV × List Nat} (h : ownL f (t :: ts) (x :: xs) = some p) :
  ∃ a b, f t x = some a ∧ ownL f ts xs = some b ∧ p = (a.1 :: b.1, a.2 ++ b.2) := by
 simp only [ownL, Option.bind_eq_some_iff] at h
 obtain ⟨a, h1, b, h2, h3⟩ := h
 exact ⟨a, b, h1, h2, (Option.some.inj h3).symm⟩
theorem ownL_nil {f : Nat → AV → Option (AV × List Nat)} {ts : List Nat} {p : List AV × List Nat} (h : ownL f ts [] = some p) : ts = [] ∧ p = ([], []) := by
 cases ts with
 | nil => exact ⟨rfl, (Option.some.inj h).symm⟩
 | cons t ts => simp [ownL] at h
theorem ownL_len {f : Nat → AV → Option (AV × List Nat)} : ∀ {ts : List Nat} {xs : List AV} {p : List AV × List Nat}, ownL f ts xs = some p → ts.length = xs.length ∧ p.1.length = xs.length
 | ts, [], p, h => by
  obtain ⟨rfl, rfl⟩ := ownL_nil h
  exact ⟨rfl, rfl⟩
 | [], _ :: _, p, h => by simp [ownL] at h
 | t :: ts, x :: xs, p, h => by
  obtain ⟨a, b, h1, h2, rfl⟩ := ownL_cons h
  obtain ⟨e1, e2⟩ := ownL_len h2
  simp [e1, e2]
theorem ownL_append {f : Nat → AV → Option (AV × List Nat)} : ∀ {ts us : List Nat} {xs ys : List AV} {p q : List AV × List Nat}, ownL f ts xs = some p → ownL f us ys = some q → ownL f (ts ++ us) (xs ++ ys) = some (p.1 ++ q.1, p.2 ++ q.2)
 | ts, us, [], ys, p, q, h, h' => by
  obtain ⟨rfl, rfl⟩ := ownL_nil h
  exact h'
 | [], _, _ :: _, _, _, _, h, _ => by simp [ownL] at h
 | t :: ts, us, x :: xs, ys, p, q, h, h' => by
  obtain ⟨a, b, h1, h2, rfl⟩ := ownL_cons h
  have ih := ownL_append h2 h'
  rw [List.cons_append, List.cons_append, ownL, h1, Option.bind_some, ih]
  simp
theorem ownL_frame {f f' : Nat → AV → Option (AV × List Nat)} : ∀ {ts : List Nat} {xs : List AV} {p : List AV × List Nat}, (∀ t x a, f t x = some a → (∀ i ∈ a.2, i ∈ p.2) → f' t x = some a) → ownL f ts xs = some p → ownL f' ts xs = some p
 | ts, [], p, _, h => by
  obtain ⟨rfl, rfl⟩ := ownL_nil h
  rfl
 | [], _ :: _, p, _, h => by simp [ownL] at h
 | t :: ts, x :: xs, p, hf, h => by
  obtain ⟨a, b, h1, h2, rfl⟩ := ownL_cons h
  have e1 := hf t x a h1 fun i hi => List.mem_append_left _ hi
  have e2 := ownL_frame (f' := f') (fun t x a' h hi => hf t x a' h fun i hi' => List.mem_append_right _ (hi i hi')) h2
  rw [ownL, e1, Option.bind_some, e2]
  rfl
theorem own_frame {H H' : Heap} : ∀ (d ty : Nat) (x : AV) (p : AV × List Nat), ownT ti tp H d ty x = some p → (∀ i ∈ p.2, H'[i]? = H[i]?) → ownT ti tp H' d ty x = some p
 | 0, _, _, _, h, _ => by simp [ownT] at h
 | d + 1, ty, x, p, h, hs => by
  cases x with
  | sc v => exact h
  | nl => exact h
  | sl id off n z =>
   rw [ownT_sl] at h ⊢
   simp only [Option.bind_eq_some_iff] at h
   obtain ⟨i, h1, j, h2, h3⟩ := h
   split at h3
   case isFalse => cases h3
   rename_i hz
   split at h3
   case isFalse => cases h3
   rename_i ha
   simp only [Option.bind_eq_some_iff] at h3
   obtain ⟨cs, h4, q, h5, h6⟩ := h3
   obtain rfl := (Option.some.inj h6).symm
   have hid := hs id List.mem_cons_self
   have e1 : isApp H' id = true := by simpa only [isApp, hid] using ha
   have e2 : rdCells H' id off (n * z) = some cs := by simpa only [rdCells, hid] using h4
   have e3 := ownL_frame (f' := ownT ti tp H' d) (fun t x a h hi => own_frame d t x a h fun i' hi' => hs i' (List.mem_cons_of_mem _ (hi i' hi'))) h5
   simp only [h1, h2, Option.bind_some, hz, if_true, e1, e3]
   rw [hz] at e2
   rw [e2]
   simp only [Option.bind_some, e3]
  | agg cs =>
   rw [ownT_agg] at h ⊢
   simp only [Option.bind_eq_some_iff] at h
   obtain ⟨i, h1, q, h2, h3⟩ := h
   obtain rfl := (Option.some.inj h3).symm
   have e3 := ownL_frame (f' := ownT ti tp H' d) (fun t x a h hi => own_frame d t x a h fun i' hi' => hs i' (hi i' hi')) h2
   rw [h1, Option.bind_some, e3]
   rfl
  | tup cs =>
   rw [ownT_tup] at h ⊢
   simp only [Option.bind_eq_some_iff] at h
   obtain ⟨i, h1, q, h2, h3⟩ := h
   obtain rfl := (Option.some.inj h3).symm
   have e3 := ownL_frame (f' := ownT ti tp H' d) (fun t x a h hi => own_frame d t x a h fun i' hi' => hs i' (hi i' hi')) h2
   rw [h1, Option.bind_some, e3]
   rfl
  | _ => simp [ownT] at h
theorem ownL_lt {f : Nat → AV → Option (AV × List Nat)} {N : Nat} : ∀ {ts : List Nat} {xs : List AV} {p : List AV × List Nat}, (∀ t x a, f t x = some a → ∀ i ∈ a.2, i < N) → ownL f ts xs = some p → ∀ i ∈ p.2, i < N
 | ts, [], p, _, h => by
  obtain ⟨rfl, rfl⟩ := ownL_nil h
  intro i hi
  cases hi
 | [], _ :: _, p, _, h => by simp [ownL] at h
 | t :: ts, x :: xs, p, hf, h => by
  obtain ⟨a, b, h1, h2, rfl⟩ := ownL_cons h
  intro i hi
  rcases List.mem_append.1 hi with hi | hi
  ·exact hf t x a h1 i hi
  ·exact ownL_lt hf h2 i hi
theorem own_lt {H : Heap} : ∀ (d ty : Nat) (x : AV) (p : AV × List Nat), ownT ti tp H d ty x = some p → ∀ i ∈ p.2, i < H.length
 | 0, _, _, _, h => by simp [ownT] at h
 | d + 1, ty, x, p, h => by
  cases x with
  | sc v =>
   obtain rfl := (Option.some.inj h).symm
   intro i hi
   cases hi
  | nl =>
   obtain rfl := (Option.some.inj h).symm
   intro i hi
   cases hi
  | sl id off n z =>
   rw [ownT_sl] at h
   simp only [Option.bind_eq_some_iff] at h
   obtain ⟨i, h1, j, h2, h3⟩ := h
   split at h3
   case isFalse => cases h3
   split at h3
   case isFalse => cases h3
   rename_i ha
   simp only [Option.bind_eq_some_iff] at h3
   obtain ⟨cs, h4, q, h5, h6⟩ := h3
   obtain rfl := (Option.some.inj h6).symm
   intro i' hi'
   rcases List.mem_cons.1 hi' with rfl | hi'
   ·unfold isApp at ha
    cases hg : H[i']? with
    | none => rw [hg] at ha; cases ha
    | some b => exact (List.getElem?_eq_some_iff.1 hg).1
   ·exact ownL_lt (fun t x a h => own_lt d t x a h) h5 i' hi'
  | agg cs =>
   rw [ownT_agg] at h
   simp only [Option.bind_eq_some_iff] at h
   obtain ⟨i, h1, q, h2, h3⟩ := h
   obtain rfl := (Option.some.inj h3).symm
   exact ownL_lt (fun t x a h => own_lt d t x a h) h2
  | tup cs =>
   rw [ownT_tup] at h
   simp only [Option.bind_eq_some_iff] at h
   obtain ⟨i, h1, q, h2, h3⟩ := h
   obtain rfl := (Option.some.inj h3).symm
   exact ownL_lt (fun t x a h => own_lt d t x a h) h2
  | _ => simp [ownT] at h
end own
def OwnC (d : Nat) (H : Heap) (ts : List Nat) (raw cells : List AV) (ids : List Nat) : Prop := ownL (ownT ti0 E0.tp H d) ts raw = some (cells, ids)
theorem OwnC.frame {d : Nat} {H H' : Heap} {ts : List Nat} {raw cells : List AV} {ids : List Nat} (h : OwnC d H ts raw cells ids) (hs : ∀ i ∈ ids, H'[i]? = H[i]?) : OwnC d H' ts raw cells ids :=
 ownL_frame (fun t x a h hi => own_frame d t x a h fun i hi' => hs i (hi i hi')) h
theorem OwnC.lt {d : Nat} {H : Heap} {ts : List Nat} {raw cells : List AV} {ids : List Nat} (h : OwnC d H ts raw cells ids) : ∀ i ∈ ids, i < H.length := ownL_lt (fun t x a h => own_lt d t x a h) h
theorem OwnC.grow {d : Nat} {H : Heap} {ts : List Nat} {raw cells : List AV} {ids : List Nat} (h : OwnC d H ts raw cells ids) (X : List Blk) : OwnC d (H ++ X) ts raw cells ids :=
 h.frame fun i hi => List.getElem?_append_left (h.lt i hi)
theorem OwnC.append {d : Nat} {H : Heap} {ts us : List Nat} {raw raw' cells cells' : List AV} {ids ids' : List Nat} (h : OwnC d H ts raw cells ids) (h' : OwnC d H us raw' cells' ids') : OwnC d H (ts ++ us) (raw ++ raw') (cells ++ cells') (ids ++ ids') := ownL_append h h'
theorem OwnC.len {d : Nat} {H : Heap} {ts : List Nat} {raw cells : List AV} {ids : List Nat} (h : OwnC d H ts raw cells ids) : ts.length = raw.length ∧ cells.length = raw.length := ownL_len h
def OwnS (d : Nat) (H : Heap) (w : Nat) (cty : List Nat) (x : AV) (k : Nat) (cells : List AV) : Prop :=
 (x = .nl ∧ k = 0 ∧ cells = []) ∨ ∃ id raw ids, x = .sl id 0 k w ∧ H[id]? = some ⟨raw, true, true⟩ ∧ raw.length = k * w ∧ OwnC d H (List.replicate k cty).flatten raw cells ids ∧ (id :: ids).Nodup
theorem OwnS.nil (d : Nat) (H : Heap) (w : Nat) (cty : List Nat) : OwnS d H w cty .nl 0 [] := .inl ⟨rfl, rfl, rfl⟩
theorem OwnS.grow {d : Nat} {H : Heap} {w : Nat} {cty : List Nat} {x : AV} {k : Nat} {cells : List AV} (h : OwnS d H w cty x k cells) (X : List Blk) : OwnS d (H ++ X) w cty x k cells := by
 rcases h with h | ⟨id, raw, ids, h1, h2, h3, h4, h5⟩
 ·exact .inl h
 ·exact .inr ⟨id, raw, ids, h1, by rw [List.getElem?_append_left (List.getElem?_eq_some_iff.1 h2).1]; exact h2, h3, h4.grow X, h5⟩
variable {β : Type} {n : Nat} {r : Option β}
theorem set_at (A : Heap) (b b' : Blk) (R : Heap) : (A ++ b :: R).set A.length b' = A ++ b' :: R := by
 rw [List.set_append_right _ _ (Nat.le_refl _), Nat.sub_self]
 rfl
theorem get_at (A : Heap) (b : Blk) (R : Heap) : (A ++ b :: R)[A.length]? = some b := by
 rw [List.getElem?_append_right (Nat.le_refl _), Nat.sub_self]
 rfl
theorem app_one {d : Nat} {H X : Heap} {w bytes : Nat} {cty : List Nat} {x : AV} {k : Nat} {cells er ec : List AV} {eids : List Nat} {K : AV → Heap → Option β} (hx : OwnS d H w cty x k cells) (hw : er.length = w) (hl : er.all isLeaf = true)
  (he : OwnC d (H ++ X) cty er ec eids) (hn : eids.Nodup) (hge : ∀ i ∈ eids, H.length ≤ i) (hb : (k + 1) * bytes ≤ 140737488355328)
  (h : ∀ x' H', OwnS d H' w cty x' (k + 1) (cells ++ ec) → K x' H' = r) :
  pNewSl 1 w er true (H ++ X) (fun y G => pApp w bytes x y G K) = r := by
 have hy : ∀ G : Heap, content (G ++ [⟨er, true, true⟩]) w (.sl G.length 0 1 w) = some er := by
  intro G
  simp only [content, if_true, Nat.one_mul, rdCells, get_at G _ [], Nat.zero_add, hw, Nat.le_refl, List.drop_zero]
  rw [← hw, List.take_length]
 have hell : (H ++ X).length ∉ eids := fun hm => Nat.lt_irrefl _ (he.lt _ hm)
 rcases hx with ⟨rfl, rfl, rfl⟩ | ⟨id, raw, ids, rfl, h2, h3, h4, h5⟩
 ·simp only [pNewSl, pApp, lenA, Option.bind_some, hy]
  rw [show content (H ++ X ++ [⟨er, true, true⟩]) w .nl = some [] from rfl]
  simp only [Option.bind_some, kill]
  rw [if_pos hb, if_pos hl]
  refine h _ _ (.inr ⟨_, er, eids, rfl, ?_, by simp [hw], ?_, ?_⟩)
  ·rw [List.getElem?_append_right (Nat.le_refl _), Nat.sub_self]
   rfl
  ·simp only [Nat.zero_add, List.replicate_one, List.flatten_cons, List.flatten_nil, List.append_nil, List.nil_append]
   exact (he.grow _).grow _
  ·rw [List.nodup_cons]
   refine ⟨fun hm => ?_, hn⟩
   have := he.lt _ hm
   simp at this
   omega
 ·have hid : id < H.length := (List.getElem?_eq_some_iff.1 h2).1
  have hg : (H ++ X ++ [(⟨er, true, true⟩ : Blk)])[id]? = some ⟨raw, true, true⟩ := by
   rw [List.append_assoc, List.getElem?_append_left hid]
   exact h2
  have hcx : content (H ++ X ++ [⟨er, true, true⟩]) w (.sl id 0 k w) = some raw := by
   simp only [content, if_true, rdCells, hg, Nat.zero_add, h3, Nat.le_refl, List.drop_zero]
   rw [← h3, List.take_length]
  simp only [pNewSl, pApp, lenA, Option.bind_some, hy, hcx, kill, hg, if_true]
  rw [if_pos hb, if_pos hl]
  have hn5 := List.nodup_cons.1 h5
  have hne : ∀ i ∈ ids, i ≠ id := fun i hi e => hn5.1 (e ▸ hi)
  have hne2 : ∀ i ∈ eids, i ≠ id := fun i hi e => by
   have := hge i hi
   omega
  refine h _ _ (.inr ⟨_, raw ++ er, ids ++ eids, rfl, ?_, by simp [h3, hw, Nat.succ_mul], ?_, ?_⟩)
  ·rw [List.getElem?_append_right (Nat.le_refl _), Nat.sub_self]
   rfl
  ·have e : (List.replicate (k + 1) cty).flatten = (List.replicate k cty).flatten ++ cty := by
    rw [List.replicate_succ', List.flatten_append]
    simp
   rw [e]
   refine OwnC.append ?_ ?_
   ·refine OwnC.grow (OwnC.frame (H := H ++ X ++ [⟨er, true, true⟩]) ((h4.grow X).grow _) fun i hi => ?_) _
    rw [List.getElem?_set_ne (fun e => hne i hi e.symm)]
   ·refine OwnC.grow (OwnC.frame (H := H ++ X ++ [⟨er, true, true⟩]) (he.grow _) fun i hi => ?_) _
    rw [List.getElem?_set_ne (fun e => hne2 i hi e.symm)]
  ·rw [List.nodup_cons]
   refine ⟨fun hm => ?_, ?_⟩
   ·rcases List.mem_append.1 hm with hm | hm
    ·have := h4.lt _ hm
     simp at this
     omega
    ·have := he.lt _ hm
     simp at this
     omega
   ·rw [List.nodup_append]
    refine ⟨hn5.2, hn, fun a ha b hb e => ?_⟩
    have h1 := h4.lt a ha
    have h2 := hge b hb
    omega
theorem own_new {d : Nat} {H : Heap} {ts : List Nat} {cs : List AV} (h : okLW (okW ti0 E0.tp d) ts cs) : OwnC d (H ++ (instL ti0 E0.tp H.length ts cs).2) ts (instL ti0 E0.tp H.length ts cs).1 cs (List.range' H.length (instL ti0 E0.tp H.length ts cs).2.length) :=
 own_instL (fun ty t N h h' _ => own_inst d ty t N h h') ts cs H.length h (Lies_end _ _) (instL_live _ _ _)
theorem own_res {d : Nat} {H : Heap} {w tyS k : Nat} {cty : List Nat} {x : AV} {cells : List AV} (hty : ∃ i j, ti0 tyS = some i ∧ ti0 i.elem = some j ∧ j.size = w ∧ j.cty = cty) (h : OwnS d H w cty x k cells) : ∃ ids, ownT ti0 E0.tp H (d + 1) tyS x = some (.ro k cells, ids) ∧ ids.Nodup := by
 rcases h with ⟨rfl, rfl, rfl⟩ | ⟨id, raw, ids, rfl, h2, h3, h4, h5⟩
 ·exact ⟨[], rfl, List.nodup_nil⟩
 ·obtain ⟨i, j, e1, e2, rfl, rfl⟩ := hty
  refine ⟨id :: ids, ?_, h5⟩
  rw [ownT_sl]
  have ha : isApp H id = true := by simp only [isApp, h2]
  have hr : rdCells H id 0 (k * j.size) = some raw := by
   simp only [rdCells, h2, if_true, Nat.zero_add, h3, Nat.le_refl, List.drop_zero]
   rw [← h3, List.take_length]
  have h4' : ownL (ownT ti0 E0.tp H d) (List.replicate k j.cty).flatten raw = some (cells, ids) := h4
  simp only [e1, e2, Option.bind_some, if_true, ha, hr, h4']
end Go.Proofs.YtdameggfgnpehaaGreatDoor.Abs
set_option linter.unusedVariables false
set_option linter.unusedSimpArgs false
namespace Go.Proofs.YtdameggfgnpehaaGreatDoor.Abs
open Go
inductive MF where
 | str
 | int
 | bool
 | byt
 | skip
 | sub (fs : List MF)
def repF (n : Nat) (fs : List MF) : List MF := (List.replicate n fs).flatten
theorem repF_succ (n : Nat) (fs : List MF) : repF (n + 1) fs = fs ++ repF n fs := by rw [repF, List.replicate_succ, List.flatten_cons, repF]
theorem repF_len (n : Nat) (fs : List MF) : (repF n fs).length = n * fs.length := by simp [repF]
def digs (k : Nat) (out : ByteArray) : ByteArray := if h : k = 0 then out else digs (k / 10) (⟨#[UInt8.ofNat (48 + k % 10)]⟩ ++ out)
termination_by k
decreasing_by omega
def mTxt (k : Int) : ByteArray := ⟨#[109]⟩ ++ (if k ≤ 0 then ⟨#[48]⟩ else digs k.toNat ⟨#[]⟩)
mutual
def mkF (f : MF) (k : Int) : AV → AV × Int
 | .sc v =>
  match f with
  | .str => (.sc (.string (mTxt k)), k + 1)
  | .int => (.sc (.int .i64 k), k + 1)
  | .bool => (.sc (.bool (k.tmod 3 == 0)), k + 1)
  | .byt => (.sc (.int .u8 (IntKind.u8.wrap k)), k + 1)
  | _ => (.sc v, k)
 | .ro n cells =>
  match f with
  | .sub fs => (.ro n (mkL (repF n fs) k cells).1, (mkL (repF n fs) k cells).2)
  | _ => (.ro n cells, k)
 | x => (x, k)
def mkL (fs : List MF) (k : Int) : List AV → List AV × Int
 | [] => ([], k)
 | c :: cs => ((mkF (fs.headD .skip) k c).1 :: (mkL fs.tail (mkF (fs.headD .skip) k c).2 cs).1, (mkL fs.tail (mkF (fs.headD .skip) k c).2 cs).2)
end
mutual
def cntF (f : MF) : AV → Nat
 | .sc v =>
  match f with
  | .skip => 0
  | .sub _ => 0
  | _ => 1
 | .ro n cells =>
  match f with
  | .sub fs => cntL (repF n fs) cells
  | _ => 0
 | _ => 0
def cntL (fs : List MF) : List AV → Nat
 | [] => 0
 | c :: cs => cntF (fs.headD .skip) c + cntL fs.tail cs
end
mutual
def wfF (f : MF) : AV → Prop
 | .sc v =>
  match f, v with
  | .str, .string _ => True
  | .int, .int .i64 _ => True
  | .bool, .bool _ => True
  | .byt, .int .u8 _ => True
  | .skip, v => leafV v = true
  | _, _ => False
 | .ro n cells =>
  match f with
  | .sub fs => n ≤ 1048576 ∧ cells.length = n * fs.length ∧ wfL (repF n fs) cells
  | _ => False
 | _ => False
def wfL (fs : List MF) : List AV → Prop
 | [] => fs = []
 | c :: cs => fs ≠ [] ∧ wfF (fs.headD .skip) c ∧ wfL fs.tail cs
end
mutual
def nbT : AV → Nat
 | .ro _ cells => 1 + nbL cells
 | .agg cs => nbL cs
 | .tup cs => nbL cs
 | _ => 0
def nbL : List AV → Nat
 | [] => 0
 | c :: cs => nbT c + nbL cs
end
section lists
theorem mkL_cons (f : MF) (fs : List MF) (k : Int) (c : AV) (cs : List AV) : mkL (f :: fs) k (c :: cs) = ((mkF f k c).1 :: (mkL fs (mkF f k c).2 cs).1, (mkL fs (mkF f k c).2 cs).2) := rfl
theorem mkL_append : ∀ (A B : List MF) (k : Int) (X Y : List AV), A.length = X.length → mkL (A ++ B) k (X ++ Y) = ((mkL A k X).1 ++ (mkL B (mkL A k X).2 Y).1, (mkL B (mkL A k X).2 Y).2)
 | [], B, k, [], Y, _ => by simp [mkL]
 | f :: A, B, k, x :: X, Y, h => by
  have ih := mkL_append A B (mkF f k x).2 X Y (by simpa using h)
  rw [List.cons_append, List.cons_append, mkL_cons, mkL_cons, ih]
  rfl
theorem cntL_append : ∀ (A B : List MF) (X Y : List AV), A.length = X.length → cntL (A ++ B) (X ++ Y) = cntL A X + cntL B Y
 | [], B, [], Y, _ => by simp [cntL]
 | f :: A, B, x :: X, Y, h => by
  have ih := cntL_append A B X Y (by simpa using h)
  show cntF f x + cntL (A ++ B) (X ++ Y) = cntF f x + cntL A X + cntL B Y
  rw [ih, Nat.add_assoc]
theorem wfL_cons {f : MF} {fs : List MF} {c : AV} {cs : List AV} : wfL (f :: fs) (c :: cs) ↔ wfF f c ∧ wfL fs cs := by
 show (f :: fs ≠ [] ∧ wfF f c ∧ wfL fs cs) ↔ _
 simp
theorem wfL_len : ∀ {fs : List MF} {cs : List AV}, wfL fs cs → fs.length = cs.length
 | fs, [], h => by
  have : fs = [] := h
  rw [this]
  rfl
 | [], _ :: _, h => absurd rfl h.1
 | f :: fs, c :: cs, h => by
  have := wfL_len (wfL_cons.1 h).2
  simp [this]
theorem wfL_append : ∀ {A B : List MF} {X Y : List AV}, A.length = X.length → (wfL (A ++ B) (X ++ Y) ↔ wfL A X ∧ wfL B Y)
 | [], B, [], Y, _ => by
  show _ ↔ (([] : List MF) = [] ∧ _)
  simp
 | f :: A, B, x :: X, Y, h => by
  have ih := wfL_append (A := A) (B := B) (X := X) (Y := Y) (by simpa using h)
  rw [List.cons_append, List.cons_append, wfL_cons, wfL_cons, ih, and_assoc]
mutual
theorem mkF_cnt : ∀ (x : AV) (f : MF) (k : Int), (mkF f k x).2 = k + cntF f x
 | .sc v, f, k => by cases f <;> simp [mkF, cntF]
 | .ro n cells, f, k => by
  cases f <;> first | (simp [mkF, cntF]; done) | exact mkL_cnt cells _ k
 | .agg cs, f, k => by simp [mkF, cntF]
 | .tup cs, f, k => by simp [mkF, cntF]
 | .any, f, k => by simp [mkF, cntF]
 | .nl, f, k => by simp [mkF, cntF]
 | .sl .., f, k => by simp [mkF, cntF]
 | .ptr .., f, k => by simp [mkF, cntF]
 | .rp .., f, k => by simp [mkF, cntF]
 | .fn .., f, k => by simp [mkF, cntF]
theorem mkL_cnt : ∀ (cs : List AV) (fs : List MF) (k : Int), (mkL fs k cs).2 = k + cntL fs cs
 | [], fs, k => by simp [mkL, cntL]
 | c :: cs, fs, k => by
  show (mkL fs.tail (mkF (fs.headD .skip) k c).2 cs).2 = k + ((cntF (fs.headD .skip) c + cntL fs.tail cs : Nat) : Int)
  rw [mkL_cnt cs, mkF_cnt c]
  omega
end
theorem mkL_len : ∀ (cs : List AV) (fs : List MF) (k : Int), (mkL fs k cs).1.length = cs.length
 | [], fs, k => by simp [mkL]
 | c :: cs, fs, k => by
  show (mkL fs.tail _ cs).1.length + 1 = cs.length + 1
  rw [mkL_len cs]
mutual
theorem mkF_nb : ∀ (x : AV) (f : MF) (k : Int), nbT (mkF f k x).1 = nbT x
 | .sc v, f, k => by cases f <;> rfl
 | .ro n cells, f, k => by
  cases f <;> first | rfl | (show 1 + nbL _ = 1 + nbL _; rw [mkL_nb cells])
 | .agg cs, f, k => by simp [mkF]
 | .tup cs, f, k => by simp [mkF]
 | .any, f, k => by simp [mkF]
 | .nl, f, k => by simp [mkF]
 | .sl .., f, k => by simp [mkF]
 | .ptr .., f, k => by simp [mkF]
 | .rp .., f, k => by simp [mkF]
 | .fn .., f, k => by simp [mkF]
theorem mkL_nb : ∀ (cs : List AV) (fs : List MF) (k : Int), nbL (mkL fs k cs).1 = nbL cs
 | [], fs, k => by simp [mkL]
 | c :: cs, fs, k => by
  show nbT (mkF (fs.headD .skip) k c).1 + nbL (mkL fs.tail _ cs).1 = nbT c + nbL cs
  rw [mkF_nb c, mkL_nb cs]
end
mutual
theorem inst_nb {ti : Nat → Option TI} {tp : Nat → Option (List Nat)} : ∀ (x : AV) (N ty : Nat), (instT ti tp N ty x).2.length = nbT x
 | .sc v, N, ty => rfl
 | .ro n cells, N, ty => by
  simp only [instT, List.length_cons, nbT, instL_nb cells, Nat.add_comm]
 | .agg cs, N, ty => instL_nb cs _ _
 | .tup cs, N, ty => instL_nb cs _ _
 | .any, N, ty => rfl
 | .nl, N, ty => rfl
 | .sl .., N, ty => rfl
 | .ptr .., N, ty => rfl
 | .rp .., N, ty => rfl
 | .fn .., N, ty => rfl
theorem instL_nb {ti : Nat → Option TI} {tp : Nat → Option (List Nat)} : ∀ (cs : List AV) (N : Nat) (ts : List Nat), (instL ti tp N ts cs).2.length = nbL cs
 | [], N, ts => rfl
 | c :: cs, N, ts => by
  simp only [instL, List.length_append, nbL, inst_nb c, instL_nb cs]
end
theorem nbL_append : ∀ (X Y : List AV), nbL (X ++ Y) = nbL X + nbL Y
 | [], Y => by simp [nbL]
 | c :: X, Y => by
  show nbT c + nbL (X ++ Y) = nbT c + nbL X + nbL Y
  rw [nbL_append X Y, Nat.add_assoc]
theorem inst_mid {ti : Nat → Option TI} {tp : Nat → Option (List Nat)} (TP TS : List Nat) (t : Nat) (P S : List AV) (c : AV) (N : Nat) (h : TP.length = P.length) :
  instL ti tp N (TP ++ t :: TS) (P ++ c :: S) = ((instL ti tp N TP P).1 ++ (instT ti tp (N + nbL P) t c).1 :: (instL ti tp (N + nbL P + nbT c) TS S).1, (instL ti tp N TP P).2 ++ ((instT ti tp (N + nbL P) t c).2 ++ (instL ti tp (N + nbL P + nbT c) TS S).2)) := by
 rw [instL_append TP P (t :: TS) (c :: S) N h, instL_nb]
 have e : instL ti tp (N + nbL P) (t :: TS) (c :: S) = ((instT ti tp (N + nbL P) t c).1 :: (instL ti tp (N + nbL P + nbT c) TS S).1, (instT ti tp (N + nbL P) t c).2 ++ (instL ti tp (N + nbL P + nbT c) TS S).2) := by
  rw [instL, inst_nb]
  rfl
 rw [e]
end lists
section steps
variable {β : Type} {n : Nat} {r : Option β}
noncomputable def SB (N : Nat) (T : List Nat) (cells : List AV) : List Blk := ⟨(instL ti0 E0.tp (N + 1) T cells).1, true, true⟩ :: (instL ti0 E0.tp (N + 1) T cells).2
theorem inst_SB {ty len : Nat} {cells : List AV} {i j : TI} (h1 : ti0 ty = some i) (h2 : ti0 i.elem = some j) (N : Nat) : instT ti0 E0.tp N ty (.ro len cells) = (.sl N 0 len j.size, SB N (List.replicate len j.cty).flatten cells) := by
 simp only [instT, h1, Option.bind_some, h2, Option.getD_some]
 rfl
theorem sb_store {A C : Heap} {TP TS : List Nat} {t p : Nat} {P S : List AV} {v0 v : Value} (hT : TP.length = P.length) (hv : leafV v = true) (hp : p = P.length) (K : Heap → Option β) :
  pStore 1 (.ptr A.length p) (.sc v) (A ++ (SB A.length (TP ++ t :: TS) (P ++ .sc v0 :: S) ++ C)) K = K (A ++ (SB A.length (TP ++ t :: TS) (P ++ .sc v :: S) ++ C)) := by
 have hc : cellsA (.sc v) = some [.sc v] := by simp only [cellsA, isLeaf, hv, if_true]
 have hl : (instL ti0 E0.tp (A.length + 1) TP P).1.length = P.length := instL_len _ _ _
 simp only [SB, inst_mid TP TS t P S _ _ hT, instT_sc, nbT, List.cons_append]
 rw [st_at 1 A.length p (.sc v) _ _ _ _ (get_at A _ _) hc rfl (by simp [hl, hp]) rfl, set_at]
 have := splice_mid (instL ti0 E0.tp (A.length + 1) TP P).1 [.sc v0] (instL ti0 E0.tp (A.length + 1 + nbL P + 0) TS S).1 [.sc v] rfl
 simp only [List.singleton_append, hl] at this
 rw [hp, this]
theorem sb_load {A C : Heap} {TP TS : List Nat} {t p : Nat} {P S : List AV} {c : AV} (hT : TP.length = P.length) (hp : p = P.length) (K : AV → Option β) :
  pLoad false 1 (.ptr A.length p) (A ++ (SB A.length (TP ++ t :: TS) (P ++ c :: S) ++ C)) K = K (instT ti0 E0.tp (A.length + 1 + nbL P) t c).1 := by
 have hl : (instL ti0 E0.tp (A.length + 1) TP P).1.length = P.length := instL_len _ _ _
 simp only [SB, inst_mid TP TS t P S _ _ hT, List.cons_append]
 refine ldF ?_ K
 have : p + 1 ≤ ((instL ti0 E0.tp (A.length + 1) TP P).1 ++ (instT ti0 E0.tp (A.length + 1 + nbL P) t c).1 :: (instL ti0 E0.tp (A.length + 1 + nbL P + nbT c) TS S).1).length := by simp [hl, hp]
 simp only [rdCells, get_at, if_true, this]
 rw [hp, ← hl, List.drop_append_of_le_length (Nat.le_refl _), List.drop_length]
 rfl
def MarkC (n f ty : Nat) (t t' : AV) (k k' : Int) : Prop := ∀ (β : Type) (A C : Heap) (K : AV → Heap → Option β) (r : Option β),
 (∀ X, K (.sc (.int .i64 k')) (A ++ ((instT ti0 E0.tp A.length ty t').2 ++ (C ++ X))) = r) → evalFn E0 n β f [(instT ti0 E0.tp A.length ty t).1, .sc (.int .i64 k)] (A ++ ((instT ti0 E0.tp A.length ty t).2 ++ C)) K = r
theorem PR_hm {ty : Nat} {f : FuncId} {args : List AV} {H : Heap} {K : AV → Heap → Option β} (hh : E0.hm f = true) (hx : E0.ext f = none) : (PR n β).call ty (.fn f [] []) args H K = evalFn E0 n β f args H K := by
 show callF E0 (evalFn E0 n) ty f ([] ++ args ++ []) H K = _
 simp only [callF, hx, hh, List.nil_append, List.append_nil, if_true]
theorem ms_sub {A C : Heap} {TP TS : List Nat} {t p ty g : Nat} {P S : List AV} {c c' : AV} {k k' : Int} {K : AV → Heap → Option β} (hT : TP.length = P.length) (hp : p = P.length) (hh : E0.hm g = true) (hx : E0.ext g = none) (hmk : MarkC n g t c c' k k') (hs : ∀ M, (instT ti0 E0.tp M t c').1 = (instT ti0 E0.tp M t c).1) (hn : nbT c' = nbT c)
  (h : ∀ X, K (.sc (.int .i64 k')) (A ++ (SB A.length (TP ++ t :: TS) (P ++ c' :: S) ++ (C ++ X))) = r) :
  (pLoad false 1 (.ptr A.length p) (A ++ (SB A.length (TP ++ t :: TS) (P ++ c :: S) ++ C)) fun v => (PR n β).call ty (.fn g [] []) [v, .sc (.int .i64 k)] (A ++ (SB A.length (TP ++ t :: TS) (P ++ c :: S) ++ C)) K) = r := by
 rw [sb_load hT hp, PR_hm hh hx]
 have e : ∀ (d : AV) (D : Heap), A ++ (SB A.length (TP ++ t :: TS) (P ++ d :: S) ++ D) = (A ++ ⟨(instL ti0 E0.tp (A.length + 1) TP P).1 ++ (instT ti0 E0.tp (A.length + 1 + nbL P) t d).1 :: (instL ti0 E0.tp (A.length + 1 + nbL P + nbT d) TS S).1, true, true⟩ :: (instL ti0 E0.tp (A.length + 1) TP P).2) ++ ((instT ti0 E0.tp (A.length + 1 + nbL P) t d).2 ++ ((instL ti0 E0.tp (A.length + 1 + nbL P + nbT d) TS S).2 ++ D)) := by
  intro d D
  simp only [SB, inst_mid TP TS t P S _ _ hT, List.cons_append, List.append_assoc]
 have hN : ∀ b : Blk, (A ++ b :: (instL ti0 E0.tp (A.length + 1) TP P).2).length = A.length + 1 + nbL P := by
  intro b
  rw [List.length_append, List.length_cons, instL_nb]
  omega
 rw [e c C]
 have key := hmk β (A ++ ⟨(instL ti0 E0.tp (A.length + 1) TP P).1 ++ (instT ti0 E0.tp (A.length + 1 + nbL P) t c).1 :: (instL ti0 E0.tp (A.length + 1 + nbL P + nbT c) TS S).1, true, true⟩ :: (instL ti0 E0.tp (A.length + 1) TP P).2) ((instL ti0 E0.tp (A.length + 1 + nbL P + nbT c) TS S).2 ++ C) K r
 rw [hN] at key
 refine key fun X => ?_
 have h2 := h X
 rw [e c' (C ++ X), hs, hn] at h2
 simp only [List.append_assoc, List.cons_append] at h2 ⊢
 exact h2
end steps
structure FD where
 f : MF
 path : List Nat
 g : FuncId
def TxtOk (n tS g : Nat) : Prop := plainF g = false ∧ ∀ k : Int, 0 ≤ k → k ≤ 4611686018427387904 → tree E0 n tS g [.sc (.int .i64 k)] = some (.sc (.string (mTxt k)))
def MarkOk (n g ty : Nat) (fs : List MF) : Prop := E0.hm g = true ∧ E0.ext g = none ∧ (∃ i j, ti0 ty = some i ∧ ti0 i.elem = some j) ∧ ∀ (len : Nat) (cells : List AV) (k : Int), wfF (.sub fs) (.ro len cells) → 0 ≤ k → k + cntF (.sub fs) (.ro len cells) ≤ 4611686018427387904 →
 MarkC n g ty (.ro len cells) (mkF (.sub fs) k (.ro len cells)).1 k (mkF (.sub fs) k (.ro len cells)).2
def HeldOk (n g : Nat) (fs : List MF) : Prop := plainF g = false ∧ ∀ (ty len : Nat) (cells : List AV) (k : Int), wfF (.sub fs) (.ro len cells) → 0 ≤ k → k + cntF (.sub fs) (.ro len cells) ≤ 4611686018427387904 →
 tree E0 n ty g [(mkF (.sub fs) k (.ro len cells)).1, .sc (.int .i64 k)] = some (.sc (.int .i64 (mkF (.sub fs) k (.ro len cells)).2))
def subM (n t g : Nat) : MF → Prop
 | .sub fs => MarkOk n g t fs
 | _ => True
def subH (n g : Nat) : MF → Prop
 | .sub fs => HeldOk n g fs
 | _ => True
def FdsM (n : Nat) : Nat → List FD → List Nat → Prop
 | off, fd :: r, t :: ts => fd.path.sum = off ∧ subM n t fd.g fd.f ∧ FdsM n (off + 1) r ts
 | _, [], [] => True
 | _, _, _ => False
def FdsH (n : Nat) : Nat → List FD → Prop
 | off, fd :: r => fd.path.sum = off ∧ subH n fd.g fd.f ∧ FdsH n (off + 1) r
 | _, [] => True
section fns
variable {β : Type}
def fadrs (p : Pr β) : List Nat → AV → (AV → Option β) → Option β
 | [], x, K => K x
 | o :: r, x, K => p.fadr o x fun t => fadrs p r t K
def bodyM (p : Pr β) (tS tI gT w : Nat) (a i : AV) : List FD → AV → Heap → (AV → Heap → Option β) → Option β
 | [], k, H, K => K k H
 | ⟨.str, path, _⟩ :: r, k, H, K => p.call tS (.fn gT [] []) [k] H fun s H => p.iadr w a i fun t => fadrs p path t fun t => p.store 1 t s H fun H => p.bin .add k (.sc (.int .i64 1)) fun k => bodyM p tS tI gT w a i r k H K
 | ⟨.int, path, _⟩ :: r, k, H, K => p.iadr w a i fun t => fadrs p path t fun t => p.store 1 t k H fun H => p.bin .add k (.sc (.int .i64 1)) fun k => bodyM p tS tI gT w a i r k H K
 | ⟨.bool, path, _⟩ :: r, k, H, K => p.bin .rem k (.sc (.int .i64 3)) fun q => p.bin .eql q (.sc (.int .i64 0)) fun b => p.iadr w a i fun t => fadrs p path t fun t => p.store 1 t b H fun H => p.bin .add k (.sc (.int .i64 1)) fun k => bodyM p tS tI gT w a i r k H K
 | ⟨.byt, path, _⟩ :: r, k, H, K => p.cvI .u8 k fun c => p.iadr w a i fun t => fadrs p path t fun t => p.store 1 t c H fun H => p.bin .add k (.sc (.int .i64 1)) fun k => bodyM p tS tI gT w a i r k H K
 | ⟨.sub _, path, g⟩ :: r, k, H, K => p.iadr w a i fun t => fadrs p path t fun t => p.load false 1 t H fun v => p.call tI (.fn g [] []) [v, k] H fun k H => bodyM p tS tI gT w a i r k H K
 | ⟨.skip, _, _⟩ :: r, k, H, K => bodyM p tS tI gT w a i r k H K
def bodyH (p : Pr β) (tS tI gT w : Nat) (a i : AV) (F : Heap → Option β) : List FD → AV → Heap → (AV → Heap → Option β) → Option β
 | [], k, H, K => K k H
 | ⟨.str, path, _⟩ :: r, k, H, K => p.iadr w a i fun t => fadrs p path t fun t => p.load false 1 t H fun v => p.call tS (.fn gT [] []) [k] H fun s H => p.bin .neq v s fun b => p.cond b (F H) (p.bin .add k (.sc (.int .i64 1)) fun k => bodyH p tS tI gT w a i F r k H K)
 | ⟨.int, path, _⟩ :: r, k, H, K => p.iadr w a i fun t => fadrs p path t fun t => p.load false 1 t H fun v => p.bin .neq v k fun b => p.cond b (F H) (p.bin .add k (.sc (.int .i64 1)) fun k => bodyH p tS tI gT w a i F r k H K)
 | ⟨.bool, path, _⟩ :: r, k, H, K => p.iadr w a i fun t => fadrs p path t fun t => p.load false 1 t H fun v => p.bin .rem k (.sc (.int .i64 3)) fun q => p.bin .eql q (.sc (.int .i64 0)) fun e => p.binB .neq v e fun b => p.cond b (F H) (p.bin .add k (.sc (.int .i64 1)) fun k => bodyH p tS tI gT w a i F r k H K)
 | ⟨.byt, path, _⟩ :: r, k, H, K => p.iadr w a i fun t => fadrs p path t fun t => p.load false 1 t H fun v => p.cvI .u8 k fun c => p.bin .neq v c fun b => p.cond b (F H) (p.bin .add k (.sc (.int .i64 1)) fun k => bodyH p tS tI gT w a i F r k H K)
 | ⟨.sub _, path, g⟩ :: r, k, H, K => p.iadr w a i fun t => fadrs p path t fun t => p.load false 1 t H fun v => p.call tI (.fn g [] []) [v, k] H fun k H => p.bin .lss k (.sc (.int .i64 0)) fun b => p.cond b (F H) (bodyH p tS tI gT w a i F r k H K)
 | ⟨.skip, _, _⟩ :: r, k, H, K => bodyH p tS tI gT w a i F r k H K
variable {n : Nat} {res : Option β}
theorem fadrs_ptr : ∀ (path : List Nat) (id off : Nat) (K : AV → Option β), fadrs (PR n β) path (.ptr id off) K = K (.ptr id (off + path.sum))
 | [], id, off, K => rfl
 | o :: r, id, off, K => by
  show fadrs (PR n β) r (.ptr id (off + o)) K = _
  rw [fadrs_ptr r, List.sum_cons, Nat.add_assoc]
theorem fadrs_rp : ∀ (path : List Nat) (cells : List AV) (K : AV → Option β), fadrs (PR n β) path (.rp cells) K = K (.rp (cells.drop path.sum))
 | [], cells, K => by simp [fadrs]
 | o :: r, cells, K => by
  show fadrs (PR n β) r (.rp (cells.drop o)) K = _
  rw [fadrs_rp r, List.sum_cons, List.drop_drop]
theorem add1 (k : Int) (K : AV → Option β) (h0 : 0 ≤ k) (h1 : k ≤ 4611686018427387904) : pBin .add (.sc (.int .i64 k)) (.sc (.int .i64 1)) K = K (.sc (.int .i64 (k + 1))) := by
 show K (.sc (.int .i64 (IntKind.i64.wrap (k + 1)))) = _
 rw [wrap64 _ (by omega) (by omega)]
theorem rem3 (k : Int) (K : AV → Option β) : (pBin .rem (.sc (.int .i64 k)) (.sc (.int .i64 3)) fun q => pBin .eql q (.sc (.int .i64 0)) K) = K (.sc (.bool (k.tmod 3 == 0))) := rfl
theorem cv8 (k : Int) (K : AV → Option β) : pCvI .u8 (.sc (.int .i64 k)) K = K (.sc (.int .u8 (IntKind.u8.wrap k))) := rfl
theorem call_txt {tS gT : Nat} (h : TxtOk n tS gT) {k : Int} (h0 : 0 ≤ k) (h1 : k ≤ 4611686018427387904) (H : Heap) (K : AV → Heap → Option β) : (PR n β).call tS (.fn gT [] []) [.sc (.int .i64 k)] H K = K (.sc (.string (mTxt k))) H := by
 rw [PR_call (vs := [.sc (.int .i64 k)]) h.1 rfl (h.2 k h0 h1), instT_sc, List.append_nil]
theorem body_m {tS tI gT w len i : Nat} (hT : TxtOk n tS gT) (hi : i < len) : ∀ (todo : List FD) (off : Nat) (Q R S : List AV) (TP tR TS : List Nat) (k : Int) (A C : Heap) (K : AV → Heap → Option β),
  FdsM n off todo tR → TP.length = Q.length → Q.length = i * w + off → wfL (todo.map FD.f) R → 0 ≤ k → k + cntL (todo.map FD.f) R ≤ 4611686018427387904 →
  (∀ X, K (.sc (.int .i64 (mkL (todo.map FD.f) k R).2)) (A ++ (SB A.length (TP ++ (tR ++ TS)) (Q ++ ((mkL (todo.map FD.f) k R).1 ++ S)) ++ (C ++ X))) = res) →
  bodyM (PR n β) tS tI gT w (.sl A.length 0 len w) (.sc (.int .i64 i)) todo (.sc (.int .i64 k)) (A ++ (SB A.length (TP ++ (tR ++ TS)) (Q ++ (R ++ S)) ++ C)) K = res
 | [], off, Q, R, S, TP, tR, TS, k, A, C, K, hf, ht, hq, hw, h0, h1, h => by
  cases R with
  | nil =>
   have := h []
   simp only [List.append_nil] at this
   exact this
  | cons c R => exact absurd rfl hw.1
 | fd :: todo, off, Q, R, S, TP, tR, TS, k, A, C, K, hf, ht, hq, hw, h0, h1, h => by
  cases R with
  | nil => exact absurd (show fd.f :: todo.map FD.f = [] from hw) (by simp)
  | cons c R =>
  cases tR with
  | nil => exact hf.elim
  | cons t tR =>
  obtain ⟨hpath, hsub, hrest⟩ := hf
  obtain ⟨hwc, hwR⟩ := wfL_cons.1 hw
  have hpl : ∀ K' : AV → Option β, (pIadr w (.sl A.length 0 len w) (.sc (.int .i64 i)) fun t => fadrs (PR n β) fd.path t K') = K' (.ptr A.length Q.length) := fun K' => by
   rw [iadr_sl w _ _ _ _ _ hi, fadrs_ptr, hpath, hq, Nat.zero_add]
  have hcnt : cntL ((fd :: todo).map FD.f) (c :: R) = cntF fd.f c + cntL (todo.map FD.f) R := rfl
  have hmk : mkL ((fd :: todo).map FD.f) k (c :: R) = ((mkF fd.f k c).1 :: (mkL (todo.map FD.f) (mkF fd.f k c).2 R).1, (mkL (todo.map FD.f) (mkF fd.f k c).2 R).2) := rfl
  rw [hcnt] at h1
  rw [hmk] at h
  have e1 : ∀ (x : AV) (Y : List AV), Q ++ (x :: Y ++ S) = Q ++ x :: (Y ++ S) := fun x Y => rfl
  have e2 : ∀ (x : AV) (Y : List AV), Q ++ x :: (Y ++ S) = (Q ++ [x]) ++ (Y ++ S) := fun x Y => by simp
  have e3 : TP ++ (t :: tR ++ TS) = (TP ++ [t]) ++ (tR ++ TS) := by simp
  have e4 : TP ++ (t :: tR ++ TS) = TP ++ t :: (tR ++ TS) := rfl
  have go : ∀ (c' : AV) (k' : Int) (C : Heap) (K : AV → Heap → Option β), 0 ≤ k' → k' + cntL (todo.map FD.f) R ≤ 4611686018427387904 →
    (∀ X, K (.sc (.int .i64 (mkL (todo.map FD.f) k' R).2)) (A ++ (SB A.length (TP ++ (t :: tR ++ TS)) (Q ++ (c' :: (mkL (todo.map FD.f) k' R).1 ++ S)) ++ (C ++ X))) = res) →
    bodyM (PR n β) tS tI gT w (.sl A.length 0 len w) (.sc (.int .i64 i)) todo (.sc (.int .i64 k')) (A ++ (SB A.length (TP ++ (t :: tR ++ TS)) (Q ++ c' :: (R ++ S)) ++ C)) K = res := by
   intro c' k' C K h0' h1' h'
   have := body_m (tI := tI) (w := w) hT hi todo (off + 1) (Q ++ [c']) R S (TP ++ [t]) tR TS k' A C K hrest (by simp [ht]) (by simp [hq]; omega) hwR h0' h1' (fun X => by
    have := h' X
    rw [e1, e2, e3] at this
    exact this)
   rw [e3, e2]
   exact this
  obtain ⟨f, path, g⟩ := fd
  cases f with
  | skip =>
   have hc : ∃ v, c = .sc v := by
    cases c <;> first | exact ⟨_, rfl⟩ | exact hwc.elim
   obtain ⟨v, rfl⟩ := hc
   exact go (.sc v) k C K h0 (by simpa [cntF] using h1) h
  | sub fs =>
   have hc : ∃ m cells, c = .ro m cells := by
    cases c with
    | ro m cells => exact ⟨m, cells, rfl⟩
    | sc v => exact hwc.elim
    | _ => exact hwc.elim
   obtain ⟨m, cells, rfl⟩ := hc
   obtain ⟨hh, hx, ⟨j1, j2, hj1, hj2⟩, hmk'⟩ := hsub
   have hk' := mkF_cnt (.ro m cells) (.sub fs) k
   have h1 : k + (cntF (.sub fs) (.ro m cells) + cntL (todo.map FD.f) R : Nat) ≤ 4611686018427387904 := h1
   show (pIadr w (.sl A.length 0 len w) (.sc (.int .i64 i)) fun t => fadrs (PR n β) path t fun t => pLoad false 1 t _ fun v => (PR n β).call tI (.fn g [] []) [v, .sc (.int .i64 k)] _ fun k H => bodyM (PR n β) tS tI gT w _ _ todo k H K) = res
   rw [hpl]
   rw [e4, e1]
   refine ms_sub ht rfl hh hx (hmk' m cells k hwc h0 (by omega)) (fun M => ?_) (mkF_nb _ _ _) fun X => ?_
   ·rw [inst_SB hj1 hj2]
    show (instT ti0 E0.tp M t (.ro m _)).1 = _
    rw [inst_SB hj1 hj2]
   ·refine go _ _ (C ++ X) K (by omega) (by omega) fun Y => ?_
    rw [List.append_assoc]
    exact h (X ++ Y)
  | str =>
   have hc : ∃ s, c = .sc (.string s) := by
    cases c with
    | sc v => cases v <;> first | exact ⟨_, rfl⟩ | exact hwc.elim
    | _ => exact hwc.elim
   obtain ⟨v, rfl⟩ := hc
   have h1 : k + (1 + cntL (todo.map FD.f) R : Nat) ≤ 4611686018427387904 := h1
   show (PR n β).call tS (.fn gT [] []) [.sc (.int .i64 k)] _ (fun s H => pIadr w (.sl A.length 0 len w) (.sc (.int .i64 i)) fun t => fadrs (PR n β) path t fun t => pStore 1 t s H fun H => pBin .add (.sc (.int .i64 k)) (.sc (.int .i64 1)) fun k => bodyM (PR n β) tS tI gT w _ _ todo k H K) = res
   rw [call_txt hT h0 (by omega)]
   simp only [hpl]
   rw [e4, e1, sb_store ht rfl rfl, add1 _ _ h0 (by omega)]
   exact go _ _ C K (by omega) (by omega) h
  | int =>
   have hc : ∃ z, c = .sc (.int .i64 z) := by
    cases c with
    | sc v => cases v with
     | int kd z => cases kd <;> first | exact ⟨_, rfl⟩ | exact hwc.elim
     | _ => exact hwc.elim
    | _ => exact hwc.elim
   obtain ⟨v, rfl⟩ := hc
   have h1 : k + (1 + cntL (todo.map FD.f) R : Nat) ≤ 4611686018427387904 := h1
   show (pIadr w (.sl A.length 0 len w) (.sc (.int .i64 i)) fun t => fadrs (PR n β) path t fun t => pStore 1 t (.sc (.int .i64 k)) _ fun H => pBin .add (.sc (.int .i64 k)) (.sc (.int .i64 1)) fun k => bodyM (PR n β) tS tI gT w _ _ todo k H K) = res
   rw [hpl]
   rw [e4, e1, sb_store ht rfl rfl, add1 _ _ h0 (by omega)]
   exact go _ _ C K (by omega) (by omega) h
  | bool =>
   have hc : ∃ b, c = .sc (.bool b) := by
    cases c with
    | sc v => cases v <;> first | exact ⟨_, rfl⟩ | exact hwc.elim
    | _ => exact hwc.elim
   obtain ⟨v, rfl⟩ := hc
   have h1 : k + (1 + cntL (todo.map FD.f) R : Nat) ≤ 4611686018427387904 := h1
   show (pIadr w (.sl A.length 0 len w) (.sc (.int .i64 i)) fun t => fadrs (PR n β) path t fun t => pStore 1 t (.sc (.bool (k.tmod 3 == 0))) _ fun H => pBin .add (.sc (.int .i64 k)) (.sc (.int .i64 1)) fun k => bodyM (PR n β) tS tI gT w _ _ todo k H K) = res
   rw [hpl]
   rw [e4, e1, sb_store ht rfl rfl, add1 _ _ h0 (by omega)]
   exact go _ _ C K (by omega) (by omega) h
  | byt =>
   have hc : ∃ z, c = .sc (.int .u8 z) := by
    cases c with
    | sc v => cases v with
     | int kd z => cases kd <;> first | exact ⟨_, rfl⟩ | exact hwc.elim
     | _ => exact hwc.elim
    | _ => exact hwc.elim
   obtain ⟨v, rfl⟩ := hc
   have h1 : k + (1 + cntL (todo.map FD.f) R : Nat) ≤ 4611686018427387904 := h1
   show (pIadr w (.sl A.length 0 len w) (.sc (.int .i64 i)) fun t => fadrs (PR n β) path t fun t => pStore 1 t (.sc (.int .u8 (IntKind.u8.wrap k))) _ fun H => pBin .add (.sc (.int .i64 k)) (.sc (.int .i64 1)) fun k => bodyM (PR n β) tS tI gT w _ _ todo k H K) = res
   rw [hpl]
   rw [e4, e1, sb_store ht rfl rfl, add1 _ _ h0 (by omega)]
   exact go _ _ C K (by omega) (by omega) h
end fns
end Go.Proofs.YtdameggfgnpehaaGreatDoor.Abs
