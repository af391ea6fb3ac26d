/- What the proof needs, part 3: a sound evaluator over trees, the program's functions on it, and what they come to. -/
import Derived.Test.YtdameggfgnpehaaGreatDoorMb
import Derived.Shelf.Strings.IndexAnyAll
import Derived.Shelf.Small.Utf8
import Derived.Lib.TrimUEq
import Derived.Lib.QuoteLoop
import Derived.Laws.RangeAny
import Derived.Laws.Runes
import Derived.WalkKit
import Derived.WalkMore
import Derived.Below
import Derived.LoopTactic
import Derived.Shelf.RegionOpenPlain
import Derived.Test.YtdameggfgnpehaaGreatDoorChecked
import Derived.Shelf.Unicode.ValidAny
import Derived.Shelf.Strings.Split
import Derived.Shelf.Vars
import Derived.Lib.ValidLaws
set_option linter.unusedVariables false
set_option linter.unusedSimpArgs false
set_option maxRecDepth 100000
namespace Go.Proofs.YtdameggfgnpehaaGreatDoor.Abs
open Go
variable {β : Type}
noncomputable def f46 (p : Pr β) (n : Nat) (a0 a1 : AV) (H : Heap) (k : AV → Heap → Option β) : Option β :=
 p.box a0 H fun t2 H =>
 p.box a1 H fun t3 H =>
 p.fadr 0 t2 fun t5 =>
 p.load false 1 t5 H fun t6 =>
 p.fadr 0 t3 fun t7 =>
 p.load false 1 t7 H fun t8 =>
 p.bin .neq t6 t8 fun t9 =>
 p.cond t9
 (k (.sc (.bool false)) H)
 (p.fadr 1 t2 fun t10 =>
 p.load false 1 t10 H fun t11 =>
 p.fadr 1 t3 fun t12 =>
 p.load false 1 t12 H fun t13 =>
 p.binB .neq t11 t13 fun t14 =>
 p.cond t14
 (k (.sc (.bool false)) H)
 (p.fadr 2 t2 fun t15 =>
 p.load false 1 t15 H fun t16 =>
 p.fadr 2 t3 fun t17 =>
 p.load false 1 t17 H fun t18 =>
 p.bin .neq t16 t18 fun t19 =>
 p.cond t19
 (k (.sc (.bool false)) H)
 (p.fadr 3 t2 fun t20 =>
 p.load false 1 t20 H fun t21 =>
 p.fadr 3 t3 fun t22 =>
 p.load false 1 t22 H fun t23 =>
 p.binB .neq t21 t23 fun t24 =>
 p.cond t24
 (k (.sc (.bool false)) H)
 (p.fadr 4 t2 fun t25 =>
 p.load false 1 t25 H fun t26 =>
 p.fadr 4 t3 fun t27 =>
 p.load false 1 t27 H fun t28 =>
 p.bin .neq t26 t28 fun t29 =>
 p.cond t29
 (k (.sc (.bool false)) H)
 (p.fadr 5 t2 fun t30 =>
 p.load false 1 t30 H fun t31 =>
 p.fadr 5 t3 fun t32 =>
 p.load false 1 t32 H fun t33 =>
 p.bin .neq t31 t33 fun t34 =>
 p.cond t34
 (k (.sc (.bool false)) H)
 (p.fadr 6 t2 fun t35 =>
 p.load false 1 t35 H fun t36 =>
 p.fadr 6 t3 fun t37 =>
 p.load false 1 t37 H fun t38 =>
 p.call 4 (.fn 71 [] []) [t36, t38] H fun t39 H =>
 p.un .not t39 fun t40 =>
 p.cond t40
 (k (.sc (.bool false)) H)
 (p.fadr 7 t2 fun t41 =>
 p.load false 1 t41 H fun t42 =>
 p.fadr 7 t3 fun t43 =>
 p.load false 1 t43 H fun t44 =>
 p.bin .neq t42 t44 fun t45 =>
 p.cond t45
 (k (.sc (.bool false)) H)
 (p.fadr 8 t2 fun t46 =>
 p.load false 1 t46 H fun t47 =>
 p.fadr 8 t3 fun t48 =>
 p.load false 1 t48 H fun t49 =>
 p.bin .neq t47 t49 fun t50 =>
 p.cond t50
 (k (.sc (.bool false)) H)
 (p.fadr 9 t2 fun t51 =>
 p.load false 1 t51 H fun t52 =>
 p.fadr 9 t3 fun t53 =>
 p.load false 1 t53 H fun t54 =>
 p.binB .neq t52 t54 fun t55 =>
 p.cond t55
 (k (.sc (.bool false)) H)
 (p.fadr 10 t2 fun t56 =>
 p.load false 1 t56 H fun t57 =>
 p.fadr 10 t3 fun t58 =>
 p.load false 1 t58 H fun t59 =>
 p.bin .neq t57 t59 fun t60 =>
 p.cond t60
 (k (.sc (.bool false)) H)
 (p.fadr 11 t2 fun t61 =>
 p.load false 1 t61 H fun t62 =>
 p.fadr 11 t3 fun t63 =>
 p.load false 1 t63 H fun t64 =>
 p.binB .neq t62 t64 fun t65 =>
 p.cond t65
 (k (.sc (.bool false)) H)
 (p.fadr 12 t2 fun t66 =>
 p.load false 1 t66 H fun t67 =>
 p.fadr 12 t3 fun t68 =>
 p.load false 1 t68 H fun t69 =>
 p.bin .neq t67 t69 fun t70 =>
 p.cond t70
 (k (.sc (.bool false)) H)
 (p.fadr 13 t2 fun t71 =>
 p.load false 1 t71 H fun t72 =>
 p.fadr 13 t3 fun t73 =>
 p.load false 1 t73 H fun t74 =>
 p.call 4 (.fn 71 [] []) [t72, t74] H fun t75 H =>
 p.un .not t75 fun t76 =>
 p.cond t76
 (k (.sc (.bool false)) H)
 (p.fadr 14 t2 fun t77 =>
 p.load false 1 t77 H fun t78 =>
 p.fadr 14 t3 fun t79 =>
 p.load false 1 t79 H fun t80 =>
 p.bin .neq t78 t80 fun t81 =>
 p.cond t81
 (k (.sc (.bool false)) H)
 (p.fadr 15 t2 fun t82 =>
 p.load false 1 t82 H fun t83 =>
 p.fadr 15 t3 fun t84 =>
 p.load false 1 t84 H fun t85 =>
 p.binB .neq t83 t85 fun t86 =>
 p.cond t86
 (k (.sc (.bool false)) H)
 (p.fadr 16 t2 fun t87 =>
 p.load false 1 t87 H fun t88 =>
 p.fadr 16 t3 fun t89 =>
 p.load false 1 t89 H fun t90 =>
 p.binB .neq t88 t90 fun t91 =>
 p.cond t91
 (k (.sc (.bool false)) H)
 (p.fadr 17 t2 fun t92 =>
 p.load false 1 t92 H fun t93 =>
 p.fadr 17 t3 fun t94 =>
 p.load false 1 t94 H fun t95 =>
 p.bin .neq t93 t95 fun t96 =>
 p.cond t96
 (k (.sc (.bool false)) H)
 (p.fadr 18 t2 fun t97 =>
 p.load false 1 t97 H fun t98 =>
 p.fadr 18 t3 fun t99 =>
 p.load false 1 t99 H fun t100 =>
 p.binB .neq t98 t100 fun t101 =>
 p.cond t101
 (k (.sc (.bool false)) H)
 (p.fadr 19 t2 fun t102 =>
 p.load false 1 t102 H fun t103 =>
 p.fadr 19 t3 fun t104 =>
 p.load false 1 t104 H fun t105 =>
 p.call 4 (.fn 71 [] []) [t103, t105] H fun t106 H =>
 p.un .not t106 fun t107 =>
 p.cond t107
 (k (.sc (.bool false)) H)
 (p.fadr 20 t2 fun t108 =>
 p.load false 1 t108 H fun t109 =>
 p.fadr 20 t3 fun t110 =>
 p.load false 1 t110 H fun t111 =>
 p.bin .neq t109 t111 fun t112 =>
 p.cond t112
 (k (.sc (.bool false)) H)
 (p.fadr 21 t2 fun t113 =>
 p.load false 1 t113 H fun t114 =>
 p.fadr 21 t3 fun t115 =>
 p.load false 1 t115 H fun t116 =>
 p.binB .neq t114 t116 fun t117 =>
 p.cond t117
 (k (.sc (.bool false)) H)
 (p.fadr 22 t2 fun t118 =>
 p.load false 1 t118 H fun t119 =>
 p.fadr 22 t3 fun t120 =>
 p.load false 1 t120 H fun t121 =>
 p.call 4 (.fn 112 [] []) [t119, t121] H fun t122 H =>
 p.un .not t122 fun t123 =>
 p.cond t123
 (k (.sc (.bool false)) H)
 (p.fadr 23 t2 fun t124 =>
 p.load false 1 t124 H fun t125 =>
 p.fadr 23 t3 fun t126 =>
 p.load false 1 t126 H fun t127 =>
 p.call 4 (.fn 113 [] []) [t125, t127] H fun t128 H =>
 p.un .not t128 fun t129 =>
 p.cond t129
 (k (.sc (.bool false)) H)
 (p.fadr 24 t2 fun t130 =>
 p.load false 1 t130 H fun t131 =>
 p.fadr 24 t3 fun t132 =>
 p.load false 1 t132 H fun t133 =>
 p.call 4 (.fn 63 [] []) [t131, t133] H fun t134 H =>
 p.un .not t134 fun t135 =>
 p.cond t135
 (k (.sc (.bool false)) H)
 (k (.sc (.bool true)) H)))))))))))))))))))))))))
theorem f46_body (p : Pr β) (n : Nat) (a0 a1 : AV) (H : Heap) (k : AV → Heap → Option β) : evalBody ti0 p n ⟨c46, 136, Go.Proofs.Tryz.f46.results.toList, o46⟩ [a0, a1] H k = f46 p n a0 a1 H k := by kernel_rfl
noncomputable def f98_l0 (p : Pr β) (n : Nat)  (k : AV → Heap → Option β) : Nat → AV → AV → Heap → Option β
 | 0, _, _, _ => none
 | m + 1, t0, t3, H => p.bin .gtr t0 (.sc (.int .i64 0)) fun t7 =>
   p.cond t7
   (p.bin .rem t0 (.sc (.int .i64 10)) fun t9 =>
   p.bin .add (.sc (.int .i64 48)) t9 fun t10 =>
   p.cvI .u8 t10 fun t11 =>
   p.fill [(.sc (.int .u8 0))] [(0, 1, t11)] fun ct12 => p.newSl 1 1 ct12 true H fun t12 H =>
   p.cvBS t12 H fun t13 =>
   p.bin .add t13 t3 fun t15 =>
   p.bin .quo t0 (.sc (.int .i64 10)) fun t17 =>
   f98_l0 p n  k m t17 t15 H)
   (p.bin .add (.sc (.string ⟨#[109]⟩)) t3 fun t19 =>
   k t19 H)
noncomputable def f98 (p : Pr β) (n : Nat) (a0 : AV) (H : Heap) (k : AV → Heap → Option β) : Option β :=
 p.bin .leq a0 (.sc (.int .i64 0)) fun t5 =>
 p.cond t5
 (k (.sc (.string ⟨#[109, 48]⟩)) H)
 (f98_l0 p n  k n a0 (.sc (.string ⟨#[]⟩)) H)
noncomputable def f98_L0 (p : Pr β) (n : Nat)  (k : AV → Heap → Option β) (m : Nat) (tm : Tm) (H : Heap) : Option β :=
 iterC 20 (fun tm H k => evalCode ti0 p o98 20 n (cd c98 [1, 1, 1, 0, 0, 0]) tm H k) (blkK 0 (seqK (fun tm H => evalCode ti0 p o98 20 n (cd c98 [1, 1, 1, 1]) tm H (endK ti0 p Go.Proofs.Tryz.f98.results.toList k)) (endK ti0 p Go.Proofs.Tryz.f98.results.toList k))) m tm H
theorem f98_L0_step (p : Pr β) (n : Nat)  (k : AV → Heap → Option β) (m0 : Nat) (t0 t1 t2 t3 t4 t5 t6 t7 t8 t9 t10 t11 t12 t13 t14 t15 t16 t17 t18 t19 : AV) (H : Heap) : f98_L0 p n  k (m0 + 1) (tz [t0, t1, t2, t3, t4, t5, t6, t7, t8, t9, t10, t11, t12, t13, t14, t15, t16, t17, t18, t19]) H =
 p.bin .gtr t0 (.sc (.int .i64 0)) fun t7 =>
 p.cond t7
 (p.bin .rem t0 (.sc (.int .i64 10)) fun t9 =>
 p.bin .add (.sc (.int .i64 48)) t9 fun t10 =>
 p.cvI .u8 t10 fun t11 =>
 p.fill [(.sc (.int .u8 0))] [(0, 1, t11)] fun ct12 => p.newSl 1 1 ct12 true H fun t12 H =>
 p.cvBS t12 H fun t13 =>
 p.bin .add t13 t3 fun t15 =>
 p.bin .quo t0 (.sc (.int .i64 10)) fun t17 =>
 f98_L0 p n  k m0 (tz [t17, t1, t2, t15, t4, t5, t0, t7, t0, t9, t10, t11, t12, t13, t3, t15, t0, t17, t18, t19]) H)
 (p.bin .add (.sc (.string ⟨#[109]⟩)) t3 fun t19 =>
 k t19 H) := by kernel_rfl
theorem f98_l0_eq (p : Pr β) (n : Nat)  (k : AV → Heap → Option β)   (m0 : Nat) : ∀ (t0 t1 t2 t3 t4 t5 t6 t7 t8 t9 t10 t11 t12 t13 t14 t15 t16 t17 t18 t19 : AV) (H : Heap), f98_L0 p n  k m0 (tz [t0, t1, t2, t3, t4, t5, t6, t7, t8, t9, t10, t11, t12, t13, t14, t15, t16, t17, t18, t19]) H = f98_l0 p n  k m0 t0 t3 H := by
 induction m0 with
 | zero => intros; rfl
 | succ m0 ih =>
  intro t0 t1 t2 t3 t4 t5 t6 t7 t8 t9 t10 t11 t12 t13 t14 t15 t16 t17 t18 t19 H
  rw [f98_L0_step]
  simp only [ih]
  rfl
theorem f98_raw (p : Pr β) (n : Nat) (a0 : AV) (H : Heap) (k : AV → Heap → Option β) : evalBody ti0 p n ⟨c98, 20, Go.Proofs.Tryz.f98.results.toList, o98⟩ [a0] H k =
 p.bin .leq a0 (.sc (.int .i64 0)) fun t5 =>
 p.cond t5
 (k (.sc (.string ⟨#[109, 48]⟩)) H)
 (f98_L0 p n  k n (tz [a0, uu, (.sc (.string ⟨#[]⟩)), (.sc (.string ⟨#[]⟩)), a0, t5, uu, uu, uu, uu, uu, uu, uu, uu, uu, uu, uu, uu, uu, uu]) H) := by kernel_rfl
theorem f98_body (p : Pr β) (n : Nat) (a0 : AV) (H : Heap) (k : AV → Heap → Option β) : evalBody ti0 p n ⟨c98, 20, Go.Proofs.Tryz.f98.results.toList, o98⟩ [a0] H k = f98 p n a0 H k := by
 rw [f98_raw]
 simp only [f98_l0_eq]
 rfl
noncomputable def f72_l0 (p : Pr β) (n : Nat)  (k : AV → Heap → Option β) : Nat → AV → AV → AV → Heap → Option β
 | 0, _, _, _, _ => none
 | m + 1, t0, t1, t5, H => p.len t0 fun t8 =>
   p.bin .lss t5 t8 fun t9 =>
   p.cond t9
   (p.cvI .u8 t1 fun t15 =>
   p.iadr 1 t0 t5 fun t16 =>
   p.store 1 t16 t15 H fun H =>
   p.bin .add t1 (.sc (.int .i64 1)) fun t18 =>
   p.bin .add t5 (.sc (.int .i64 1)) fun t11 =>
   f72_l0 p n  k m t0 t18 t11 H)
   (k t1 H)
noncomputable def f72 (p : Pr β) (n : Nat) (a0 a1 : AV) (H : Heap) (k : AV → Heap → Option β) : Option β :=
 f72_l0 p n  k n a0 a1 (.sc (.int .i64 0)) H
noncomputable def f72_L0 (p : Pr β) (n : Nat)  (k : AV → Heap → Option β) (m : Nat) (tm : Tm) (H : Heap) : Option β :=
 iterC 20 (fun tm H k => evalCode ti0 p o72 20 n (cd c72 [1, 0, 1, 0, 0]) tm H k) (blkK 0 (seqK (fun tm H => evalCode ti0 p o72 20 n (cd c72 [1, 1]) tm H (endK ti0 p Go.Proofs.Tryz.f72.results.toList k)) (endK ti0 p Go.Proofs.Tryz.f72.results.toList k))) m tm H
theorem f72_L0_step (p : Pr β) (n : Nat)  (k : AV → Heap → Option β) (m0 : Nat) (t0 t1 t2 t3 t4 t5 t6 t7 t8 t9 t10 t11 t12 t13 t14 t15 t16 t17 t18 t19 : AV) (H : Heap) : f72_L0 p n  k (m0 + 1) (tz [t0, t1, t2, t3, t4, t5, t6, t7, t8, t9, t10, t11, t12, t13, t14, t15, t16, t17, t18, t19]) H =
 p.len t0 fun t8 =>
 p.bin .lss t5 t8 fun t9 =>
 p.cond t9
 (p.cvI .u8 t1 fun t15 =>
 p.iadr 1 t0 t5 fun t16 =>
 p.store 1 t16 t15 H fun H =>
 p.bin .add t1 (.sc (.int .i64 1)) fun t18 =>
 p.bin .add t5 (.sc (.int .i64 1)) fun t11 =>
 f72_L0 p n  k m0 (tz [t0, t18, t2, t3, t4, t11, t5, t0, t8, t9, t5, t11, t0, t5, t1, t15, t16, t1, t18, t19]) H)
 (k t1 H) := by kernel_rfl
theorem f72_l0_eq (p : Pr β) (n : Nat)  (k : AV → Heap → Option β)   (m0 : Nat) : ∀ (t0 t1 t2 t3 t4 t5 t6 t7 t8 t9 t10 t11 t12 t13 t14 t15 t16 t17 t18 t19 : AV) (H : Heap), f72_L0 p n  k m0 (tz [t0, t1, t2, t3, t4, t5, t6, t7, t8, t9, t10, t11, t12, t13, t14, t15, t16, t17, t18, t19]) H = f72_l0 p n  k m0 t0 t1 t5 H := by
 induction m0 with
 | zero => intros; rfl
 | succ m0 ih =>
  intro t0 t1 t2 t3 t4 t5 t6 t7 t8 t9 t10 t11 t12 t13 t14 t15 t16 t17 t18 t19 H
  rw [f72_L0_step]
  simp only [ih]
  rfl
theorem f72_raw (p : Pr β) (n : Nat) (a0 a1 : AV) (H : Heap) (k : AV → Heap → Option β) : evalBody ti0 p n ⟨c72, 20, Go.Proofs.Tryz.f72.results.toList, o72⟩ [a0, a1] H k =
 f72_L0 p n  k n (tz [a0, a1, uu, uu, (.sc (.int .i64 0)), (.sc (.int .i64 0)), uu, uu, uu, uu, uu, uu, uu, uu, uu, uu, uu, uu, uu, uu]) H := by kernel_rfl
theorem f72_body (p : Pr β) (n : Nat) (a0 a1 : AV) (H : Heap) (k : AV → Heap → Option β) : evalBody ti0 p n ⟨c72, 20, Go.Proofs.Tryz.f72.results.toList, o72⟩ [a0, a1] H k = f72 p n a0 a1 H k := by
 rw [f72_raw]
 simp only [f72_l0_eq]
 rfl
noncomputable def f96_l0 (p : Pr β) (n : Nat)  (k : AV → Heap → Option β) : Nat → AV → AV → AV → Heap → Option β
 | 0, _, _, _, _ => none
 | m + 1, t0, t1, t5, H => p.len t0 fun t8 =>
   p.bin .lss t5 t8 fun t9 =>
   p.cond t9
   (p.iadr 6 t0 t5 fun t15 =>
   p.fadr 0 t15 fun t16 =>
   p.store 1 t16 t1 H fun H =>
   p.bin .add t1 (.sc (.int .i64 1)) fun t18 =>
   p.call 9 (.fn 98 [] []) [t18] H fun t22 H =>
   p.iadr 6 t0 t5 fun t23 =>
   p.fadr 1 t23 fun t24 =>
   p.fadr 0 t24 fun t25 =>
   p.store 1 t25 t22 H fun H =>
   p.bin .add t18 (.sc (.int .i64 1)) fun t27 =>
   p.iadr 6 t0 t5 fun t30 =>
   p.fadr 1 t30 fun t31 =>
   p.fadr 1 t31 fun t32 =>
   p.load false 1 t32 H fun t33 =>
   p.call 3 (.fn 72 [] []) [t33, t27] H fun t35 H =>
   p.iadr 6 t0 t5 fun t39 =>
   p.fadr 1 t39 fun t40 =>
   p.fadr 2 t40 fun t41 =>
   p.store 1 t41 t35 H fun H =>
   p.bin .add t35 (.sc (.int .i64 1)) fun t43 =>
   p.bin .rem t43 (.sc (.int .i64 3)) fun t47 =>
   p.bin .eql t47 (.sc (.int .i64 0)) fun t48 =>
   p.iadr 6 t0 t5 fun t49 =>
   p.fadr 1 t49 fun t50 =>
   p.fadr 3 t50 fun t51 =>
   p.store 1 t51 t48 H fun H =>
   p.bin .add t43 (.sc (.int .i64 1)) fun t53 =>
   p.iadr 6 t0 t5 fun t57 =>
   p.fadr 5 t57 fun t58 =>
   p.store 1 t58 t53 H fun H =>
   p.bin .add t53 (.sc (.int .i64 1)) fun t60 =>
   p.bin .add t5 (.sc (.int .i64 1)) fun t11 =>
   f96_l0 p n  k m t0 t60 t11 H)
   (k t1 H)
noncomputable def f96 (p : Pr β) (n : Nat) (a0 a1 : AV) (H : Heap) (k : AV → Heap → Option β) : Option β :=
 f96_l0 p n  k n a0 a1 (.sc (.int .i64 0)) H
noncomputable def f96_L0 (p : Pr β) (n : Nat)  (k : AV → Heap → Option β) (m : Nat) (tm : Tm) (H : Heap) : Option β :=
 iterC 62 (fun tm H k => evalCode ti0 p o96 62 n (cd c96 [1, 0, 1, 0, 0]) tm H k) (blkK 0 (seqK (fun tm H => evalCode ti0 p o96 62 n (cd c96 [1, 1]) tm H (endK ti0 p Go.Proofs.Tryz.f96.results.toList k)) (endK ti0 p Go.Proofs.Tryz.f96.results.toList k))) m tm H
theorem f96_L0_step (p : Pr β) (n : Nat)  (k : AV → Heap → Option β) (m0 : Nat) (t0 t1 t2 t3 t4 t5 t6 t7 t8 t9 t10 t11 t12 t13 t14 t15 t16 t17 t18 t19 t20 t21 t22 t23 t24 t25 t26 t27 t28 t29 t30 t31 t32 t33 t34 t35 t36 t37 t38 t39 t40 t41 t42 t43 t44 t45 t46 t47 t48 t49 t50 t51 t52 t53 t54 t55 t56 t57 t58 t59 t60 t61 : AV) (H : Heap) : f96_L0 p n  k (m0 + 1) (tz [t0, t1, t2, t3, t4, t5, t6, t7, t8, t9, t10, t11, t12, t13, t14, t15, t16, t17, t18, t19, t20, t21, t22, t23, t24, t25, t26, t27, t28, t29, t30, t31, t32, t33, t34, t35, t36, t37, t38, t39, t40, t41, t42, t43, t44, t45, t46, t47, t48, t49, t50, t51, t52, t53, t54, t55, t56, t57, t58, t59, t60, t61]) H =
 p.len t0 fun t8 =>
 p.bin .lss t5 t8 fun t9 =>
 p.cond t9
 (p.iadr 6 t0 t5 fun t15 =>
 p.fadr 0 t15 fun t16 =>
 p.store 1 t16 t1 H fun H =>
 p.bin .add t1 (.sc (.int .i64 1)) fun t18 =>
 p.call 9 (.fn 98 [] []) [t18] H fun t22 H =>
 p.iadr 6 t0 t5 fun t23 =>
 p.fadr 1 t23 fun t24 =>
 p.fadr 0 t24 fun t25 =>
 p.store 1 t25 t22 H fun H =>
 p.bin .add t18 (.sc (.int .i64 1)) fun t27 =>
 p.iadr 6 t0 t5 fun t30 =>
 p.fadr 1 t30 fun t31 =>
 p.fadr 1 t31 fun t32 =>
 p.load false 1 t32 H fun t33 =>
 p.call 3 (.fn 72 [] []) [t33, t27] H fun t35 H =>
 p.iadr 6 t0 t5 fun t39 =>
 p.fadr 1 t39 fun t40 =>
 p.fadr 2 t40 fun t41 =>
 p.store 1 t41 t35 H fun H =>
 p.bin .add t35 (.sc (.int .i64 1)) fun t43 =>
 p.bin .rem t43 (.sc (.int .i64 3)) fun t47 =>
 p.bin .eql t47 (.sc (.int .i64 0)) fun t48 =>
 p.iadr 6 t0 t5 fun t49 =>
 p.fadr 1 t49 fun t50 =>
 p.fadr 3 t50 fun t51 =>
 p.store 1 t51 t48 H fun H =>
 p.bin .add t43 (.sc (.int .i64 1)) fun t53 =>
 p.iadr 6 t0 t5 fun t57 =>
 p.fadr 5 t57 fun t58 =>
 p.store 1 t58 t53 H fun H =>
 p.bin .add t53 (.sc (.int .i64 1)) fun t60 =>
 p.bin .add t5 (.sc (.int .i64 1)) fun t11 =>
 f96_L0 p n  k m0 (tz [t0, t60, t2, t3, t4, t11, t5, t0, t8, t9, t5, t11, t0, t5, t1, t15, t16, t1, t18, t0, t5, t18, t22, t23, t24, t25, t18, t27, t0, t5, t30, t31, t32, t33, t27, t35, t0, t5, t35, t39, t40, t41, t35, t43, t0, t5, t43, t47, t48, t49, t50, t51, t43, t53, t0, t5, t53, t57, t58, t53, t60, t61]) H)
 (k t1 H) := by kernel_rfl
theorem f96_l0_eq (p : Pr β) (n : Nat)  (k : AV → Heap → Option β)   (m0 : Nat) : ∀ (t0 t1 t2 t3 t4 t5 t6 t7 t8 t9 t10 t11 t12 t13 t14 t15 t16 t17 t18 t19 t20 t21 t22 t23 t24 t25 t26 t27 t28 t29 t30 t31 t32 t33 t34 t35 t36 t37 t38 t39 t40 t41 t42 t43 t44 t45 t46 t47 t48 t49 t50 t51 t52 t53 t54 t55 t56 t57 t58 t59 t60 t61 : AV) (H : Heap), f96_L0 p n  k m0 (tz [t0, t1, t2, t3, t4, t5, t6, t7, t8, t9, t10, t11, t12, t13, t14, t15, t16, t17, t18, t19, t20, t21, t22, t23, t24, t25, t26, t27, t28, t29, t30, t31, t32, t33, t34, t35, t36, t37, t38, t39, t40, t41, t42, t43, t44, t45, t46, t47, t48, t49, t50, t51, t52, t53, t54, t55, t56, t57, t58, t59, t60, t61]) H = f96_l0 p n  k m0 t0 t1 t5 H := by
 induction m0 with
 | zero => intros; rfl
 | succ m0 ih =>
  intro t0 t1 t2 t3 t4 t5 t6 t7 t8 t9 t10 t11 t12 t13 t14 t15 t16 t17 t18 t19 t20 t21 t22 t23 t24 t25 t26 t27 t28 t29 t30 t31 t32 t33 t34 t35 t36 t37 t38 t39 t40 t41 t42 t43 t44 t45 t46 t47 t48 t49 t50 t51 t52 t53 t54 t55 t56 t57 t58 t59 t60 t61 H
  rw [f96_L0_step]
  simp only [ih]
  rfl
theorem f96_raw (p : Pr β) (n : Nat) (a0 a1 : AV) (H : Heap) (k : AV → Heap → Option β) : evalBody ti0 p n ⟨c96, 62, Go.Proofs.Tryz.f96.results.toList, o96⟩ [a0, a1] H k =
 f96_L0 p n  k n (tz [a0, a1, uu, uu, (.sc (.int .i64 0)), (.sc (.int .i64 0)), uu, uu, uu, uu, uu, uu, uu, uu, uu, uu, uu, uu, uu, uu, uu, uu, uu, uu, uu, uu, uu, uu, uu, uu, uu, uu, uu, uu, uu, uu, uu, uu, uu, uu, uu, uu, uu, uu, uu, uu, uu, uu, uu, uu, uu, uu, uu, uu, uu, uu, uu, uu, uu, uu, uu, uu]) H := by kernel_rfl
theorem f96_body (p : Pr β) (n : Nat) (a0 a1 : AV) (H : Heap) (k : AV → Heap → Option β) : evalBody ti0 p n ⟨c96, 62, Go.Proofs.Tryz.f96.results.toList, o96⟩ [a0, a1] H k = f96 p n a0 a1 H k := by
 rw [f96_raw]
 simp only [f96_l0_eq]
 rfl
noncomputable def f97_l0 (p : Pr β) (n : Nat)  (k : AV → Heap → Option β) : Nat → AV → AV → AV → Heap → Option β
 | 0, _, _, _, _ => none
 | m + 1, t0, t1, t5, H => p.len t0 fun t8 =>
   p.bin .lss t5 t8 fun t9 =>
   p.cond t9
   (p.call 9 (.fn 98 [] []) [t1] H fun t15 H =>
   p.iadr 4 t0 t5 fun t16 =>
   p.fadr 0 t16 fun t17 =>
   p.store 1 t17 t15 H fun H =>
   p.bin .add t1 (.sc (.int .i64 1)) fun t19 =>
   p.iadr 4 t0 t5 fun t22 =>
   p.fadr 1 t22 fun t23 =>
   p.load false 1 t23 H fun t24 =>
   p.call 3 (.fn 72 [] []) [t24, t19] H fun t26 H =>
   p.iadr 4 t0 t5 fun t30 =>
   p.fadr 2 t30 fun t31 =>
   p.store 1 t31 t26 H fun H =>
   p.bin .add t26 (.sc (.int .i64 1)) fun t33 =>
   p.bin .rem t33 (.sc (.int .i64 3)) fun t37 =>
   p.bin .eql t37 (.sc (.int .i64 0)) fun t38 =>
   p.iadr 4 t0 t5 fun t39 =>
   p.fadr 3 t39 fun t40 =>
   p.store 1 t40 t38 H fun H =>
   p.bin .add t33 (.sc (.int .i64 1)) fun t42 =>
   p.bin .add t5 (.sc (.int .i64 1)) fun t11 =>
   f97_l0 p n  k m t0 t42 t11 H)
   (k t1 H)
noncomputable def f97 (p : Pr β) (n : Nat) (a0 a1 : AV) (H : Heap) (k : AV → Heap → Option β) : Option β :=
 f97_l0 p n  k n a0 a1 (.sc (.int .i64 0)) H
noncomputable def f97_L0 (p : Pr β) (n : Nat)  (k : AV → Heap → Option β) (m : Nat) (tm : Tm) (H : Heap) : Option β :=
 iterC 44 (fun tm H k => evalCode ti0 p o97 44 n (cd c97 [1, 0, 1, 0, 0]) tm H k) (blkK 0 (seqK (fun tm H => evalCode ti0 p o97 44 n (cd c97 [1, 1]) tm H (endK ti0 p Go.Proofs.Tryz.f97.results.toList k)) (endK ti0 p Go.Proofs.Tryz.f97.results.toList k))) m tm H
theorem f97_L0_step (p : Pr β) (n : Nat)  (k : AV → Heap → Option β) (m0 : Nat) (t0 t1 t2 t3 t4 t5 t6 t7 t8 t9 t10 t11 t12 t13 t14 t15 t16 t17 t18 t19 t20 t21 t22 t23 t24 t25 t26 t27 t28 t29 t30 t31 t32 t33 t34 t35 t36 t37 t38 t39 t40 t41 t42 t43 : AV) (H : Heap) : f97_L0 p n  k (m0 + 1) (tz [t0, t1, t2, t3, t4, t5, t6, t7, t8, t9, t10, t11, t12, t13, t14, t15, t16, t17, t18, t19, t20, t21, t22, t23, t24, t25, t26, t27, t28, t29, t30, t31, t32, t33, t34, t35, t36, t37, t38, t39, t40, t41, t42, t43]) H =
 p.len t0 fun t8 =>
 p.bin .lss t5 t8 fun t9 =>
 p.cond t9
 (p.call 9 (.fn 98 [] []) [t1] H fun t15 H =>
 p.iadr 4 t0 t5 fun t16 =>
 p.fadr 0 t16 fun t17 =>
 p.store 1 t17 t15 H fun H =>
 p.bin .add t1 (.sc (.int .i64 1)) fun t19 =>
 p.iadr 4 t0 t5 fun t22 =>
 p.fadr 1 t22 fun t23 =>
 p.load false 1 t23 H fun t24 =>
 p.call 3 (.fn 72 [] []) [t24, t19] H fun t26 H =>
 p.iadr 4 t0 t5 fun t30 =>
 p.fadr 2 t30 fun t31 =>
 p.store 1 t31 t26 H fun H =>
 p.bin .add t26 (.sc (.int .i64 1)) fun t33 =>
 p.bin .rem t33 (.sc (.int .i64 3)) fun t37 =>
 p.bin .eql t37 (.sc (.int .i64 0)) fun t38 =>
 p.iadr 4 t0 t5 fun t39 =>
 p.fadr 3 t39 fun t40 =>
 p.store 1 t40 t38 H fun H =>
 p.bin .add t33 (.sc (.int .i64 1)) fun t42 =>
 p.bin .add t5 (.sc (.int .i64 1)) fun t11 =>
 f97_L0 p n  k m0 (tz [t0, t42, t2, t3, t4, t11, t5, t0, t8, t9, t5, t11, t0, t5, t1, t15, t16, t17, t1, t19, t0, t5, t22, t23, t24, t19, t26, t0, t5, t26, t30, t31, t26, t33, t0, t5, t33, t37, t38, t39, t40, t33, t42, t43]) H)
 (k t1 H) := by kernel_rfl
theorem f97_l0_eq (p : Pr β) (n : Nat)  (k : AV → Heap → Option β)   (m0 : Nat) : ∀ (t0 t1 t2 t3 t4 t5 t6 t7 t8 t9 t10 t11 t12 t13 t14 t15 t16 t17 t18 t19 t20 t21 t22 t23 t24 t25 t26 t27 t28 t29 t30 t31 t32 t33 t34 t35 t36 t37 t38 t39 t40 t41 t42 t43 : AV) (H : Heap), f97_L0 p n  k m0 (tz [t0, t1, t2, t3, t4, t5, t6, t7, t8, t9, t10, t11, t12, t13, t14, t15, t16, t17, t18, t19, t20, t21, t22, t23, t24, t25, t26, t27, t28, t29, t30, t31, t32, t33, t34, t35, t36, t37, t38, t39, t40, t41, t42, t43]) H = f97_l0 p n  k m0 t0 t1 t5 H := by
 induction m0 with
 | zero => intros; rfl
 | succ m0 ih =>
  intro t0 t1 t2 t3 t4 t5 t6 t7 t8 t9 t10 t11 t12 t13 t14 t15 t16 t17 t18 t19 t20 t21 t22 t23 t24 t25 t26 t27 t28 t29 t30 t31 t32 t33 t34 t35 t36 t37 t38 t39 t40 t41 t42 t43 H
  rw [f97_L0_step]
  simp only [ih]
  rfl
theorem f97_raw (p : Pr β) (n : Nat) (a0 a1 : AV) (H : Heap) (k : AV → Heap → Option β) : evalBody ti0 p n ⟨c97, 44, Go.Proofs.Tryz.f97.results.toList, o97⟩ [a0, a1] H k =
 f97_L0 p n  k n (tz [a0, a1, uu, uu, (.sc (.int .i64 0)), (.sc (.int .i64 0)), uu, uu, uu, uu, uu, uu, uu, uu, uu, uu, uu, uu, uu, uu, uu, uu, uu, uu, uu, uu, uu, uu, uu, uu, uu, uu, uu, uu, uu, uu, uu, uu, uu, uu, uu, uu, uu, uu]) H := by kernel_rfl
theorem f97_body (p : Pr β) (n : Nat) (a0 a1 : AV) (H : Heap) (k : AV → Heap → Option β) : evalBody ti0 p n ⟨c97, 44, Go.Proofs.Tryz.f97.results.toList, o97⟩ [a0, a1] H k = f97 p n a0 a1 H k := by
 rw [f97_raw]
 simp only [f97_l0_eq]
 rfl
noncomputable def f41 (p : Pr β) (n : Nat) (a0 a1 : AV) (H : Heap) (k : AV → Heap → Option β) : Option β :=
 p.box a0 H fun t2 H =>
 p.fadr 1 t2 fun t5 =>
 p.load false 1 t5 H fun t6 =>
 p.call 3 (.fn 96 [] []) [t6, a1] H fun t8 H =>
 p.fadr 2 t2 fun t9 =>
 p.load false 1 t9 H fun t10 =>
 p.call 3 (.fn 97 [] []) [t10, t8] H fun t12 H =>
 k t12 H
theorem f41_body (p : Pr β) (n : Nat) (a0 a1 : AV) (H : Heap) (k : AV → Heap → Option β) : evalBody ti0 p n ⟨c41, 14, Go.Proofs.Tryz.f41.results.toList, o41⟩ [a0, a1] H k = f41 p n a0 a1 H k := by kernel_rfl
noncomputable def f99_l0 (p : Pr β) (n : Nat)  (k : AV → Heap → Option β) : Nat → AV → AV → AV → Heap → Option β
 | 0, _, _, _, _ => none
 | m + 1, t0, t1, t5, H => p.len t0 fun t8 =>
   p.bin .lss t5 t8 fun t9 =>
   p.cond t9
   (p.call 9 (.fn 98 [] []) [t1] H fun t15 H =>
   p.iadr 2 t0 t5 fun t16 =>
   p.fadr 0 t16 fun t17 =>
   p.store 1 t17 t15 H fun H =>
   p.bin .add t1 (.sc (.int .i64 1)) fun t19 =>
   p.iadr 2 t0 t5 fun t23 =>
   p.fadr 1 t23 fun t24 =>
   p.store 1 t24 t19 H fun H =>
   p.bin .add t19 (.sc (.int .i64 1)) fun t26 =>
   p.bin .add t5 (.sc (.int .i64 1)) fun t11 =>
   f99_l0 p n  k m t0 t26 t11 H)
   (k t1 H)
noncomputable def f99 (p : Pr β) (n : Nat) (a0 a1 : AV) (H : Heap) (k : AV → Heap → Option β) : Option β :=
 f99_l0 p n  k n a0 a1 (.sc (.int .i64 0)) H
noncomputable def f99_L0 (p : Pr β) (n : Nat)  (k : AV → Heap → Option β) (m : Nat) (tm : Tm) (H : Heap) : Option β :=
 iterC 28 (fun tm H k => evalCode ti0 p o99 28 n (cd c99 [1, 0, 1, 0, 0]) tm H k) (blkK 0 (seqK (fun tm H => evalCode ti0 p o99 28 n (cd c99 [1, 1]) tm H (endK ti0 p Go.Proofs.Tryz.f99.results.toList k)) (endK ti0 p Go.Proofs.Tryz.f99.results.toList k))) m tm H
theorem f99_L0_step (p : Pr β) (n : Nat)  (k : AV → Heap → Option β) (m0 : Nat) (t0 t1 t2 t3 t4 t5 t6 t7 t8 t9 t10 t11 t12 t13 t14 t15 t16 t17 t18 t19 t20 t21 t22 t23 t24 t25 t26 t27 : AV) (H : Heap) : f99_L0 p n  k (m0 + 1) (tz [t0, t1, t2, t3, t4, t5, t6, t7, t8, t9, t10, t11, t12, t13, t14, t15, t16, t17, t18, t19, t20, t21, t22, t23, t24, t25, t26, t27]) H =
 p.len t0 fun t8 =>
 p.bin .lss t5 t8 fun t9 =>
 p.cond t9
 (p.call 9 (.fn 98 [] []) [t1] H fun t15 H =>
 p.iadr 2 t0 t5 fun t16 =>
 p.fadr 0 t16 fun t17 =>
 p.store 1 t17 t15 H fun H =>
 p.bin .add t1 (.sc (.int .i64 1)) fun t19 =>
 p.iadr 2 t0 t5 fun t23 =>
 p.fadr 1 t23 fun t24 =>
 p.store 1 t24 t19 H fun H =>
 p.bin .add t19 (.sc (.int .i64 1)) fun t26 =>
 p.bin .add t5 (.sc (.int .i64 1)) fun t11 =>
 f99_L0 p n  k m0 (tz [t0, t26, t2, t3, t4, t11, t5, t0, t8, t9, t5, t11, t0, t5, t1, t15, t16, t17, t1, t19, t0, t5, t19, t23, t24, t19, t26, t27]) H)
 (k t1 H) := by kernel_rfl
theorem f99_l0_eq (p : Pr β) (n : Nat)  (k : AV → Heap → Option β)   (m0 : Nat) : ∀ (t0 t1 t2 t3 t4 t5 t6 t7 t8 t9 t10 t11 t12 t13 t14 t15 t16 t17 t18 t19 t20 t21 t22 t23 t24 t25 t26 t27 : AV) (H : Heap), f99_L0 p n  k m0 (tz [t0, t1, t2, t3, t4, t5, t6, t7, t8, t9, t10, t11, t12, t13, t14, t15, t16, t17, t18, t19, t20, t21, t22, t23, t24, t25, t26, t27]) H = f99_l0 p n  k m0 t0 t1 t5 H := by
 induction m0 with
 | zero => intros; rfl
 | succ m0 ih =>
  intro t0 t1 t2 t3 t4 t5 t6 t7 t8 t9 t10 t11 t12 t13 t14 t15 t16 t17 t18 t19 t20 t21 t22 t23 t24 t25 t26 t27 H
  rw [f99_L0_step]
  simp only [ih]
  rfl
theorem f99_raw (p : Pr β) (n : Nat) (a0 a1 : AV) (H : Heap) (k : AV → Heap → Option β) : evalBody ti0 p n ⟨c99, 28, Go.Proofs.Tryz.f99.results.toList, o99⟩ [a0, a1] H k =
 f99_L0 p n  k n (tz [a0, a1, uu, uu, (.sc (.int .i64 0)), (.sc (.int .i64 0)), uu, uu, uu, uu, uu, uu, uu, uu, uu, uu, uu, uu, uu, uu, uu, uu, uu, uu, uu, uu, uu, uu]) H := by kernel_rfl
theorem f99_body (p : Pr β) (n : Nat) (a0 a1 : AV) (H : Heap) (k : AV → Heap → Option β) : evalBody ti0 p n ⟨c99, 28, Go.Proofs.Tryz.f99.results.toList, o99⟩ [a0, a1] H k = f99 p n a0 a1 H k := by
 rw [f99_raw]
 simp only [f99_l0_eq]
 rfl
noncomputable def f100_l0 (p : Pr β) (n : Nat)  (k : AV → Heap → Option β) : Nat → AV → AV → AV → Heap → Option β
 | 0, _, _, _, _ => none
 | m + 1, t0, t1, t5, H => p.len t0 fun t8 =>
   p.bin .lss t5 t8 fun t9 =>
   p.cond t9
   (p.call 9 (.fn 98 [] []) [t1] H fun t15 H =>
   p.iadr 1 t0 t5 fun t16 =>
   p.store 1 t16 t15 H fun H =>
   p.bin .add t1 (.sc (.int .i64 1)) fun t18 =>
   p.bin .add t5 (.sc (.int .i64 1)) fun t11 =>
   f100_l0 p n  k m t0 t18 t11 H)
   (k t1 H)
noncomputable def f100 (p : Pr β) (n : Nat) (a0 a1 : AV) (H : Heap) (k : AV → Heap → Option β) : Option β :=
 f100_l0 p n  k n a0 a1 (.sc (.int .i64 0)) H
noncomputable def f100_L0 (p : Pr β) (n : Nat)  (k : AV → Heap → Option β) (m : Nat) (tm : Tm) (H : Heap) : Option β :=
 iterC 20 (fun tm H k => evalCode ti0 p o100 20 n (cd c100 [1, 0, 1, 0, 0]) tm H k) (blkK 0 (seqK (fun tm H => evalCode ti0 p o100 20 n (cd c100 [1, 1]) tm H (endK ti0 p Go.Proofs.Tryz.f100.results.toList k)) (endK ti0 p Go.Proofs.Tryz.f100.results.toList k))) m tm H
theorem f100_L0_step (p : Pr β) (n : Nat)  (k : AV → Heap → Option β) (m0 : Nat) (t0 t1 t2 t3 t4 t5 t6 t7 t8 t9 t10 t11 t12 t13 t14 t15 t16 t17 t18 t19 : AV) (H : Heap) : f100_L0 p n  k (m0 + 1) (tz [t0, t1, t2, t3, t4, t5, t6, t7, t8, t9, t10, t11, t12, t13, t14, t15, t16, t17, t18, t19]) H =
 p.len t0 fun t8 =>
 p.bin .lss t5 t8 fun t9 =>
 p.cond t9
 (p.call 9 (.fn 98 [] []) [t1] H fun t15 H =>
 p.iadr 1 t0 t5 fun t16 =>
 p.store 1 t16 t15 H fun H =>
 p.bin .add t1 (.sc (.int .i64 1)) fun t18 =>
 p.bin .add t5 (.sc (.int .i64 1)) fun t11 =>
 f100_L0 p n  k m0 (tz [t0, t18, t2, t3, t4, t11, t5, t0, t8, t9, t5, t11, t0, t5, t1, t15, t16, t1, t18, t19]) H)
 (k t1 H) := by kernel_rfl
theorem f100_l0_eq (p : Pr β) (n : Nat)  (k : AV → Heap → Option β)   (m0 : Nat) : ∀ (t0 t1 t2 t3 t4 t5 t6 t7 t8 t9 t10 t11 t12 t13 t14 t15 t16 t17 t18 t19 : AV) (H : Heap), f100_L0 p n  k m0 (tz [t0, t1, t2, t3, t4, t5, t6, t7, t8, t9, t10, t11, t12, t13, t14, t15, t16, t17, t18, t19]) H = f100_l0 p n  k m0 t0 t1 t5 H := by
 induction m0 with
 | zero => intros; rfl
 | succ m0 ih =>
  intro t0 t1 t2 t3 t4 t5 t6 t7 t8 t9 t10 t11 t12 t13 t14 t15 t16 t17 t18 t19 H
  rw [f100_L0_step]
  simp only [ih]
  rfl
theorem f100_raw (p : Pr β) (n : Nat) (a0 a1 : AV) (H : Heap) (k : AV → Heap → Option β) : evalBody ti0 p n ⟨c100, 20, Go.Proofs.Tryz.f100.results.toList, o100⟩ [a0, a1] H k =
 f100_L0 p n  k n (tz [a0, a1, uu, uu, (.sc (.int .i64 0)), (.sc (.int .i64 0)), uu, uu, uu, uu, uu, uu, uu, uu, uu, uu, uu, uu, uu, uu]) H := by kernel_rfl
theorem f100_body (p : Pr β) (n : Nat) (a0 a1 : AV) (H : Heap) (k : AV → Heap → Option β) : evalBody ti0 p n ⟨c100, 20, Go.Proofs.Tryz.f100.results.toList, o100⟩ [a0, a1] H k = f100 p n a0 a1 H k := by
 rw [f100_raw]
 simp only [f100_l0_eq]
 rfl
noncomputable def f64_l0 (p : Pr β) (n : Nat)  (k : AV → Heap → Option β) : Nat → AV → AV → AV → Heap → Option β
 | 0, _, _, _, _ => none
 | m + 1, t0, t1, t5, H => p.len t0 fun t8 =>
   p.bin .lss t5 t8 fun t9 =>
   p.cond t9
   (p.iadr 1 t0 t5 fun t15 =>
   p.store 1 t15 t1 H fun H =>
   p.bin .add t1 (.sc (.int .i64 1)) fun t17 =>
   p.bin .add t5 (.sc (.int .i64 1)) fun t11 =>
   f64_l0 p n  k m t0 t17 t11 H)
   (k t1 H)
noncomputable def f64 (p : Pr β) (n : Nat) (a0 a1 : AV) (H : Heap) (k : AV → Heap → Option β) : Option β :=
 f64_l0 p n  k n a0 a1 (.sc (.int .i64 0)) H
noncomputable def f64_L0 (p : Pr β) (n : Nat)  (k : AV → Heap → Option β) (m : Nat) (tm : Tm) (H : Heap) : Option β :=
 iterC 19 (fun tm H k => evalCode ti0 p o64 19 n (cd c64 [1, 0, 1, 0, 0]) tm H k) (blkK 0 (seqK (fun tm H => evalCode ti0 p o64 19 n (cd c64 [1, 1]) tm H (endK ti0 p Go.Proofs.Tryz.f64.results.toList k)) (endK ti0 p Go.Proofs.Tryz.f64.results.toList k))) m tm H
theorem f64_L0_step (p : Pr β) (n : Nat)  (k : AV → Heap → Option β) (m0 : Nat) (t0 t1 t2 t3 t4 t5 t6 t7 t8 t9 t10 t11 t12 t13 t14 t15 t16 t17 t18 : AV) (H : Heap) : f64_L0 p n  k (m0 + 1) (tz [t0, t1, t2, t3, t4, t5, t6, t7, t8, t9, t10, t11, t12, t13, t14, t15, t16, t17, t18]) H =
 p.len t0 fun t8 =>
 p.bin .lss t5 t8 fun t9 =>
 p.cond t9
 (p.iadr 1 t0 t5 fun t15 =>
 p.store 1 t15 t1 H fun H =>
 p.bin .add t1 (.sc (.int .i64 1)) fun t17 =>
 p.bin .add t5 (.sc (.int .i64 1)) fun t11 =>
 f64_L0 p n  k m0 (tz [t0, t17, t2, t3, t4, t11, t5, t0, t8, t9, t5, t11, t0, t5, t1, t15, t1, t17, t18]) H)
 (k t1 H) := by kernel_rfl
theorem f64_l0_eq (p : Pr β) (n : Nat)  (k : AV → Heap → Option β)   (m0 : Nat) : ∀ (t0 t1 t2 t3 t4 t5 t6 t7 t8 t9 t10 t11 t12 t13 t14 t15 t16 t17 t18 : AV) (H : Heap), f64_L0 p n  k m0 (tz [t0, t1, t2, t3, t4, t5, t6, t7, t8, t9, t10, t11, t12, t13, t14, t15, t16, t17, t18]) H = f64_l0 p n  k m0 t0 t1 t5 H := by
 induction m0 with
 | zero => intros; rfl
 | succ m0 ih =>
  intro t0 t1 t2 t3 t4 t5 t6 t7 t8 t9 t10 t11 t12 t13 t14 t15 t16 t17 t18 H
  rw [f64_L0_step]
  simp only [ih]
  rfl
theorem f64_raw (p : Pr β) (n : Nat) (a0 a1 : AV) (H : Heap) (k : AV → Heap → Option β) : evalBody ti0 p n ⟨c64, 19, Go.Proofs.Tryz.f64.results.toList, o64⟩ [a0, a1] H k =
 f64_L0 p n  k n (tz [a0, a1, uu, uu, (.sc (.int .i64 0)), (.sc (.int .i64 0)), uu, uu, uu, uu, uu, uu, uu, uu, uu, uu, uu, uu, uu]) H := by kernel_rfl
theorem f64_body (p : Pr β) (n : Nat) (a0 a1 : AV) (H : Heap) (k : AV → Heap → Option β) : evalBody ti0 p n ⟨c64, 19, Go.Proofs.Tryz.f64.results.toList, o64⟩ [a0, a1] H k = f64 p n a0 a1 H k := by
 rw [f64_raw]
 simp only [f64_l0_eq]
 rfl
noncomputable def f47 (p : Pr β) (n : Nat) (a0 a1 : AV) (H : Heap) (k : AV → Heap → Option β) : Option β :=
 p.box a0 H fun t2 H =>
 p.fadr 6 t2 fun t5 =>
 p.load false 1 t5 H fun t6 =>
 p.call 3 (.fn 72 [] []) [t6, a1] H fun t8 H =>
 p.fadr 13 t2 fun t9 =>
 p.load false 1 t9 H fun t10 =>
 p.call 3 (.fn 72 [] []) [t10, t8] H fun t12 H =>
 p.fadr 19 t2 fun t13 =>
 p.load false 1 t13 H fun t14 =>
 p.call 3 (.fn 72 [] []) [t14, t12] H fun t16 H =>
 p.fadr 22 t2 fun t17 =>
 p.load false 1 t17 H fun t18 =>
 p.call 3 (.fn 99 [] []) [t18, t16] H fun t20 H =>
 p.fadr 23 t2 fun t21 =>
 p.load false 1 t21 H fun t22 =>
 p.call 3 (.fn 100 [] []) [t22, t20] H fun t24 H =>
 p.fadr 24 t2 fun t25 =>
 p.load false 1 t25 H fun t26 =>
 p.call 3 (.fn 64 [] []) [t26, t24] H fun t28 H =>
 k t28 H
theorem f47_body (p : Pr β) (n : Nat) (a0 a1 : AV) (H : Heap) (k : AV → Heap → Option β) : evalBody ti0 p n ⟨c47, 30, Go.Proofs.Tryz.f47.results.toList, o47⟩ [a0, a1] H k = f47 p n a0 a1 H k := by kernel_rfl
noncomputable def f101_l0 (p : Pr β) (n : Nat)  (k : AV → Heap → Option β) : Nat → AV → AV → AV → Heap → Option β
 | 0, _, _, _, _ => none
 | m + 1, t0, t1, t5, H => p.len t0 fun t8 =>
   p.bin .lss t5 t8 fun t9 =>
   p.cond t9
   (p.iadr 1 t0 t5 fun t14 =>
   p.load false 1 t14 H fun t15 =>
   p.cvI .u8 t1 fun t17 =>
   p.bin .neq t15 t17 fun t18 =>
   p.cond t18
   (k (.sc (.int .i64 (-1))) H)
   (p.bin .add t1 (.sc (.int .i64 1)) fun t20 =>
   p.bin .add t5 (.sc (.int .i64 1)) fun t11 =>
   f101_l0 p n  k m t0 t20 t11 H))
   (k t1 H)
noncomputable def f101 (p : Pr β) (n : Nat) (a0 a1 : AV) (H : Heap) (k : AV → Heap → Option β) : Option β :=
 f101_l0 p n  k n a0 a1 (.sc (.int .i64 0)) H
noncomputable def f101_L0 (p : Pr β) (n : Nat)  (k : AV → Heap → Option β) (m : Nat) (tm : Tm) (H : Heap) : Option β :=
 iterC 22 (fun tm H k => evalCode ti0 p o101 22 n (cd c101 [1, 0, 1, 0, 0]) tm H k) (blkK 0 (seqK (fun tm H => evalCode ti0 p o101 22 n (cd c101 [1, 1]) tm H (endK ti0 p Go.Proofs.Tryz.f101.results.toList k)) (endK ti0 p Go.Proofs.Tryz.f101.results.toList k))) m tm H
theorem f101_L0_step (p : Pr β) (n : Nat)  (k : AV → Heap → Option β) (m0 : Nat) (t0 t1 t2 t3 t4 t5 t6 t7 t8 t9 t10 t11 t12 t13 t14 t15 t16 t17 t18 t19 t20 t21 : AV) (H : Heap) : f101_L0 p n  k (m0 + 1) (tz [t0, t1, t2, t3, t4, t5, t6, t7, t8, t9, t10, t11, t12, t13, t14, t15, t16, t17, t18, t19, t20, t21]) H =
 p.len t0 fun t8 =>
 p.bin .lss t5 t8 fun t9 =>
 p.cond t9
 (p.iadr 1 t0 t5 fun t14 =>
 p.load false 1 t14 H fun t15 =>
 p.cvI .u8 t1 fun t17 =>
 p.bin .neq t15 t17 fun t18 =>
 p.cond t18
 (k (.sc (.int .i64 (-1))) H)
 (p.bin .add t1 (.sc (.int .i64 1)) fun t20 =>
 p.bin .add t5 (.sc (.int .i64 1)) fun t11 =>
 f101_L0 p n  k m0 (tz [t0, t20, t2, t3, t4, t11, t5, t0, t8, t9, t5, t11, t0, t5, t14, t15, t1, t17, t18, t1, t20, t21]) H))
 (k t1 H) := by kernel_rfl
theorem f101_l0_eq (p : Pr β) (n : Nat)  (k : AV → Heap → Option β)   (m0 : Nat) : ∀ (t0 t1 t2 t3 t4 t5 t6 t7 t8 t9 t10 t11 t12 t13 t14 t15 t16 t17 t18 t19 t20 t21 : AV) (H : Heap), f101_L0 p n  k m0 (tz [t0, t1, t2, t3, t4, t5, t6, t7, t8, t9, t10, t11, t12, t13, t14, t15, t16, t17, t18, t19, t20, t21]) H = f101_l0 p n  k m0 t0 t1 t5 H := by
 induction m0 with
 | zero => intros; rfl
 | succ m0 ih =>
  intro t0 t1 t2 t3 t4 t5 t6 t7 t8 t9 t10 t11 t12 t13 t14 t15 t16 t17 t18 t19 t20 t21 H
  rw [f101_L0_step]
  simp only [ih]
  rfl
theorem f101_raw (p : Pr β) (n : Nat) (a0 a1 : AV) (H : Heap) (k : AV → Heap → Option β) : evalBody ti0 p n ⟨c101, 22, Go.Proofs.Tryz.f101.results.toList, o101⟩ [a0, a1] H k =
 f101_L0 p n  k n (tz [a0, a1, uu, uu, (.sc (.int .i64 0)), (.sc (.int .i64 0)), uu, uu, uu, uu, uu, uu, uu, uu, uu, uu, uu, uu, uu, uu, uu, uu]) H := by kernel_rfl
theorem f101_body (p : Pr β) (n : Nat) (a0 a1 : AV) (H : Heap) (k : AV → Heap → Option β) : evalBody ti0 p n ⟨c101, 22, Go.Proofs.Tryz.f101.results.toList, o101⟩ [a0, a1] H k = f101 p n a0 a1 H k := by
 rw [f101_raw]
 simp only [f101_l0_eq]
 rfl
noncomputable def f114_l0 (p : Pr β) (n : Nat)  (k : AV → Heap → Option β) : Nat → AV → AV → AV → Heap → Option β
 | 0, _, _, _, _ => none
 | m + 1, t0, t1, t5, H => p.len t0 fun t8 =>
   p.bin .lss t5 t8 fun t9 =>
   p.cond t9
   (p.iadr 6 t0 t5 fun t14 =>
   p.fadr 0 t14 fun t15 =>
   p.load false 1 t15 H fun t16 =>
   p.bin .neq t16 t1 fun t18 =>
   p.cond t18
   (k (.sc (.int .i64 (-1))) H)
   (p.bin .add t1 (.sc (.int .i64 1)) fun t20 =>
   p.iadr 6 t0 t5 fun t23 =>
   p.fadr 1 t23 fun t24 =>
   p.fadr 0 t24 fun t25 =>
   p.load false 1 t25 H fun t26 =>
   p.call 9 (.fn 98 [] []) [t20] H fun t28 H =>
   p.bin .neq t26 t28 fun t29 =>
   p.cond t29
   (k (.sc (.int .i64 (-1))) H)
   (p.bin .add t20 (.sc (.int .i64 1)) fun t31 =>
   p.iadr 6 t0 t5 fun t34 =>
   p.fadr 1 t34 fun t35 =>
   p.fadr 1 t35 fun t36 =>
   p.load false 1 t36 H fun t37 =>
   p.call 3 (.fn 101 [] []) [t37, t31] H fun t39 H =>
   p.bin .lss t39 (.sc (.int .i64 0)) fun t41 =>
   p.cond t41
   (k (.sc (.int .i64 (-1))) H)
   (p.iadr 6 t0 t5 fun t44 =>
   p.fadr 1 t44 fun t45 =>
   p.fadr 2 t45 fun t46 =>
   p.load false 1 t46 H fun t47 =>
   p.bin .neq t47 t39 fun t49 =>
   p.cond t49
   (k (.sc (.int .i64 (-1))) H)
   (p.bin .add t39 (.sc (.int .i64 1)) fun t51 =>
   p.iadr 6 t0 t5 fun t54 =>
   p.fadr 1 t54 fun t55 =>
   p.fadr 3 t55 fun t56 =>
   p.load false 1 t56 H fun t57 =>
   p.bin .rem t51 (.sc (.int .i64 3)) fun t59 =>
   p.bin .eql t59 (.sc (.int .i64 0)) fun t60 =>
   p.binB .neq t57 t60 fun t61 =>
   p.cond t61
   (k (.sc (.int .i64 (-1))) H)
   (p.bin .add t51 (.sc (.int .i64 1)) fun t63 =>
   p.iadr 6 t0 t5 fun t66 =>
   p.fadr 5 t66 fun t67 =>
   p.load false 1 t67 H fun t68 =>
   p.bin .neq t68 t63 fun t70 =>
   p.cond t70
   (k (.sc (.int .i64 (-1))) H)
   (p.bin .add t63 (.sc (.int .i64 1)) fun t72 =>
   p.bin .add t5 (.sc (.int .i64 1)) fun t11 =>
   f114_l0 p n  k m t0 t72 t11 H)))))))
   (k t1 H)
noncomputable def f114 (p : Pr β) (n : Nat) (a0 a1 : AV) (H : Heap) (k : AV → Heap → Option β) : Option β :=
 f114_l0 p n  k n a0 a1 (.sc (.int .i64 0)) H
noncomputable def f114_L0 (p : Pr β) (n : Nat)  (k : AV → Heap → Option β) (m : Nat) (tm : Tm) (H : Heap) : Option β :=
 iterC 74 (fun tm H k => evalCode ti0 p o114 74 n (cd c114 [1, 0, 1, 0, 0]) tm H k) (blkK 0 (seqK (fun tm H => evalCode ti0 p o114 74 n (cd c114 [1, 1]) tm H (endK ti0 p Go.Proofs.Tryz.f114.results.toList k)) (endK ti0 p Go.Proofs.Tryz.f114.results.toList k))) m tm H
theorem f114_L0_step (p : Pr β) (n : Nat)  (k : AV → Heap → Option β) (m0 : Nat) (t0 t1 t2 t3 t4 t5 t6 t7 t8 t9 t10 t11 t12 t13 t14 t15 t16 t17 t18 t19 t20 t21 t22 t23 t24 t25 t26 t27 t28 t29 t30 t31 t32 t33 t34 t35 t36 t37 t38 t39 t40 t41 t42 t43 t44 t45 t46 t47 t48 t49 t50 t51 t52 t53 t54 t55 t56 t57 t58 t59 t60 t61 t62 t63 t64 t65 t66 t67 t68 t69 t70 t71 t72 t73 : AV) (H : Heap) : f114_L0 p n  k (m0 + 1) (tz [t0, t1, t2, t3, t4, t5, t6, t7, t8, t9, t10, t11, t12, t13, t14, t15, t16, t17, t18, t19, t20, t21, t22, t23, t24, t25, t26, t27, t28, t29, t30, t31, t32, t33, t34, t35, t36, t37, t38, t39, t40, t41, t42, t43, t44, t45, t46, t47, t48, t49, t50, t51, t52, t53, t54, t55, t56, t57, t58, t59, t60, t61, t62, t63, t64, t65, t66, t67, t68, t69, t70, t71, t72, t73]) H =
 p.len t0 fun t8 =>
 p.bin .lss t5 t8 fun t9 =>
 p.cond t9
 (p.iadr 6 t0 t5 fun t14 =>
 p.fadr 0 t14 fun t15 =>
 p.load false 1 t15 H fun t16 =>
 p.bin .neq t16 t1 fun t18 =>
 p.cond t18
 (k (.sc (.int .i64 (-1))) H)
 (p.bin .add t1 (.sc (.int .i64 1)) fun t20 =>
 p.iadr 6 t0 t5 fun t23 =>
 p.fadr 1 t23 fun t24 =>
 p.fadr 0 t24 fun t25 =>
 p.load false 1 t25 H fun t26 =>
 p.call 9 (.fn 98 [] []) [t20] H fun t28 H =>
 p.bin .neq t26 t28 fun t29 =>
 p.cond t29
 (k (.sc (.int .i64 (-1))) H)
 (p.bin .add t20 (.sc (.int .i64 1)) fun t31 =>
 p.iadr 6 t0 t5 fun t34 =>
 p.fadr 1 t34 fun t35 =>
 p.fadr 1 t35 fun t36 =>
 p.load false 1 t36 H fun t37 =>
 p.call 3 (.fn 101 [] []) [t37, t31] H fun t39 H =>
 p.bin .lss t39 (.sc (.int .i64 0)) fun t41 =>
 p.cond t41
 (k (.sc (.int .i64 (-1))) H)
 (p.iadr 6 t0 t5 fun t44 =>
 p.fadr 1 t44 fun t45 =>
 p.fadr 2 t45 fun t46 =>
 p.load false 1 t46 H fun t47 =>
 p.bin .neq t47 t39 fun t49 =>
 p.cond t49
 (k (.sc (.int .i64 (-1))) H)
 (p.bin .add t39 (.sc (.int .i64 1)) fun t51 =>
 p.iadr 6 t0 t5 fun t54 =>
 p.fadr 1 t54 fun t55 =>
 p.fadr 3 t55 fun t56 =>
 p.load false 1 t56 H fun t57 =>
 p.bin .rem t51 (.sc (.int .i64 3)) fun t59 =>
 p.bin .eql t59 (.sc (.int .i64 0)) fun t60 =>
 p.binB .neq t57 t60 fun t61 =>
 p.cond t61
 (k (.sc (.int .i64 (-1))) H)
 (p.bin .add t51 (.sc (.int .i64 1)) fun t63 =>
 p.iadr 6 t0 t5 fun t66 =>
 p.fadr 5 t66 fun t67 =>
 p.load false 1 t67 H fun t68 =>
 p.bin .neq t68 t63 fun t70 =>
 p.cond t70
 (k (.sc (.int .i64 (-1))) H)
 (p.bin .add t63 (.sc (.int .i64 1)) fun t72 =>
 p.bin .add t5 (.sc (.int .i64 1)) fun t11 =>
 f114_L0 p n  k m0 (tz [t0, t72, t2, t3, t4, t11, t5, t0, t8, t9, t5, t11, t0, t5, t14, t15, t16, t1, t18, t1, t20, t0, t5, t23, t24, t25, t26, t20, t28, t29, t20, t31, t0, t5, t34, t35, t36, t37, t31, t39, t39, t41, t0, t5, t44, t45, t46, t47, t39, t49, t39, t51, t0, t5, t54, t55, t56, t57, t51, t59, t60, t61, t51, t63, t0, t5, t66, t67, t68, t63, t70, t63, t72, t73]) H)))))))
 (k t1 H) := by kernel_rfl
theorem f114_l0_eq (p : Pr β) (n : Nat)  (k : AV → Heap → Option β)   (m0 : Nat) : ∀ (t0 t1 t2 t3 t4 t5 t6 t7 t8 t9 t10 t11 t12 t13 t14 t15 t16 t17 t18 t19 t20 t21 t22 t23 t24 t25 t26 t27 t28 t29 t30 t31 t32 t33 t34 t35 t36 t37 t38 t39 t40 t41 t42 t43 t44 t45 t46 t47 t48 t49 t50 t51 t52 t53 t54 t55 t56 t57 t58 t59 t60 t61 t62 t63 t64 t65 t66 t67 t68 t69 t70 t71 t72 t73 : AV) (H : Heap), f114_L0 p n  k m0 (tz [t0, t1, t2, t3, t4, t5, t6, t7, t8, t9, t10, t11, t12, t13, t14, t15, t16, t17, t18, t19, t20, t21, t22, t23, t24, t25, t26, t27, t28, t29, t30, t31, t32, t33, t34, t35, t36, t37, t38, t39, t40, t41, t42, t43, t44, t45, t46, t47, t48, t49, t50, t51, t52, t53, t54, t55, t56, t57, t58, t59, t60, t61, t62, t63, t64, t65, t66, t67, t68, t69, t70, t71, t72, t73]) H = f114_l0 p n  k m0 t0 t1 t5 H := by
 induction m0 with
 | zero => intros; rfl
 | succ m0 ih =>
  intro t0 t1 t2 t3 t4 t5 t6 t7 t8 t9 t10 t11 t12 t13 t14 t15 t16 t17 t18 t19 t20 t21 t22 t23 t24 t25 t26 t27 t28 t29 t30 t31 t32 t33 t34 t35 t36 t37 t38 t39 t40 t41 t42 t43 t44 t45 t46 t47 t48 t49 t50 t51 t52 t53 t54 t55 t56 t57 t58 t59 t60 t61 t62 t63 t64 t65 t66 t67 t68 t69 t70 t71 t72 t73 H
  rw [f114_L0_step]
  simp only [ih]
  rfl
theorem f114_raw (p : Pr β) (n : Nat) (a0 a1 : AV) (H : Heap) (k : AV → Heap → Option β) : evalBody ti0 p n ⟨c114, 74, Go.Proofs.Tryz.f114.results.toList, o114⟩ [a0, a1] H k =
 f114_L0 p n  k n (tz [a0, a1, uu, uu, (.sc (.int .i64 0)), (.sc (.int .i64 0)), uu, uu, uu, uu, uu, uu, uu, uu, uu, uu, uu, uu, uu, uu, uu, uu, uu, uu, uu, uu, uu, uu, uu, uu, uu, uu, uu, uu, uu, uu, uu, uu, uu, uu, uu, uu, uu, uu, uu, uu, uu, uu, uu, uu, uu, uu, uu, uu, uu, uu, uu, uu, uu, uu, uu, uu, uu, uu, uu, uu, uu, uu, uu, uu, uu, uu, uu, uu]) H := by kernel_rfl
theorem f114_body (p : Pr β) (n : Nat) (a0 a1 : AV) (H : Heap) (k : AV → Heap → Option β) : evalBody ti0 p n ⟨c114, 74, Go.Proofs.Tryz.f114.results.toList, o114⟩ [a0, a1] H k = f114 p n a0 a1 H k := by
 rw [f114_raw]
 simp only [f114_l0_eq]
 rfl
noncomputable def f115_l0 (p : Pr β) (n : Nat)  (k : AV → Heap → Option β) : Nat → AV → AV → AV → Heap → Option β
 | 0, _, _, _, _ => none
 | m + 1, t0, t1, t5, H => p.len t0 fun t8 =>
   p.bin .lss t5 t8 fun t9 =>
   p.cond t9
   (p.iadr 4 t0 t5 fun t14 =>
   p.fadr 0 t14 fun t15 =>
   p.load false 1 t15 H fun t16 =>
   p.call 9 (.fn 98 [] []) [t1] H fun t18 H =>
   p.bin .neq t16 t18 fun t19 =>
   p.cond t19
   (k (.sc (.int .i64 (-1))) H)
   (p.bin .add t1 (.sc (.int .i64 1)) fun t21 =>
   p.iadr 4 t0 t5 fun t24 =>
   p.fadr 1 t24 fun t25 =>
   p.load false 1 t25 H fun t26 =>
   p.call 3 (.fn 101 [] []) [t26, t21] H fun t28 H =>
   p.bin .lss t28 (.sc (.int .i64 0)) fun t30 =>
   p.cond t30
   (k (.sc (.int .i64 (-1))) H)
   (p.iadr 4 t0 t5 fun t33 =>
   p.fadr 2 t33 fun t34 =>
   p.load false 1 t34 H fun t35 =>
   p.bin .neq t35 t28 fun t37 =>
   p.cond t37
   (k (.sc (.int .i64 (-1))) H)
   (p.bin .add t28 (.sc (.int .i64 1)) fun t39 =>
   p.iadr 4 t0 t5 fun t42 =>
   p.fadr 3 t42 fun t43 =>
   p.load false 1 t43 H fun t44 =>
   p.bin .rem t39 (.sc (.int .i64 3)) fun t46 =>
   p.bin .eql t46 (.sc (.int .i64 0)) fun t47 =>
   p.binB .neq t44 t47 fun t48 =>
   p.cond t48
   (k (.sc (.int .i64 (-1))) H)
   (p.bin .add t39 (.sc (.int .i64 1)) fun t50 =>
   p.bin .add t5 (.sc (.int .i64 1)) fun t11 =>
   f115_l0 p n  k m t0 t50 t11 H)))))
   (k t1 H)
noncomputable def f115 (p : Pr β) (n : Nat) (a0 a1 : AV) (H : Heap) (k : AV → Heap → Option β) : Option β :=
 f115_l0 p n  k n a0 a1 (.sc (.int .i64 0)) H
noncomputable def f115_L0 (p : Pr β) (n : Nat)  (k : AV → Heap → Option β) (m : Nat) (tm : Tm) (H : Heap) : Option β :=
 iterC 52 (fun tm H k => evalCode ti0 p o115 52 n (cd c115 [1, 0, 1, 0, 0]) tm H k) (blkK 0 (seqK (fun tm H => evalCode ti0 p o115 52 n (cd c115 [1, 1]) tm H (endK ti0 p Go.Proofs.Tryz.f115.results.toList k)) (endK ti0 p Go.Proofs.Tryz.f115.results.toList k))) m tm H
theorem f115_L0_step (p : Pr β) (n : Nat)  (k : AV → Heap → Option β) (m0 : Nat) (t0 t1 t2 t3 t4 t5 t6 t7 t8 t9 t10 t11 t12 t13 t14 t15 t16 t17 t18 t19 t20 t21 t22 t23 t24 t25 t26 t27 t28 t29 t30 t31 t32 t33 t34 t35 t36 t37 t38 t39 t40 t41 t42 t43 t44 t45 t46 t47 t48 t49 t50 t51 : AV) (H : Heap) : f115_L0 p n  k (m0 + 1) (tz [t0, t1, t2, t3, t4, t5, t6, t7, t8, t9, t10, t11, t12, t13, t14, t15, t16, t17, t18, t19, t20, t21, t22, t23, t24, t25, t26, t27, t28, t29, t30, t31, t32, t33, t34, t35, t36, t37, t38, t39, t40, t41, t42, t43, t44, t45, t46, t47, t48, t49, t50, t51]) H =
 p.len t0 fun t8 =>
 p.bin .lss t5 t8 fun t9 =>
 p.cond t9
 (p.iadr 4 t0 t5 fun t14 =>
 p.fadr 0 t14 fun t15 =>
 p.load false 1 t15 H fun t16 =>
 p.call 9 (.fn 98 [] []) [t1] H fun t18 H =>
 p.bin .neq t16 t18 fun t19 =>
 p.cond t19
 (k (.sc (.int .i64 (-1))) H)
 (p.bin .add t1 (.sc (.int .i64 1)) fun t21 =>
 p.iadr 4 t0 t5 fun t24 =>
 p.fadr 1 t24 fun t25 =>
 p.load false 1 t25 H fun t26 =>
 p.call 3 (.fn 101 [] []) [t26, t21] H fun t28 H =>
 p.bin .lss t28 (.sc (.int .i64 0)) fun t30 =>
 p.cond t30
 (k (.sc (.int .i64 (-1))) H)
 (p.iadr 4 t0 t5 fun t33 =>
 p.fadr 2 t33 fun t34 =>
 p.load false 1 t34 H fun t35 =>
 p.bin .neq t35 t28 fun t37 =>
 p.cond t37
 (k (.sc (.int .i64 (-1))) H)
 (p.bin .add t28 (.sc (.int .i64 1)) fun t39 =>
 p.iadr 4 t0 t5 fun t42 =>
 p.fadr 3 t42 fun t43 =>
 p.load false 1 t43 H fun t44 =>
 p.bin .rem t39 (.sc (.int .i64 3)) fun t46 =>
 p.bin .eql t46 (.sc (.int .i64 0)) fun t47 =>
 p.binB .neq t44 t47 fun t48 =>
 p.cond t48
 (k (.sc (.int .i64 (-1))) H)
 (p.bin .add t39 (.sc (.int .i64 1)) fun t50 =>
 p.bin .add t5 (.sc (.int .i64 1)) fun t11 =>
 f115_L0 p n  k m0 (tz [t0, t50, t2, t3, t4, t11, t5, t0, t8, t9, t5, t11, t0, t5, t14, t15, t16, t1, t18, t19, t1, t21, t0, t5, t24, t25, t26, t21, t28, t28, t30, t0, t5, t33, t34, t35, t28, t37, t28, t39, t0, t5, t42, t43, t44, t39, t46, t47, t48, t39, t50, t51]) H)))))
 (k t1 H) := by kernel_rfl
theorem f115_l0_eq (p : Pr β) (n : Nat)  (k : AV → Heap → Option β)   (m0 : Nat) : ∀ (t0 t1 t2 t3 t4 t5 t6 t7 t8 t9 t10 t11 t12 t13 t14 t15 t16 t17 t18 t19 t20 t21 t22 t23 t24 t25 t26 t27 t28 t29 t30 t31 t32 t33 t34 t35 t36 t37 t38 t39 t40 t41 t42 t43 t44 t45 t46 t47 t48 t49 t50 t51 : AV) (H : Heap), f115_L0 p n  k m0 (tz [t0, t1, t2, t3, t4, t5, t6, t7, t8, t9, t10, t11, t12, t13, t14, t15, t16, t17, t18, t19, t20, t21, t22, t23, t24, t25, t26, t27, t28, t29, t30, t31, t32, t33, t34, t35, t36, t37, t38, t39, t40, t41, t42, t43, t44, t45, t46, t47, t48, t49, t50, t51]) H = f115_l0 p n  k m0 t0 t1 t5 H := by
 induction m0 with
 | zero => intros; rfl
 | succ m0 ih =>
  intro t0 t1 t2 t3 t4 t5 t6 t7 t8 t9 t10 t11 t12 t13 t14 t15 t16 t17 t18 t19 t20 t21 t22 t23 t24 t25 t26 t27 t28 t29 t30 t31 t32 t33 t34 t35 t36 t37 t38 t39 t40 t41 t42 t43 t44 t45 t46 t47 t48 t49 t50 t51 H
  rw [f115_L0_step]
  simp only [ih]
  rfl
theorem f115_raw (p : Pr β) (n : Nat) (a0 a1 : AV) (H : Heap) (k : AV → Heap → Option β) : evalBody ti0 p n ⟨c115, 52, Go.Proofs.Tryz.f115.results.toList, o115⟩ [a0, a1] H k =
 f115_L0 p n  k n (tz [a0, a1, uu, uu, (.sc (.int .i64 0)), (.sc (.int .i64 0)), uu, uu, uu, uu, uu, uu, uu, uu, uu, uu, uu, uu, uu, uu, uu, uu, uu, uu, uu, uu, uu, uu, uu, uu, uu, uu, uu, uu, uu, uu, uu, uu, uu, uu, uu, uu, uu, uu, uu, uu, uu, uu, uu, uu, uu, uu]) H := by kernel_rfl
theorem f115_body (p : Pr β) (n : Nat) (a0 a1 : AV) (H : Heap) (k : AV → Heap → Option β) : evalBody ti0 p n ⟨c115, 52, Go.Proofs.Tryz.f115.results.toList, o115⟩ [a0, a1] H k = f115 p n a0 a1 H k := by
 rw [f115_raw]
 simp only [f115_l0_eq]
 rfl
noncomputable def f48 (p : Pr β) (n : Nat) (a0 a1 : AV) (H : Heap) (k : AV → Heap → Option β) : Option β :=
 p.box a0 H fun t2 H =>
 p.fadr 1 t2 fun t5 =>
 p.load false 1 t5 H fun t6 =>
 p.call 3 (.fn 114 [] []) [t6, a1] H fun t8 H =>
 p.bin .lss t8 (.sc (.int .i64 0)) fun t10 =>
 p.cond t10
 (k (.sc (.int .i64 (-1))) H)
 (p.fadr 2 t2 fun t11 =>
 p.load false 1 t11 H fun t12 =>
 p.call 3 (.fn 115 [] []) [t12, t8] H fun t14 H =>
 p.bin .lss t14 (.sc (.int .i64 0)) fun t16 =>
 p.cond t16
 (k (.sc (.int .i64 (-1))) H)
 (k t14 H))
theorem f48_body (p : Pr β) (n : Nat) (a0 a1 : AV) (H : Heap) (k : AV → Heap → Option β) : evalBody ti0 p n ⟨c48, 18, Go.Proofs.Tryz.f48.results.toList, o48⟩ [a0, a1] H k = f48 p n a0 a1 H k := by kernel_rfl
noncomputable def f102_l0 (p : Pr β) (n : Nat)  (k : AV → Heap → Option β) : Nat → AV → AV → AV → Heap → Option β
 | 0, _, _, _, _ => none
 | m + 1, t0, t1, t5, H => p.len t0 fun t8 =>
   p.bin .lss t5 t8 fun t9 =>
   p.cond t9
   (p.iadr 2 t0 t5 fun t14 =>
   p.fadr 0 t14 fun t15 =>
   p.load false 1 t15 H fun t16 =>
   p.call 9 (.fn 98 [] []) [t1] H fun t18 H =>
   p.bin .neq t16 t18 fun t19 =>
   p.cond t19
   (k (.sc (.int .i64 (-1))) H)
   (p.bin .add t1 (.sc (.int .i64 1)) fun t21 =>
   p.iadr 2 t0 t5 fun t24 =>
   p.fadr 1 t24 fun t25 =>
   p.load false 1 t25 H fun t26 =>
   p.bin .neq t26 t21 fun t28 =>
   p.cond t28
   (k (.sc (.int .i64 (-1))) H)
   (p.bin .add t21 (.sc (.int .i64 1)) fun t30 =>
   p.bin .add t5 (.sc (.int .i64 1)) fun t11 =>
   f102_l0 p n  k m t0 t30 t11 H)))
   (k t1 H)
noncomputable def f102 (p : Pr β) (n : Nat) (a0 a1 : AV) (H : Heap) (k : AV → Heap → Option β) : Option β :=
 f102_l0 p n  k n a0 a1 (.sc (.int .i64 0)) H
noncomputable def f102_L0 (p : Pr β) (n : Nat)  (k : AV → Heap → Option β) (m : Nat) (tm : Tm) (H : Heap) : Option β :=
 iterC 32 (fun tm H k => evalCode ti0 p o102 32 n (cd c102 [1, 0, 1, 0, 0]) tm H k) (blkK 0 (seqK (fun tm H => evalCode ti0 p o102 32 n (cd c102 [1, 1]) tm H (endK ti0 p Go.Proofs.Tryz.f102.results.toList k)) (endK ti0 p Go.Proofs.Tryz.f102.results.toList k))) m tm H
theorem f102_L0_step (p : Pr β) (n : Nat)  (k : AV → Heap → Option β) (m0 : Nat) (t0 t1 t2 t3 t4 t5 t6 t7 t8 t9 t10 t11 t12 t13 t14 t15 t16 t17 t18 t19 t20 t21 t22 t23 t24 t25 t26 t27 t28 t29 t30 t31 : AV) (H : Heap) : f102_L0 p n  k (m0 + 1) (tz [t0, t1, t2, t3, t4, t5, t6, t7, t8, t9, t10, t11, t12, t13, t14, t15, t16, t17, t18, t19, t20, t21, t22, t23, t24, t25, t26, t27, t28, t29, t30, t31]) H =
 p.len t0 fun t8 =>
 p.bin .lss t5 t8 fun t9 =>
 p.cond t9
 (p.iadr 2 t0 t5 fun t14 =>
 p.fadr 0 t14 fun t15 =>
 p.load false 1 t15 H fun t16 =>
 p.call 9 (.fn 98 [] []) [t1] H fun t18 H =>
 p.bin .neq t16 t18 fun t19 =>
 p.cond t19
 (k (.sc (.int .i64 (-1))) H)
 (p.bin .add t1 (.sc (.int .i64 1)) fun t21 =>
 p.iadr 2 t0 t5 fun t24 =>
 p.fadr 1 t24 fun t25 =>
 p.load false 1 t25 H fun t26 =>
 p.bin .neq t26 t21 fun t28 =>
 p.cond t28
 (k (.sc (.int .i64 (-1))) H)
 (p.bin .add t21 (.sc (.int .i64 1)) fun t30 =>
 p.bin .add t5 (.sc (.int .i64 1)) fun t11 =>
 f102_L0 p n  k m0 (tz [t0, t30, t2, t3, t4, t11, t5, t0, t8, t9, t5, t11, t0, t5, t14, t15, t16, t1, t18, t19, t1, t21, t0, t5, t24, t25, t26, t21, t28, t21, t30, t31]) H)))
 (k t1 H) := by kernel_rfl
theorem f102_l0_eq (p : Pr β) (n : Nat)  (k : AV → Heap → Option β)   (m0 : Nat) : ∀ (t0 t1 t2 t3 t4 t5 t6 t7 t8 t9 t10 t11 t12 t13 t14 t15 t16 t17 t18 t19 t20 t21 t22 t23 t24 t25 t26 t27 t28 t29 t30 t31 : AV) (H : Heap), f102_L0 p n  k m0 (tz [t0, t1, t2, t3, t4, t5, t6, t7, t8, t9, t10, t11, t12, t13, t14, t15, t16, t17, t18, t19, t20, t21, t22, t23, t24, t25, t26, t27, t28, t29, t30, t31]) H = f102_l0 p n  k m0 t0 t1 t5 H := by
 induction m0 with
 | zero => intros; rfl
 | succ m0 ih =>
  intro t0 t1 t2 t3 t4 t5 t6 t7 t8 t9 t10 t11 t12 t13 t14 t15 t16 t17 t18 t19 t20 t21 t22 t23 t24 t25 t26 t27 t28 t29 t30 t31 H
  rw [f102_L0_step]
  simp only [ih]
  rfl
theorem f102_raw (p : Pr β) (n : Nat) (a0 a1 : AV) (H : Heap) (k : AV → Heap → Option β) : evalBody ti0 p n ⟨c102, 32, Go.Proofs.Tryz.f102.results.toList, o102⟩ [a0, a1] H k =
 f102_L0 p n  k n (tz [a0, a1, uu, uu, (.sc (.int .i64 0)), (.sc (.int .i64 0)), uu, uu, uu, uu, uu, uu, uu, uu, uu, uu, uu, uu, uu, uu, uu, uu, uu, uu, uu, uu, uu, uu, uu, uu, uu, uu]) H := by kernel_rfl
theorem f102_body (p : Pr β) (n : Nat) (a0 a1 : AV) (H : Heap) (k : AV → Heap → Option β) : evalBody ti0 p n ⟨c102, 32, Go.Proofs.Tryz.f102.results.toList, o102⟩ [a0, a1] H k = f102 p n a0 a1 H k := by
 rw [f102_raw]
 simp only [f102_l0_eq]
 rfl
noncomputable def f103_l0 (p : Pr β) (n : Nat)  (k : AV → Heap → Option β) : Nat → AV → AV → AV → Heap → Option β
 | 0, _, _, _, _ => none
 | m + 1, t0, t1, t5, H => p.len t0 fun t8 =>
   p.bin .lss t5 t8 fun t9 =>
   p.cond t9
   (p.iadr 1 t0 t5 fun t14 =>
   p.load false 1 t14 H fun t15 =>
   p.call 9 (.fn 98 [] []) [t1] H fun t17 H =>
   p.bin .neq t15 t17 fun t18 =>
   p.cond t18
   (k (.sc (.int .i64 (-1))) H)
   (p.bin .add t1 (.sc (.int .i64 1)) fun t20 =>
   p.bin .add t5 (.sc (.int .i64 1)) fun t11 =>
   f103_l0 p n  k m t0 t20 t11 H))
   (k t1 H)
noncomputable def f103 (p : Pr β) (n : Nat) (a0 a1 : AV) (H : Heap) (k : AV → Heap → Option β) : Option β :=
 f103_l0 p n  k n a0 a1 (.sc (.int .i64 0)) H
noncomputable def f103_L0 (p : Pr β) (n : Nat)  (k : AV → Heap → Option β) (m : Nat) (tm : Tm) (H : Heap) : Option β :=
 iterC 22 (fun tm H k => evalCode ti0 p o103 22 n (cd c103 [1, 0, 1, 0, 0]) tm H k) (blkK 0 (seqK (fun tm H => evalCode ti0 p o103 22 n (cd c103 [1, 1]) tm H (endK ti0 p Go.Proofs.Tryz.f103.results.toList k)) (endK ti0 p Go.Proofs.Tryz.f103.results.toList k))) m tm H
theorem f103_L0_step (p : Pr β) (n : Nat)  (k : AV → Heap → Option β) (m0 : Nat) (t0 t1 t2 t3 t4 t5 t6 t7 t8 t9 t10 t11 t12 t13 t14 t15 t16 t17 t18 t19 t20 t21 : AV) (H : Heap) : f103_L0 p n  k (m0 + 1) (tz [t0, t1, t2, t3, t4, t5, t6, t7, t8, t9, t10, t11, t12, t13, t14, t15, t16, t17, t18, t19, t20, t21]) H =
 p.len t0 fun t8 =>
 p.bin .lss t5 t8 fun t9 =>
 p.cond t9
 (p.iadr 1 t0 t5 fun t14 =>
 p.load false 1 t14 H fun t15 =>
 p.call 9 (.fn 98 [] []) [t1] H fun t17 H =>
 p.bin .neq t15 t17 fun t18 =>
 p.cond t18
 (k (.sc (.int .i64 (-1))) H)
 (p.bin .add t1 (.sc (.int .i64 1)) fun t20 =>
 p.bin .add t5 (.sc (.int .i64 1)) fun t11 =>
 f103_L0 p n  k m0 (tz [t0, t20, t2, t3, t4, t11, t5, t0, t8, t9, t5, t11, t0, t5, t14, t15, t1, t17, t18, t1, t20, t21]) H))
 (k t1 H) := by kernel_rfl
theorem f103_l0_eq (p : Pr β) (n : Nat)  (k : AV → Heap → Option β)   (m0 : Nat) : ∀ (t0 t1 t2 t3 t4 t5 t6 t7 t8 t9 t10 t11 t12 t13 t14 t15 t16 t17 t18 t19 t20 t21 : AV) (H : Heap), f103_L0 p n  k m0 (tz [t0, t1, t2, t3, t4, t5, t6, t7, t8, t9, t10, t11, t12, t13, t14, t15, t16, t17, t18, t19, t20, t21]) H = f103_l0 p n  k m0 t0 t1 t5 H := by
 induction m0 with
 | zero => intros; rfl
 | succ m0 ih =>
  intro t0 t1 t2 t3 t4 t5 t6 t7 t8 t9 t10 t11 t12 t13 t14 t15 t16 t17 t18 t19 t20 t21 H
  rw [f103_L0_step]
  simp only [ih]
  rfl
theorem f103_raw (p : Pr β) (n : Nat) (a0 a1 : AV) (H : Heap) (k : AV → Heap → Option β) : evalBody ti0 p n ⟨c103, 22, Go.Proofs.Tryz.f103.results.toList, o103⟩ [a0, a1] H k =
 f103_L0 p n  k n (tz [a0, a1, uu, uu, (.sc (.int .i64 0)), (.sc (.int .i64 0)), uu, uu, uu, uu, uu, uu, uu, uu, uu, uu, uu, uu, uu, uu, uu, uu]) H := by kernel_rfl
theorem f103_body (p : Pr β) (n : Nat) (a0 a1 : AV) (H : Heap) (k : AV → Heap → Option β) : evalBody ti0 p n ⟨c103, 22, Go.Proofs.Tryz.f103.results.toList, o103⟩ [a0, a1] H k = f103 p n a0 a1 H k := by
 rw [f103_raw]
 simp only [f103_l0_eq]
 rfl
noncomputable def f65_l0 (p : Pr β) (n : Nat)  (k : AV → Heap → Option β) : Nat → AV → AV → AV → Heap → Option β
 | 0, _, _, _, _ => none
 | m + 1, t0, t1, t5, H => p.len t0 fun t8 =>
   p.bin .lss t5 t8 fun t9 =>
   p.cond t9
   (p.iadr 1 t0 t5 fun t14 =>
   p.load false 1 t14 H fun t15 =>
   p.bin .neq t15 t1 fun t17 =>
   p.cond t17
   (k (.sc (.int .i64 (-1))) H)
   (p.bin .add t1 (.sc (.int .i64 1)) fun t19 =>
   p.bin .add t5 (.sc (.int .i64 1)) fun t11 =>
   f65_l0 p n  k m t0 t19 t11 H))
   (k t1 H)
noncomputable def f65 (p : Pr β) (n : Nat) (a0 a1 : AV) (H : Heap) (k : AV → Heap → Option β) : Option β :=
 f65_l0 p n  k n a0 a1 (.sc (.int .i64 0)) H
noncomputable def f65_L0 (p : Pr β) (n : Nat)  (k : AV → Heap → Option β) (m : Nat) (tm : Tm) (H : Heap) : Option β :=
 iterC 21 (fun tm H k => evalCode ti0 p o65 21 n (cd c65 [1, 0, 1, 0, 0]) tm H k) (blkK 0 (seqK (fun tm H => evalCode ti0 p o65 21 n (cd c65 [1, 1]) tm H (endK ti0 p Go.Proofs.Tryz.f65.results.toList k)) (endK ti0 p Go.Proofs.Tryz.f65.results.toList k))) m tm H
theorem f65_L0_step (p : Pr β) (n : Nat)  (k : AV → Heap → Option β) (m0 : Nat) (t0 t1 t2 t3 t4 t5 t6 t7 t8 t9 t10 t11 t12 t13 t14 t15 t16 t17 t18 t19 t20 : AV) (H : Heap) : f65_L0 p n  k (m0 + 1) (tz [t0, t1, t2, t3, t4, t5, t6, t7, t8, t9, t10, t11, t12, t13, t14, t15, t16, t17, t18, t19, t20]) H =
 p.len t0 fun t8 =>
 p.bin .lss t5 t8 fun t9 =>
 p.cond t9
 (p.iadr 1 t0 t5 fun t14 =>
 p.load false 1 t14 H fun t15 =>
 p.bin .neq t15 t1 fun t17 =>
 p.cond t17
 (k (.sc (.int .i64 (-1))) H)
 (p.bin .add t1 (.sc (.int .i64 1)) fun t19 =>
 p.bin .add t5 (.sc (.int .i64 1)) fun t11 =>
 f65_L0 p n  k m0 (tz [t0, t19, t2, t3, t4, t11, t5, t0, t8, t9, t5, t11, t0, t5, t14, t15, t1, t17, t1, t19, t20]) H))
 (k t1 H) := by kernel_rfl
theorem f65_l0_eq (p : Pr β) (n : Nat)  (k : AV → Heap → Option β)   (m0 : Nat) : ∀ (t0 t1 t2 t3 t4 t5 t6 t7 t8 t9 t10 t11 t12 t13 t14 t15 t16 t17 t18 t19 t20 : AV) (H : Heap), f65_L0 p n  k m0 (tz [t0, t1, t2, t3, t4, t5, t6, t7, t8, t9, t10, t11, t12, t13, t14, t15, t16, t17, t18, t19, t20]) H = f65_l0 p n  k m0 t0 t1 t5 H := by
 induction m0 with
 | zero => intros; rfl
 | succ m0 ih =>
  intro t0 t1 t2 t3 t4 t5 t6 t7 t8 t9 t10 t11 t12 t13 t14 t15 t16 t17 t18 t19 t20 H
  rw [f65_L0_step]
  simp only [ih]
  rfl
theorem f65_raw (p : Pr β) (n : Nat) (a0 a1 : AV) (H : Heap) (k : AV → Heap → Option β) : evalBody ti0 p n ⟨c65, 21, Go.Proofs.Tryz.f65.results.toList, o65⟩ [a0, a1] H k =
 f65_L0 p n  k n (tz [a0, a1, uu, uu, (.sc (.int .i64 0)), (.sc (.int .i64 0)), uu, uu, uu, uu, uu, uu, uu, uu, uu, uu, uu, uu, uu, uu, uu]) H := by kernel_rfl
theorem f65_body (p : Pr β) (n : Nat) (a0 a1 : AV) (H : Heap) (k : AV → Heap → Option β) : evalBody ti0 p n ⟨c65, 21, Go.Proofs.Tryz.f65.results.toList, o65⟩ [a0, a1] H k = f65 p n a0 a1 H k := by
 rw [f65_raw]
 simp only [f65_l0_eq]
 rfl
noncomputable def f49 (p : Pr β) (n : Nat) (a0 a1 : AV) (H : Heap) (k : AV → Heap → Option β) : Option β :=
 p.box a0 H fun t2 H =>
 p.fadr 6 t2 fun t5 =>
 p.load false 1 t5 H fun t6 =>
 p.call 3 (.fn 101 [] []) [t6, a1] H fun t8 H =>
 p.bin .lss t8 (.sc (.int .i64 0)) fun t10 =>
 p.cond t10
 (k (.sc (.int .i64 (-1))) H)
 (p.fadr 13 t2 fun t11 =>
 p.load false 1 t11 H fun t12 =>
 p.call 3 (.fn 101 [] []) [t12, t8] H fun t14 H =>
 p.bin .lss t14 (.sc (.int .i64 0)) fun t16 =>
 p.cond t16
 (k (.sc (.int .i64 (-1))) H)
 (p.fadr 19 t2 fun t17 =>
 p.load false 1 t17 H fun t18 =>
 p.call 3 (.fn 101 [] []) [t18, t14] H fun t20 H =>
 p.bin .lss t20 (.sc (.int .i64 0)) fun t22 =>
 p.cond t22
 (k (.sc (.int .i64 (-1))) H)
 (p.fadr 22 t2 fun t23 =>
 p.load false 1 t23 H fun t24 =>
 p.call 3 (.fn 102 [] []) [t24, t20] H fun t26 H =>
 p.bin .lss t26 (.sc (.int .i64 0)) fun t28 =>
 p.cond t28
 (k (.sc (.int .i64 (-1))) H)
 (p.fadr 23 t2 fun t29 =>
 p.load false 1 t29 H fun t30 =>
 p.call 3 (.fn 103 [] []) [t30, t26] H fun t32 H =>
 p.bin .lss t32 (.sc (.int .i64 0)) fun t34 =>
 p.cond t34
 (k (.sc (.int .i64 (-1))) H)
 (p.fadr 24 t2 fun t35 =>
 p.load false 1 t35 H fun t36 =>
 p.call 3 (.fn 65 [] []) [t36, t32] H fun t38 H =>
 p.bin .lss t38 (.sc (.int .i64 0)) fun t40 =>
 p.cond t40
 (k (.sc (.int .i64 (-1))) H)
 (k t38 H))))))
theorem f49_body (p : Pr β) (n : Nat) (a0 a1 : AV) (H : Heap) (k : AV → Heap → Option β) : evalBody ti0 p n ⟨c49, 42, Go.Proofs.Tryz.f49.results.toList, o49⟩ [a0, a1] H k = f49 p n a0 a1 H k := by kernel_rfl
noncomputable def f8 (p : Pr β) (n : Nat) (a0 : AV) (H : Heap) (k : AV → Heap → Option β) : Option β :=
 p.box a0 H fun t1 H =>
 p.load true 3 t1 H fun t17 =>
 p.call 3 (.fn 35 [] []) [t17, (.sc (.int .i64 1048576))] H fun t19 H =>
 p.bin .lss t19 (.sc (.int .i64 0)) fun t21 =>
 p.cond t21
 (k (.sc (.bool true)) H)
 (p.load true 3 t1 H fun t23 =>
 p.call 33 (.fn 37 [] []) [t23] H fun t24 H =>
 p.call 76 (.fn 44 [] []) [t24] H fun t25 H =>
 p.extr t25 0 fun t26 =>
 p.extr t25 1 fun t27 =>
 p.extr t25 2 fun t28 =>
 p.new [(.sc (.int .i64 0)), .nl, .nl] H fun t4 H =>
 p.new [(.sc (.int .i64 0)), (.sc (.bool false)), (.sc (.int .i64 0)), (.sc (.bool false)), (.sc (.int .i64 0)), (.sc (.string ⟨#[]⟩)), .nl, (.sc (.string ⟨#[]⟩)), (.sc (.int .i64 0)), (.sc (.bool false)), (.sc (.int .i64 0)), (.sc (.bool false)), (.sc (.string ⟨#[]⟩)), .nl, (.sc (.int .i64 0)), (.sc (.bool false)), (.sc (.bool false)), (.sc (.string ⟨#[]⟩)), (.sc (.bool false)), .nl, (.sc (.int .i64 0)), (.sc (.bool false)), .nl, .nl, .nl] H fun t5 H =>
 p.store 3 t4 t26 H fun H =>
 p.store 25 t5 t27 H fun H =>
 p.load true 3 t1 H fun t29 =>
 p.call 33 (.fn 37 [] []) [t29] H fun t30 H =>
 p.new [(.sc (.int .i64 0)), .nl, .nl] H fun t7 H =>
 p.store 3 t7 t30 H fun H =>
 p.load true 3 t7 H fun t32 =>
 p.call 76 (.fn 45 [] []) [t32] H fun t33 H =>
 p.extr t33 0 fun t34 =>
 p.extr t33 1 fun t35 =>
 p.extr t33 2 fun t36 =>
 p.new [(.sc (.int .i64 0)), .nl, .nl] H fun t8 H =>
 p.new [(.sc (.int .i64 0)), (.sc (.bool false)), (.sc (.int .i64 0)), (.sc (.bool false)), (.sc (.int .i64 0)), (.sc (.string ⟨#[]⟩)), .nl, (.sc (.string ⟨#[]⟩)), (.sc (.int .i64 0)), (.sc (.bool false)), (.sc (.int .i64 0)), (.sc (.bool false)), (.sc (.string ⟨#[]⟩)), .nl, (.sc (.int .i64 0)), (.sc (.bool false)), (.sc (.bool false)), (.sc (.string ⟨#[]⟩)), (.sc (.bool false)), .nl, (.sc (.int .i64 0)), (.sc (.bool false)), .nl, .nl, .nl] H fun t9 H =>
 p.store 3 t8 t34 H fun H =>
 p.store 25 t9 t35 H fun H =>
 p.load true 3 t8 H fun t37 =>
 p.load true 3 t4 H fun t38 =>
 p.call 4 (.fn 40 [] []) [t37, t38] H fun t39 H =>
 p.un .not t39 fun t40 =>
 p.guard t40 false H (fun k' => p.load true 25 t9 H fun t' => k' t' H) fun t42 H =>
 p.guard t40 false H (fun k' => p.load true 25 t5 H fun t' => k' t' H) fun t43 H =>
 p.guard t40 false H (fun k' => p.call 4 (.fn 46 [] []) [t42, t43] H fun t' H => k' t' H) fun t44 H =>
 p.guard t40 false H (fun k' => p.un .not t44 fun t' => k' t' H) fun t45 H =>
 p.pick t40 (.sc (.bool true)) t45 fun t46 =>
 p.guard t46 false H (fun k' => k' t36 H) fun t48 H =>
 p.guard t46 false H (fun k' => k' t28 H) fun t49 H =>
 p.guard t46 false H (fun k' => p.binB .neq t48 t49 fun t' => k' t' H) fun t50 H =>
 p.pick t46 (.sc (.bool true)) t50 fun t51 =>
 p.cond t51
 (k (.sc (.bool false)) H)
 (p.load true 3 t7 H fun t52 =>
 p.load true 3 t1 H fun t53 =>
 p.call 33 (.fn 37 [] []) [t53] H fun t54 H =>
 p.call 4 (.fn 40 [] []) [t52, t54] H fun t55 H =>
 p.un .not t55 fun t56 =>
 p.cond t56
 (k (.sc (.bool false)) H)
 (p.load true 3 t7 H fun t57 =>
 p.call 3 (.fn 41 [] []) [t57, (.sc (.int .i64 1))] H fun t59 H =>
 p.bin .lss t59 (.sc (.int .i64 0)) fun t61 =>
 p.guard t61 false H (fun k' => p.load true 3 t8 H fun t' => k' t' H) fun t63 H =>
 p.guard t61 false H (fun k' => p.load true 3 t4 H fun t' => k' t' H) fun t64 H =>
 p.guard t61 false H (fun k' => p.call 4 (.fn 40 [] []) [t63, t64] H fun t' H => k' t' H) fun t65 H =>
 p.guard t61 false H (fun k' => p.un .not t65 fun t' => k' t' H) fun t66 H =>
 p.pick t61 (.sc (.bool true)) t66 fun t67 =>
 p.guard t67 false H (fun k' => p.load true 25 t9 H fun t' => k' t' H) fun t69 H =>
 p.guard t67 false H (fun k' => p.load true 25 t5 H fun t' => k' t' H) fun t70 H =>
 p.guard t67 false H (fun k' => p.call 4 (.fn 46 [] []) [t69, t70] H fun t' H => k' t' H) fun t71 H =>
 p.guard t67 false H (fun k' => p.un .not t71 fun t' => k' t' H) fun t72 H =>
 p.pick t67 (.sc (.bool true)) t72 fun t73 =>
 p.guard t73 false H (fun k' => k' t36 H) fun t75 H =>
 p.guard t73 false H (fun k' => k' t28 H) fun t76 H =>
 p.guard t73 false H (fun k' => p.binB .neq t75 t76 fun t' => k' t' H) fun t77 H =>
 p.pick t73 (.sc (.bool true)) t77 fun t78 =>
 p.cond t78
 (k (.sc (.bool false)) H)
 (p.load true 3 t8 H fun t79 =>
 p.call 3 (.fn 41 [] []) [t79, (.sc (.int .i64 1))] H fun t81 H =>
 p.load true 25 t9 H fun t82 =>
 p.call 3 (.fn 47 [] []) [t82, t81] H fun t84 H =>
 p.load true 3 t8 H fun t85 =>
 p.call 3 (.fn 48 [] []) [t85, (.sc (.int .i64 1))] H fun t87 H =>
 p.bin .lss t87 (.sc (.int .i64 0)) fun t89 =>
 p.cond t89
 (k (.sc (.bool false)) H)
 (p.load true 25 t9 H fun t90 =>
 p.call 3 (.fn 49 [] []) [t90, t87] H fun t92 H =>
 p.bin .lss t92 (.sc (.int .i64 0)) fun t94 =>
 p.cond t94
 (k (.sc (.bool false)) H)
 (p.bin .neq t92 t84 fun t97 =>
 p.cond t97
 (k (.sc (.bool false)) H)
 (p.load true 3 t1 H fun t99 =>
 p.call 33 (.fn 37 [] []) [t99] H fun t100 H =>
 p.call 76 (.fn 45 [] []) [t100] H fun t101 H =>
 p.extr t101 0 fun t102 =>
 p.extr t101 1 fun t103 =>
 p.extr t101 2 fun t104 =>
 p.new [(.sc (.int .i64 0)), .nl, .nl] H fun t14 H =>
 p.new [(.sc (.int .i64 0)), (.sc (.bool false)), (.sc (.int .i64 0)), (.sc (.bool false)), (.sc (.int .i64 0)), (.sc (.string ⟨#[]⟩)), .nl, (.sc (.string ⟨#[]⟩)), (.sc (.int .i64 0)), (.sc (.bool false)), (.sc (.int .i64 0)), (.sc (.bool false)), (.sc (.string ⟨#[]⟩)), .nl, (.sc (.int .i64 0)), (.sc (.bool false)), (.sc (.bool false)), (.sc (.string ⟨#[]⟩)), (.sc (.bool false)), .nl, (.sc (.int .i64 0)), (.sc (.bool false)), .nl, .nl, .nl] H fun t15 H =>
 p.store 3 t14 t102 H fun H =>
 p.store 25 t15 t103 H fun H =>
 p.load true 3 t14 H fun t105 =>
 p.load true 3 t4 H fun t106 =>
 p.call 4 (.fn 40 [] []) [t105, t106] H fun t107 H =>
 p.un .not t107 fun t108 =>
 p.guard t108 false H (fun k' => p.load true 25 t15 H fun t' => k' t' H) fun t110 H =>
 p.guard t108 false H (fun k' => p.load true 25 t5 H fun t' => k' t' H) fun t111 H =>
 p.guard t108 false H (fun k' => p.call 4 (.fn 46 [] []) [t110, t111] H fun t' H => k' t' H) fun t112 H =>
 p.guard t108 false H (fun k' => p.un .not t112 fun t' => k' t' H) fun t113 H =>
 p.pick t108 (.sc (.bool true)) t113 fun t114 =>
 p.guard t114 false H (fun k' => k' t104 H) fun t116 H =>
 p.guard t114 false H (fun k' => k' t28 H) fun t117 H =>
 p.guard t114 false H (fun k' => p.binB .neq t116 t117 fun t' => k' t' H) fun t118 H =>
 p.pick t114 (.sc (.bool true)) t118 fun t119 =>
 p.cond t119
 (k (.sc (.bool false)) H)
 (p.load true 3 t8 H fun t120 =>
 p.call 3 (.fn 48 [] []) [t120, (.sc (.int .i64 1))] H fun t122 H =>
 p.bin .lss t122 (.sc (.int .i64 0)) fun t124 =>
 p.cond t124
 (k (.sc (.bool false)) H)
 (p.load true 25 t9 H fun t125 =>
 p.call 3 (.fn 49 [] []) [t125, t122] H fun t127 H =>
 p.bin .lss t127 (.sc (.int .i64 0)) fun t129 =>
 p.cond t129
 (k (.sc (.bool false)) H)
 (p.bin .neq t127 t84 fun t132 =>
 p.cond t132
 (k (.sc (.bool false)) H)
 (k (.sc (.bool true)) H)))))))))))
theorem f8_body (p : Pr β) (n : Nat) (a0 : AV) (H : Heap) (k : AV → Heap → Option β) : evalBody ti0 p n ⟨c8, 133, Go.Proofs.Tryz.f8.results.toList, o8⟩ [a0] H k = f8 p n a0 H k := by kernel_rfl
noncomputable def fss : List (Option FnI) := [none, none, none, none, none, none, none, none, some ⟨c8, 133, Go.Proofs.Tryz.f8.results.toList, o8⟩, none, none, none, none, none, none, none, none, none, none, none, some ⟨c20, 19, Go.Proofs.Tryz.f20.results.toList, o20⟩, none, some ⟨c22, 18, Go.Proofs.Tryz.f22.results.toList, o22⟩, none, some ⟨c24, 26, Go.Proofs.Tryz.f24.results.toList, o24⟩, none, none, none, none, none, none, none, none, none, none, some ⟨c35, 18, Go.Proofs.Tryz.f35.results.toList, o35⟩, none, some ⟨c37, 16, Go.Proofs.Tryz.f37.results.toList, o37⟩, none, none, some ⟨c40, 22, Go.Proofs.Tryz.f40.results.toList, o40⟩, some ⟨c41, 14, Go.Proofs.Tryz.f41.results.toList, o41⟩, none, none, some ⟨c44, 75, Go.Proofs.Tryz.f44.results.toList, o44⟩, some ⟨c45, 73, Go.Proofs.Tryz.f45.results.toList, o45⟩, some ⟨c46, 136, Go.Proofs.Tryz.f46.results.toList, o46⟩, some ⟨c47, 30, Go.Proofs.Tryz.f47.results.toList, o47⟩, some ⟨c48, 18, Go.Proofs.Tryz.f48.results.toList, o48⟩, some ⟨c49, 42, Go.Proofs.Tryz.f49.results.toList, o49⟩, none, none, none, none, none, none, none, none, none, none, none, none, none, some ⟨c63, 26, Go.Proofs.Tryz.f63.results.toList, o63⟩, some ⟨c64, 19, Go.Proofs.Tryz.f64.results.toList, o64⟩, some ⟨c65, 21, Go.Proofs.Tryz.f65.results.toList, o65⟩, none, some ⟨c67, 12, Go.Proofs.Tryz.f67.results.toList, o67⟩, none, some ⟨c69, 22, Go.Proofs.Tryz.f69.results.toList, o69⟩, none, some ⟨c71, 26, Go.Proofs.Tryz.f71.results.toList, o71⟩, some ⟨c72, 20, Go.Proofs.Tryz.f72.results.toList, o72⟩, none, none, none, none, none, none, none, some ⟨c80, 67, Go.Proofs.Tryz.f80.results.toList, o80⟩, none, some ⟨c82, 6, Go.Proofs.Tryz.f82.results.toList, o82⟩, some ⟨c83, 15, Go.Proofs.Tryz.f83.results.toList, o83⟩, some ⟨c84, 71, Go.Proofs.Tryz.f84.results.toList, o84⟩, none, some ⟨c86, 27, Go.Proofs.Tryz.f86.results.toList, o86⟩, some ⟨c87, 27, Go.Proofs.Tryz.f87.results.toList, o87⟩, none, some ⟨c89, 20, Go.Proofs.Tryz.f89.results.toList, o89⟩, some ⟨c90, 23, Go.Proofs.Tryz.f90.results.toList, o90⟩, some ⟨c91, 23, Go.Proofs.Tryz.f91.results.toList, o91⟩, none, some ⟨c93, 20, Go.Proofs.Tryz.f93.results.toList, o93⟩, some ⟨c94, 27, Go.Proofs.Tryz.f94.results.toList, o94⟩, some ⟨c95, 27, Go.Proofs.Tryz.f95.results.toList, o95⟩, some ⟨c96, 62, Go.Proofs.Tryz.f96.results.toList, o96⟩, some ⟨c97, 44, Go.Proofs.Tryz.f97.results.toList, o97⟩, some ⟨c98, 20, Go.Proofs.Tryz.f98.results.toList, o98⟩, some ⟨c99, 28, Go.Proofs.Tryz.f99.results.toList, o99⟩, some ⟨c100, 20, Go.Proofs.Tryz.f100.results.toList, o100⟩, some ⟨c101, 22, Go.Proofs.Tryz.f101.results.toList, o101⟩, some ⟨c102, 32, Go.Proofs.Tryz.f102.results.toList, o102⟩, some ⟨c103, 22, Go.Proofs.Tryz.f103.results.toList, o103⟩, some ⟨c104, 44, Go.Proofs.Tryz.f104.results.toList, o104⟩, some ⟨c105, 25, Go.Proofs.Tryz.f105.results.toList, o105⟩, some ⟨c106, 17, Go.Proofs.Tryz.f106.results.toList, o106⟩, some ⟨c107, 31, Go.Proofs.Tryz.f107.results.toList, o107⟩, some ⟨c108, 34, Go.Proofs.Tryz.f108.results.toList, o108⟩, some ⟨c109, 25, Go.Proofs.Tryz.f109.results.toList, o109⟩, some ⟨c110, 18, Go.Proofs.Tryz.f110.results.toList, o110⟩, some ⟨c111, 40, Go.Proofs.Tryz.f111.results.toList, o111⟩, some ⟨c112, 27, Go.Proofs.Tryz.f112.results.toList, o112⟩, some ⟨c113, 26, Go.Proofs.Tryz.f113.results.toList, o113⟩, some ⟨c114, 74, Go.Proofs.Tryz.f114.results.toList, o114⟩, some ⟨c115, 52, Go.Proofs.Tryz.f115.results.toList, o115⟩, some ⟨c116, 8, Go.Proofs.Tryz.f116.results.toList, o116⟩, none, none, none, none, none, none, none, none, none, none, none, some ⟨c128, 15, Go.Proofs.Tryz.f128.results.toList, o128⟩, none, none, none, none, none, none, none, none, some ⟨c137, 5, Go.Proofs.Tryz.f137.results.toList, o137⟩, some ⟨c138, 17, Go.Proofs.Tryz.f138.results.toList, o138⟩, some ⟨c139, 5, Go.Proofs.Tryz.f139.results.toList, o139⟩, some ⟨c140, 10, Go.Proofs.Tryz.f140.results.toList, o140⟩, some ⟨c141, 35, Go.Proofs.Tryz.f141.results.toList, o141⟩, some ⟨c142, 17, Go.Proofs.Tryz.f142.results.toList, o142⟩, some ⟨c143, 24, Go.Proofs.Tryz.f143.results.toList, o143⟩, some ⟨c144, 19, Go.Proofs.Tryz.f144.results.toList, o144⟩, some ⟨c145, 12, Go.Proofs.Tryz.f145.results.toList, o145⟩, none, some ⟨c147, 15, Go.Proofs.Tryz.f147.results.toList, o147⟩, none, some ⟨c149, 18, Go.Proofs.Tryz.f149.results.toList, o149⟩, some ⟨c150, 21, Go.Proofs.Tryz.f150.results.toList, o150⟩, some ⟨c151, 21, Go.Proofs.Tryz.f151.results.toList, o151⟩, some ⟨c152, 14, Go.Proofs.Tryz.f152.results.toList, o152⟩, some ⟨c153, 18, Go.Proofs.Tryz.f153.results.toList, o153⟩, some ⟨c154, 20, Go.Proofs.Tryz.f154.results.toList, o154⟩, some ⟨c155, 9, Go.Proofs.Tryz.f155.results.toList, o155⟩, some ⟨c156, 15, Go.Proofs.Tryz.f156.results.toList, o156⟩, some ⟨c157, 19, Go.Proofs.Tryz.f157.results.toList, o157⟩, some ⟨c158, 8, Go.Proofs.Tryz.f158.results.toList, o158⟩, none, none, none, none, none, none, none, none, none, none, some ⟨c169, 20, Go.Proofs.Tryz.f169.results.toList, o169⟩, some ⟨c170, 5, Go.Proofs.Tryz.f170.results.toList, o170⟩, some ⟨c171, 15, Go.Proofs.Tryz.f171.results.toList, o171⟩, some ⟨c172, 104, Go.Proofs.Tryz.f172.results.toList, o172⟩, some ⟨c173, 25, Go.Proofs.Tryz.f173.results.toList, o173⟩, none, none, none, none, none, none, none, none, none, none, none, none, none, none, none, some ⟨c189, 5, Go.Proofs.Tryz.f189.results.toList, o189⟩, some ⟨c190, 17, Go.Proofs.Tryz.f190.results.toList, o190⟩, some ⟨c191, 33, Go.Proofs.Tryz.f191.results.toList, o191⟩]
noncomputable def tps : List (Nat × List Nat) := [(47, [35, 3]), (55, [35, 4, 3, 3]), (57, [9, 3, 4, 3, 3]), (76, [33, 75, 4]), (89, [88, 4]), (99, [33, 3]), (129, [31, 49, 4]), (131, [3, 4]), (143, [31, 3]), (177, [3, 3, 4]), (201, [200, 4]), (210, [21, 3]), (213, [212, 212])]
noncomputable def E0 : Env := { ti := ti0, tp := fun t => ordOf tps t, fs := fun f => (fss[f]?).getD none, ext := fun f => if Nat.beq f 136 then some ext136 else if Nat.beq f 188 then some ext188 else if Nat.beq f 202 then some ext202 else none, hm := fun f => [16, 25, 41, 42, 47, 57, 64, 72, 73, 74, 75, 76, 77, 78, 96, 97, 99, 100, 125, 131, 132, 133, 134, 135, 159, 163, 164, 165, 166, 167, 175, 178, 183, 184, 185, 186, 199, 200, 207, 233, 234, 235, 236, 237].contains f }
noncomputable def PR (n : Nat) (β : Type) : Pr β := prims E0 (evalFn E0 n) β
theorem f67_eq (n : Nat) (a0 a1 : AV) (H : Heap) (k : AV → Heap → Option β) : evalFn E0 (n + 1) β 67 [a0, a1] H k = f67 (PR n β) n a0 a1 H k := f67_body (PR n β) n a0 a1 H k
theorem f20_eq (n : Nat) (a0 a1 : AV) (H : Heap) (k : AV → Heap → Option β) : evalFn E0 (n + 1) β 20 [a0, a1] H k = f20 (PR n β) n a0 a1 H k := f20_body (PR n β) n a0 a1 H k
theorem f145_eq (n : Nat) (a0 a1 : AV) (H : Heap) (k : AV → Heap → Option β) : evalFn E0 (n + 1) β 145 [a0, a1] H k = f145 (PR n β) n a0 a1 H k := f145_body (PR n β) n a0 a1 H k
theorem f86_eq (n : Nat) (a0 a1 : AV) (H : Heap) (k : AV → Heap → Option β) : evalFn E0 (n + 1) β 86 [a0, a1] H k = f86 (PR n β) n a0 a1 H k := f86_body (PR n β) n a0 a1 H k
theorem f87_eq (n : Nat) (a0 a1 : AV) (H : Heap) (k : AV → Heap → Option β) : evalFn E0 (n + 1) β 87 [a0, a1] H k = f87 (PR n β) n a0 a1 H k := f87_body (PR n β) n a0 a1 H k
theorem f35_eq (n : Nat) (a0 a1 : AV) (H : Heap) (k : AV → Heap → Option β) : evalFn E0 (n + 1) β 35 [a0, a1] H k = f35 (PR n β) n a0 a1 H k := f35_body (PR n β) n a0 a1 H k
theorem f69_eq (n : Nat) (a0 : AV) (H : Heap) (k : AV → Heap → Option β) : evalFn E0 (n + 1) β 69 [a0] H k = f69 (PR n β) n a0 H k := f69_body (PR n β) n a0 H k
theorem f22_eq (n : Nat) (a0 : AV) (H : Heap) (k : AV → Heap → Option β) : evalFn E0 (n + 1) β 22 [a0] H k = f22 (PR n β) n a0 H k := f22_body (PR n β) n a0 H k
theorem f147_eq (n : Nat) (a0 : AV) (H : Heap) (k : AV → Heap → Option β) : evalFn E0 (n + 1) β 147 [a0] H k = f147 (PR n β) n a0 H k := f147_body (PR n β) n a0 H k
theorem f90_eq (n : Nat) (a0 : AV) (H : Heap) (k : AV → Heap → Option β) : evalFn E0 (n + 1) β 90 [a0] H k = f90 (PR n β) n a0 H k := f90_body (PR n β) n a0 H k
theorem f91_eq (n : Nat) (a0 : AV) (H : Heap) (k : AV → Heap → Option β) : evalFn E0 (n + 1) β 91 [a0] H k = f91 (PR n β) n a0 H k := f91_body (PR n β) n a0 H k
theorem f37_eq (n : Nat) (a0 : AV) (H : Heap) (k : AV → Heap → Option β) : evalFn E0 (n + 1) β 37 [a0] H k = f37 (PR n β) n a0 H k := f37_body (PR n β) n a0 H k
theorem f152_eq (n : Nat) (a0 : AV) (H : Heap) (k : AV → Heap → Option β) : evalFn E0 (n + 1) β 152 [a0] H k = f152 (PR n β) n a0 H k := f152_body (PR n β) n a0 H k
theorem f151_eq (n : Nat) (a0 : AV) (H : Heap) (k : AV → Heap → Option β) : evalFn E0 (n + 1) β 151 [a0] H k = f151 (PR n β) n a0 H k := f151_body (PR n β) n a0 H k
theorem f104_eq (n : Nat) (a0 : AV) (H : Heap) (k : AV → Heap → Option β) : evalFn E0 (n + 1) β 104 [a0] H k = f104 (PR n β) n a0 H k := f104_body (PR n β) n a0 H k
theorem f83_eq (n : Nat) (a0 a1 a2 : AV) (H : Heap) (k : AV → Heap → Option β) : evalFn E0 (n + 1) β 83 [a0, a1, a2] H k = f83 (PR n β) n a0 a1 a2 H k := f83_body (PR n β) n a0 a1 a2 H k
theorem f172_eq (n : Nat) (a0 a1 : AV) (H : Heap) (k : AV → Heap → Option β) : evalFn E0 (n + 1) β 172 [a0, a1] H k = f172 (PR n β) n a0 a1 H k := f172_body (PR n β) n a0 a1 H k
theorem f141_eq (n : Nat) (a0 : AV) (H : Heap) (k : AV → Heap → Option β) : evalFn E0 (n + 1) β 141 [a0] H k = f141 (PR n β) n a0 H k := f141_body (PR n β) n a0 H k
theorem f82_eq (n : Nat) (a0 : AV) (H : Heap) (k : AV → Heap → Option β) : evalFn E0 (n + 1) β 82 [a0] H k = f82 (PR n β) n a0 H k := f82_body (PR n β) n a0 H k
theorem f190_eq (n : Nat) (a0 a1 : AV) (H : Heap) (k : AV → Heap → Option β) : evalFn E0 (n + 1) β 190 [a0, a1] H k = f190 (PR n β) n a0 a1 H k := f190_body (PR n β) n a0 a1 H k
theorem f191_eq (n : Nat) (a0 : AV) (H : Heap) (k : AV → Heap → Option β) : evalFn E0 (n + 1) β 191 [a0] H k = f191 (PR n β) n a0 H k := f191_body (PR n β) n a0 H k
theorem f173_eq (n : Nat) (a0 : AV) (H : Heap) (k : AV → Heap → Option β) : evalFn E0 (n + 1) β 173 [a0] H k = f173 (PR n β) n a0 H k := f173_body (PR n β) n a0 H k
theorem f142_eq (n : Nat) (a0 : AV) (H : Heap) (k : AV → Heap → Option β) : evalFn E0 (n + 1) β 142 [a0] H k = f142 (PR n β) n a0 H k := f142_body (PR n β) n a0 H k
theorem f143_eq (n : Nat) (a0 : AV) (H : Heap) (k : AV → Heap → Option β) : evalFn E0 (n + 1) β 143 [a0] H k = f143 (PR n β) n a0 H k := f143_body (PR n β) n a0 H k
theorem f144_eq (n : Nat) (a0 : AV) (H : Heap) (k : AV → Heap → Option β) : evalFn E0 (n + 1) β 144 [a0] H k = f144 (PR n β) n a0 H k := f144_body (PR n β) n a0 H k
theorem f84_eq (n : Nat) (a0 : AV) (H : Heap) (k : AV → Heap → Option β) : evalFn E0 (n + 1) β 84 [a0] H k = f84 (PR n β) n a0 H k := f84_body (PR n β) n a0 H k
theorem f105_eq (n : Nat) (a0 : AV) (H : Heap) (k : AV → Heap → Option β) : evalFn E0 (n + 1) β 105 [a0] H k = f105 (PR n β) n a0 H k := f105_body (PR n β) n a0 H k
theorem f106_eq (n : Nat) (a0 : AV) (H : Heap) (k : AV → Heap → Option β) : evalFn E0 (n + 1) β 106 [a0] H k = f106 (PR n β) n a0 H k := f106_body (PR n β) n a0 H k
theorem f89_eq (n : Nat) (a0 a1 a2 : AV) (H : Heap) (k : AV → Heap → Option β) : evalFn E0 (n + 1) β 89 [a0, a1, a2] H k = f89 (PR n β) n a0 a1 a2 H k := f89_body (PR n β) n a0 a1 a2 H k
theorem f153_eq (n : Nat) (a0 a1 : AV) (H : Heap) (k : AV → Heap → Option β) : evalFn E0 (n + 1) β 153 [a0, a1] H k = f153 (PR n β) n a0 a1 H k := f153_body (PR n β) n a0 a1 H k
theorem f107_eq (n : Nat) (a0 a1 : AV) (H : Heap) (k : AV → Heap → Option β) : evalFn E0 (n + 1) β 107 [a0, a1] H k = f107 (PR n β) n a0 a1 H k := f107_body (PR n β) n a0 a1 H k
theorem f44_eq (n : Nat) (a0 : AV) (H : Heap) (k : AV → Heap → Option β) : evalFn E0 (n + 1) β 44 [a0] H k = f44 (PR n β) n a0 H k := f44_body (PR n β) n a0 H k
theorem f149_eq (n : Nat) (a0 : AV) (H : Heap) (k : AV → Heap → Option β) : evalFn E0 (n + 1) β 149 [a0] H k = f149 (PR n β) n a0 H k := f149_body (PR n β) n a0 H k
theorem f155_eq (n : Nat) (a0 : AV) (H : Heap) (k : AV → Heap → Option β) : evalFn E0 (n + 1) β 155 [a0] H k = f155 (PR n β) n a0 H k := f155_body (PR n β) n a0 H k
theorem f154_eq (n : Nat) (a0 : AV) (H : Heap) (k : AV → Heap → Option β) : evalFn E0 (n + 1) β 154 [a0] H k = f154 (PR n β) n a0 H k := f154_body (PR n β) n a0 H k
theorem f108_eq (n : Nat) (a0 : AV) (H : Heap) (k : AV → Heap → Option β) : evalFn E0 (n + 1) β 108 [a0] H k = f108 (PR n β) n a0 H k := f108_body (PR n β) n a0 H k
theorem f128_eq (n : Nat) (a0 a1 a2 : AV) (H : Heap) (k : AV → Heap → Option β) : evalFn E0 (n + 1) β 128 [a0, a1, a2] H k = f128 (PR n β) n a0 a1 a2 H k := f128_body (PR n β) n a0 a1 a2 H k
theorem f137_eq (n : Nat) (a0 : AV) (H : Heap) (k : AV → Heap → Option β) : evalFn E0 (n + 1) β 137 [a0] H k = f137 (PR n β) n a0 H k := f137_body (PR n β) n a0 H k
theorem f158_eq (n : Nat) (a0 a1 : AV) (H : Heap) (k : AV → Heap → Option β) : evalFn E0 (n + 1) β 158 [a0, a1] H k = f158 (PR n β) n a0 a1 H k := f158_body (PR n β) n a0 a1 H k
theorem f157_eq (n : Nat) (a0 a1 : AV) (H : Heap) (k : AV → Heap → Option β) : evalFn E0 (n + 1) β 157 [a0, a1] H k = f157 (PR n β) n a0 a1 H k := f157_body (PR n β) n a0 a1 H k
theorem f116_eq (n : Nat) (a0 a1 : AV) (H : Heap) (k : AV → Heap → Option β) : evalFn E0 (n + 1) β 116 [a0, a1] H k = f116 (PR n β) n a0 a1 H k := f116_body (PR n β) n a0 a1 H k
theorem f189_eq (n : Nat) (a0 : AV) (H : Heap) (k : AV → Heap → Option β) : evalFn E0 (n + 1) β 189 [a0] H k = f189 (PR n β) n a0 H k := f189_body (PR n β) n a0 H k
theorem f169_eq (n : Nat) (a0 : AV) (H : Heap) (k : AV → Heap → Option β) : evalFn E0 (n + 1) β 169 [a0] H k = f169 (PR n β) n a0 H k := f169_body (PR n β) n a0 H k
theorem f170_eq (n : Nat) (a0 : AV) (H : Heap) (k : AV → Heap → Option β) : evalFn E0 (n + 1) β 170 [a0] H k = f170 (PR n β) n a0 H k := f170_body (PR n β) n a0 H k
theorem f138_eq (n : Nat) (a0 : AV) (H : Heap) (k : AV → Heap → Option β) : evalFn E0 (n + 1) β 138 [a0] H k = f138 (PR n β) n a0 H k := f138_body (PR n β) n a0 H k
theorem f139_eq (n : Nat) (a0 : AV) (H : Heap) (k : AV → Heap → Option β) : evalFn E0 (n + 1) β 139 [a0] H k = f139 (PR n β) n a0 H k := f139_body (PR n β) n a0 H k
theorem f171_eq (n : Nat) (a0 : AV) (H : Heap) (k : AV → Heap → Option β) : evalFn E0 (n + 1) β 171 [a0] H k = f171 (PR n β) n a0 H k := f171_body (PR n β) n a0 H k
theorem f140_eq (n : Nat) (a0 : AV) (H : Heap) (k : AV → Heap → Option β) : evalFn E0 (n + 1) β 140 [a0] H k = f140 (PR n β) n a0 H k := f140_body (PR n β) n a0 H k
theorem f80_eq (n : Nat) (a0 : AV) (H : Heap) (k : AV → Heap → Option β) : evalFn E0 (n + 1) β 80 [a0] H k = f80 (PR n β) n a0 H k := f80_body (PR n β) n a0 H k
theorem f109_eq (n : Nat) (a0 : AV) (H : Heap) (k : AV → Heap → Option β) : evalFn E0 (n + 1) β 109 [a0] H k = f109 (PR n β) n a0 H k := f109_body (PR n β) n a0 H k
theorem f110_eq (n : Nat) (a0 : AV) (H : Heap) (k : AV → Heap → Option β) : evalFn E0 (n + 1) β 110 [a0] H k = f110 (PR n β) n a0 H k := f110_body (PR n β) n a0 H k
theorem f93_eq (n : Nat) (a0 a1 a2 : AV) (H : Heap) (k : AV → Heap → Option β) : evalFn E0 (n + 1) β 93 [a0, a1, a2] H k = f93 (PR n β) n a0 a1 a2 H k := f93_body (PR n β) n a0 a1 a2 H k
theorem f111_eq (n : Nat) (a0 a1 : AV) (H : Heap) (k : AV → Heap → Option β) : evalFn E0 (n + 1) β 111 [a0, a1] H k = f111 (PR n β) n a0 a1 H k := f111_body (PR n β) n a0 a1 H k
theorem f45_eq (n : Nat) (a0 : AV) (H : Heap) (k : AV → Heap → Option β) : evalFn E0 (n + 1) β 45 [a0] H k = f45 (PR n β) n a0 H k := f45_body (PR n β) n a0 H k
theorem f71_eq (n : Nat) (a0 a1 : AV) (H : Heap) (k : AV → Heap → Option β) : evalFn E0 (n + 1) β 71 [a0, a1] H k = f71 (PR n β) n a0 a1 H k := f71_body (PR n β) n a0 a1 H k
theorem f24_eq (n : Nat) (a0 a1 : AV) (H : Heap) (k : AV → Heap → Option β) : evalFn E0 (n + 1) β 24 [a0, a1] H k = f24 (PR n β) n a0 a1 H k := f24_body (PR n β) n a0 a1 H k
theorem f150_eq (n : Nat) (a0 a1 : AV) (H : Heap) (k : AV → Heap → Option β) : evalFn E0 (n + 1) β 150 [a0, a1] H k = f150 (PR n β) n a0 a1 H k := f150_body (PR n β) n a0 a1 H k
theorem f94_eq (n : Nat) (a0 a1 : AV) (H : Heap) (k : AV → Heap → Option β) : evalFn E0 (n + 1) β 94 [a0, a1] H k = f94 (PR n β) n a0 a1 H k := f94_body (PR n β) n a0 a1 H k
theorem f95_eq (n : Nat) (a0 a1 : AV) (H : Heap) (k : AV → Heap → Option β) : evalFn E0 (n + 1) β 95 [a0, a1] H k = f95 (PR n β) n a0 a1 H k := f95_body (PR n β) n a0 a1 H k
theorem f40_eq (n : Nat) (a0 a1 : AV) (H : Heap) (k : AV → Heap → Option β) : evalFn E0 (n + 1) β 40 [a0, a1] H k = f40 (PR n β) n a0 a1 H k := f40_body (PR n β) n a0 a1 H k
theorem f156_eq (n : Nat) (a0 a1 : AV) (H : Heap) (k : AV → Heap → Option β) : evalFn E0 (n + 1) β 156 [a0, a1] H k = f156 (PR n β) n a0 a1 H k := f156_body (PR n β) n a0 a1 H k
theorem f112_eq (n : Nat) (a0 a1 : AV) (H : Heap) (k : AV → Heap → Option β) : evalFn E0 (n + 1) β 112 [a0, a1] H k = f112 (PR n β) n a0 a1 H k := f112_body (PR n β) n a0 a1 H k
theorem f113_eq (n : Nat) (a0 a1 : AV) (H : Heap) (k : AV → Heap → Option β) : evalFn E0 (n + 1) β 113 [a0, a1] H k = f113 (PR n β) n a0 a1 H k := f113_body (PR n β) n a0 a1 H k
theorem f63_eq (n : Nat) (a0 a1 : AV) (H : Heap) (k : AV → Heap → Option β) : evalFn E0 (n + 1) β 63 [a0, a1] H k = f63 (PR n β) n a0 a1 H k := f63_body (PR n β) n a0 a1 H k
theorem f46_eq (n : Nat) (a0 a1 : AV) (H : Heap) (k : AV → Heap → Option β) : evalFn E0 (n + 1) β 46 [a0, a1] H k = f46 (PR n β) n a0 a1 H k := f46_body (PR n β) n a0 a1 H k
theorem f98_eq (n : Nat) (a0 : AV) (H : Heap) (k : AV → Heap → Option β) : evalFn E0 (n + 1) β 98 [a0] H k = f98 (PR n β) n a0 H k := f98_body (PR n β) n a0 H k
theorem f72_eq (n : Nat) (a0 a1 : AV) (H : Heap) (k : AV → Heap → Option β) : evalFn E0 (n + 1) β 72 [a0, a1] H k = f72 (PR n β) n a0 a1 H k := f72_body (PR n β) n a0 a1 H k
theorem f96_eq (n : Nat) (a0 a1 : AV) (H : Heap) (k : AV → Heap → Option β) : evalFn E0 (n + 1) β 96 [a0, a1] H k = f96 (PR n β) n a0 a1 H k := f96_body (PR n β) n a0 a1 H k
theorem f97_eq (n : Nat) (a0 a1 : AV) (H : Heap) (k : AV → Heap → Option β) : evalFn E0 (n + 1) β 97 [a0, a1] H k = f97 (PR n β) n a0 a1 H k := f97_body (PR n β) n a0 a1 H k
theorem f41_eq (n : Nat) (a0 a1 : AV) (H : Heap) (k : AV → Heap → Option β) : evalFn E0 (n + 1) β 41 [a0, a1] H k = f41 (PR n β) n a0 a1 H k := f41_body (PR n β) n a0 a1 H k
theorem f99_eq (n : Nat) (a0 a1 : AV) (H : Heap) (k : AV → Heap → Option β) : evalFn E0 (n + 1) β 99 [a0, a1] H k = f99 (PR n β) n a0 a1 H k := f99_body (PR n β) n a0 a1 H k
theorem f100_eq (n : Nat) (a0 a1 : AV) (H : Heap) (k : AV → Heap → Option β) : evalFn E0 (n + 1) β 100 [a0, a1] H k = f100 (PR n β) n a0 a1 H k := f100_body (PR n β) n a0 a1 H k
theorem f64_eq (n : Nat) (a0 a1 : AV) (H : Heap) (k : AV → Heap → Option β) : evalFn E0 (n + 1) β 64 [a0, a1] H k = f64 (PR n β) n a0 a1 H k := f64_body (PR n β) n a0 a1 H k
theorem f47_eq (n : Nat) (a0 a1 : AV) (H : Heap) (k : AV → Heap → Option β) : evalFn E0 (n + 1) β 47 [a0, a1] H k = f47 (PR n β) n a0 a1 H k := f47_body (PR n β) n a0 a1 H k
theorem f101_eq (n : Nat) (a0 a1 : AV) (H : Heap) (k : AV → Heap → Option β) : evalFn E0 (n + 1) β 101 [a0, a1] H k = f101 (PR n β) n a0 a1 H k := f101_body (PR n β) n a0 a1 H k
theorem f114_eq (n : Nat) (a0 a1 : AV) (H : Heap) (k : AV → Heap → Option β) : evalFn E0 (n + 1) β 114 [a0, a1] H k = f114 (PR n β) n a0 a1 H k := f114_body (PR n β) n a0 a1 H k
theorem f115_eq (n : Nat) (a0 a1 : AV) (H : Heap) (k : AV → Heap → Option β) : evalFn E0 (n + 1) β 115 [a0, a1] H k = f115 (PR n β) n a0 a1 H k := f115_body (PR n β) n a0 a1 H k
theorem f48_eq (n : Nat) (a0 a1 : AV) (H : Heap) (k : AV → Heap → Option β) : evalFn E0 (n + 1) β 48 [a0, a1] H k = f48 (PR n β) n a0 a1 H k := f48_body (PR n β) n a0 a1 H k
theorem f102_eq (n : Nat) (a0 a1 : AV) (H : Heap) (k : AV → Heap → Option β) : evalFn E0 (n + 1) β 102 [a0, a1] H k = f102 (PR n β) n a0 a1 H k := f102_body (PR n β) n a0 a1 H k
theorem f103_eq (n : Nat) (a0 a1 : AV) (H : Heap) (k : AV → Heap → Option β) : evalFn E0 (n + 1) β 103 [a0, a1] H k = f103 (PR n β) n a0 a1 H k := f103_body (PR n β) n a0 a1 H k
theorem f65_eq (n : Nat) (a0 a1 : AV) (H : Heap) (k : AV → Heap → Option β) : evalFn E0 (n + 1) β 65 [a0, a1] H k = f65 (PR n β) n a0 a1 H k := f65_body (PR n β) n a0 a1 H k
theorem f49_eq (n : Nat) (a0 a1 : AV) (H : Heap) (k : AV → Heap → Option β) : evalFn E0 (n + 1) β 49 [a0, a1] H k = f49 (PR n β) n a0 a1 H k := f49_body (PR n β) n a0 a1 H k
theorem f8_eq (n : Nat) (a0 : AV) (H : Heap) (k : AV → Heap → Option β) : evalFn E0 (n + 1) β 8 [a0] H k = f8 (PR n β) n a0 H k := f8_body (PR n β) n a0 H k
end Go.Proofs.YtdameggfgnpehaaGreatDoor.Abs
set_option linter.unusedVariables false
set_option linter.unusedSimpArgs false
namespace Go.Proofs.YtdameggfgnpehaaGreatDoor.Abs
open Go Go.Shelf Go.RowKit Go.Lib Go.Proofs
variable {P : Program} {ρ : Ren}
def ItAt (w w' : World) (s : ByteArray) (pos : Nat) : Prop := Below w.heap.size w w' ∧ w'.heap[w.heap.size]? = some (.stringIter s pos)
def setIt (w' : World) (a : Nat) (s : ByteArray) (pos : Nat) : World := { w' with heap := w'.heap.setIfInBounds a (.stringIter s pos) }
theorem itAt_start (w : World) (s : ByteArray) (pos : Nat) : ItAt w (w.iter s pos) s pos := ⟨(Below.refl _ w).alloc (Nat.le_refl _) _, World.iter_heap w s pos⟩
theorem ItAt.lt {w w' : World} {s : ByteArray} {pos : Nat} (h : ItAt w w' s pos) : w.heap.size < w'.heap.size := by
 have := h.2
 simp only [Array.getElem?_eq_some_iff] at this
 exact this.1
theorem ItAt.set {w w' : World} {s : ByteArray} {pos : Nat} (h : ItAt w w' s pos) (pos' : Nat) : ItAt w (setIt w' w.heap.size s pos') s pos' := by
 refine ⟨h.1.trans ⟨rfl, rfl, rfl, by simp [setIt], fun k hk => ?_⟩, ?_⟩
 ·simp only [setIt]
  rw [Array.getElem?_setIfInBounds_ne (by omega)]
 ·simp only [setIt]
  rw [Array.getElem?_setIfInBounds_self_of_lt h.lt]
theorem ItAt.below {w w1 w2 : World} {s : ByteArray} {pos : Nat} (h : ItAt w w1 s pos) (hb : Below w1.heap.size w1 w2) : ItAt w w2 s pos :=
 ⟨h.1.trans (hb.mono h.1.size), by rw [hb.block _ h.lt]; exact h.2⟩
theorem next_at {w w' : World} {s : ByteArray} {pos : Nat} (h : ItAt w w' s pos) (hp : pos < s.size) (ty : TypeId) :
  (Instr.next (.pointer (some ⟨w.heap.size, 0, none⟩)) true ty).run P w' = .ok (.tuple #[.bool true, .int .i64 pos, .int .i32 (Utf8.decode s pos).1]) (setIt w' w.heap.size s (pos + (Utf8.decode s pos).2)) := by
 simp only [Instr.next, getObj, setObj, Sem.run_bind, Sem.run, h.2, Result.andThen, hp, if_true]
 simp [goInt, setIt]
theorem next_end {w w' : World} {s : ByteArray} {pos : Nat} (h : ItAt w w' s pos) (hp : ¬ pos < s.size) (ty : TypeId) :
  (Instr.next (.pointer (some ⟨w.heap.size, 0, none⟩)) true ty).run P w' = .ok (.tuple #[.bool false]) w' := by
 simp [Instr.next, getObj, Sem.run, h.2, hp]
theorem rune_at (s : ByteArray) (pos : Nat) : (Utf8.decode s pos).1 < 55296 ∨ (57343 < (Utf8.decode s pos).1 ∧ (Utf8.decode s pos).1 ≤ 1114111) := by
 rw [← Lib.decodeL_drop, Lib.decodeL_N]
 exact Lib.decodeN_valid _ _ _ _ _ (UInt8.toNat_lt _)
theorem ph_size : phB.size = 2 := rfl
set_option maxHeartbeats 8000000 in
set_option maxRecDepth 1000000 in
theorem rune_big (L : Lays.n152 P ρ) (r : Nat) (rs : ByteArray) (w : World) (h1 : 128 ≤ r) (hv : r < 55296 ∨ (57343 < r ∧ r ≤ 1114111)) (he : ¬ r = 65533) (hcv : ∀ w, (convert (ρ.t 21) (ρ.t 9) (.int .i32 r)).run P w = .ok (.string rs) w)
  (hs2 : 2 ≤ rs.size) (hs4 : rs.size ≤ 4) (hsl : rs.size = 2 → ∀ h : 1 < rs.size, 128 ≤ (rs[1]'h).toNat) :
  Calls P (ρ.f 152) #[.string phB, .int .i32 r] w fun e w' => e = .returned (.int .i64 (-1)) ∧ Below w.heap.size w w' := by
 have cV : ∀ w, Calls P (ρ.f 119) #[.int .i32 r] w _ := fun w => Any.utf8_ValidRune { L with } r w
 have cI : ∀ s c w, Calls P (ρ.f 137) #[.string s, .int .u8 c] w _ := fun s c w => Any.strings_IndexByte { L with } s c w
 have mixed := L.mixed
 have t3 := L.t3; have a3 := L.a3; have z3 := L.z3; have v3 := L.v3
 have t4 := L.t4; have a4 := L.a4; have z4 := L.z4; have v4 := L.v4
 have t5 := L.t5; have a5 := L.a5; have z5 := L.z5; have v5 := L.v5
 have t9 := L.t9; have a9 := L.a9; have z9 := L.z9; have v9 := L.v9
 have t21 := L.t21; have a21 := L.a21; have z21 := L.z21; have v21 := L.v21
 have e137 : ∀ args w, (callFunc (ρ.f 137) args).run P w = .ok (.enter (ρ.f 137) args) w := enters_of L.f137 (by kernel_rfl) rfl
 have e119 : ∀ args w, (callFunc (ρ.f 119) args).run P w = .ok (.enter (ρ.f 119) args) w := enters_of L.f119 (by kernel_rfl) rfl
 have hge : decide ((0 : Int) ≤ (r : Int)) = true := by simp
 have hlt : decide ((r : Int) < 128) = false := by simp; omega
 have bel : ∀ pos, Below w.heap.size w (w.iter phB pos) := fun pos => (Below.refl _ w).alloc (Nat.le_refl _) _
 have hne : ((r : Int) == 65533) = false := by simp; omega
 have hvr : Lib.validRune (r : Int) = true := by simp [Lib.validRune]; omega
 go_enter L.f152, Body.n152_ntmps ρ
 go_wp2_with (first
  | (go_at_fn (ρ.f 119); refine (cV _).mono ?_; rintro e w' ⟨rfl, hw⟩; rw [hw, hvr])
  | (go_at_fn (ρ.f 137); refine (cI _ _ _).mono ?_; rintro e w' ⟨rfl, hw⟩; rw [hw]))
 go_step3
 go_wp2
 go_loopg [9, 10] 1 (fun g i fl wx => g = 1 ∧ i = .int .i64 ((rs.size : Int) - 1) ∧ fl = .int .i64 0 ∧ wx = w)
 case atStart => exact ⟨rfl, rfl, rfl, rfl⟩
 case round =>
  obtain ⟨-, rfl, rfl, rfl⟩ := hrel
  by_cases h3 : 3 ≤ rs.size
  ·have hlt : decide ((rs.size : Int) - 1 < (phB.size : Int)) = false := by rw [ph_size]; simp; omega
   go_wp2
   try rw [Exit.noGoto_ret]
   go_ret
   exact ⟨rfl, Below.refl _ _⟩
  ·have h2 : rs.size = 2 := by omega
   have hi1 : ((rs.size : Int) - 1) = 1 := by omega
   have hi : 1 < rs.size := by omega
   have hp : 1 < phB.size := by decide
   obtain ⟨x, hx⟩ : ∃ x : UInt8, rs[1]'hi = x := ⟨_, rfl⟩
   have hx128 : 128 ≤ x.toNat := by
    rw [← hx]
    exact hsl h2 hi
   have hp1 : phB[1]'hp = 35 := rfl
   have hlt : decide ((1 : Int) < (phB.size : Int)) = true := rfl
   have hne35 : (((35 : UInt8).toNat : Int) != (x.toNat : Int)) = true := by simp; omega
   have hib : Lib.indexByte (List.take (phB.size - 2) (List.drop 2 phB.data.toList)) x = -1 := rfl
   rw [hi1]
   clear hsl hs2 hs4
   go_wp2
   go_step3
   go_wp2
   go_region_o
   all_goals
    go_wp2
    go_region_with_o (go_at_fn (ρ.f 137); refine (cI _ _ _).mono ?_; rintro e w' ⟨rfl, hw⟩; rw [hw])
   all_goals
    go_wp2
    simp only [Exit.inBlock, Exit.then, Exit.noGoto]
    go_ret
    exact ⟨rfl, (Below.refl _ _).drew.drew⟩
set_option maxHeartbeats 8000000 in
set_option maxRecDepth 1000000 in
theorem rune_ph (L : Lays.n152 P ρ) (r : Nat) (w : World) (h1 : 128 ≤ r) (hv : r < 55296 ∨ (57343 < r ∧ r ≤ 1114111)) :
  Calls P (ρ.f 152) #[.string phB, .int .i32 r] w fun e w' => e = .returned (.int .i64 (-1)) ∧ Below w.heap.size w w' := by
 have cV : ∀ w, Calls P (ρ.f 119) #[.int .i32 r] w _ := fun w => Any.utf8_ValidRune { L with } r w
 have cI : ∀ s c w, Calls P (ρ.f 137) #[.string s, .int .u8 c] w _ := fun s c w => Any.strings_IndexByte { L with } s c w
 have t3 := L.t3; have a3 := L.a3; have z3 := L.z3; have v3 := L.v3
 have t4 := L.t4; have a4 := L.a4; have z4 := L.z4; have v4 := L.v4
 have t5 := L.t5; have a5 := L.a5; have z5 := L.z5; have v5 := L.v5
 have t9 := L.t9; have a9 := L.a9; have z9 := L.z9; have v9 := L.v9
 have t21 := L.t21; have a21 := L.a21; have z21 := L.z21; have v21 := L.v21
 have e137 : ∀ args w, (callFunc (ρ.f 137) args).run P w = .ok (.enter (ρ.f 137) args) w := enters_of L.f137 (by kernel_rfl) rfl
 have e119 : ∀ args w, (callFunc (ρ.f 119) args).run P w = .ok (.enter (ρ.f 119) args) w := enters_of L.f119 (by kernel_rfl) rfl
 have hge : decide ((0 : Int) ≤ (r : Int)) = true := by simp
 have hlt : decide ((r : Int) < 128) = false := by simp; omega
 have bel : ∀ pos, Below w.heap.size w (w.iter phB pos) := fun pos => (Below.refl _ w).alloc (Nat.le_refl _) _
 by_cases he : r = 65533
 ·subst he
  go_enter L.f152, Body.n152_ntmps ρ
  go_wp2
  go_loopg [5, 6] 2 (fun g _ _ wx => ∃ i : Nat, i + g = 2 ∧ wx = w.iter phB i)
  case atStart => exact ⟨0, by omega, rfl⟩
  case round =>
   obtain ⟨i, hig, rfl⟩ := hrel
   cases gk with
   | zero =>
    obtain rfl : i = 2 := by omega
    have hnx := fun ty => run_next_end (P := P) w phB 2 ty (by decide)
    go_wp2
    go_ret
    exact ⟨rfl, bel _⟩
   | succ g =>
    have hi : i < phB.size := by
     show i < 2
     omega
    have hx : (phB[i]'hi).toNat < 64 := by
     have : ∀ q : Fin 2, (phB[q.val]'q.isLt).toNat < 64 := by decide
     exact this ⟨i, hi⟩
    have hnx := fun ty => run_next_ascii (P := P) w phB i ty hi (by omega)
    generalize (phB[i]'hi).toNat = x at hnx hx
    have hxe : ((x : Int) == 65533) = false := by simp; omega
    go_wp2
    go_roundg g
    case measure => omega
    case rel => exact ⟨i + 1, by omega, rfl⟩
 ·obtain ⟨hs2, hs4, hsl⟩ := encode_facts (r : Int) (by simp [Utf8.valid]; omega) (by omega)
  refine rune_big L r (Utf8.encode r) w h1 hv he (fun w => run_convert_int_string w _ _ _ _ (by rw [t21]; rfl) t9) hs2 hs4 ?_
  intro h2 hi
  have := hsl (by omega)
  simp only [h2] at this
  exact this
theorem getD_drop (l : List UInt8) (i j : Nat) : (l.drop i).getD j 0 = l.getD (i + j) 0 := by simp [List.getD_eq_getElem?_getD, List.getElem?_drop]
theorem dec_hi (l : List UInt8) (h : 128 ≤ (l.getD 0 0).toNat) : 128 ≤ (Lib.decodeL l).1 ∧ ∀ j, j < (Lib.decodeL l).2 → 128 ≤ (l.getD j 0).toNat := by
 rw [Lib.decodeL_N]
 generalize hn : l.length = n
 generalize h0 : (l.getD 0 0).toNat = b0 at h ⊢
 generalize h1 : (l.getD 1 0).toNat = b1
 generalize h2 : (l.getD 2 0).toNat = b2
 generalize h3 : (l.getD 3 0).toNat = b3
 have key : ∀ q, q ≤ 4 → (q = 2 → 128 ≤ b1) → (q = 3 → 128 ≤ b1 ∧ 128 ≤ b2) → (q = 4 → 128 ≤ b1 ∧ 128 ≤ b2 ∧ 128 ≤ b3) → ∀ j, j < q → 128 ≤ (l.getD j 0).toNat := by
  intro q hq k2 k3 k4 j hj
  have : j = 0 ∨ j = 1 ∨ j = 2 ∨ j = 3 := by omega
  rcases this with rfl | rfl | rfl | rfl
  ·rw [h0]; exact h
  ·rw [h1]; omega
  ·rw [h2]; omega
  ·rw [h3]; omega
 unfold Lib.decodeN
 rw [if_neg (by omega)]
 repeat' split
 all_goals
  refine ⟨?_, key _ ?_ ?_ ?_ ?_⟩ <;> simp only <;> omega
def phL (l : List UInt8) : Bool := l.any fun c => c == 43 || c == 35
theorem phL_skip : ∀ (k : Nat) (l : List UInt8), (∀ j, j < k → 128 ≤ (l.getD j 0).toNat) → phL l = phL (l.drop k)
 | 0, l, _ => rfl
 | k + 1, [], _ => by simp
 | k + 1, b :: l, h => by
  have h0 : 128 ≤ b.toNat := h 0 (by omega)
  have ih := phL_skip k l fun j hj => h (j + 1) (by omega)
  have e1 : (b == 43) = false := by
   rw [beq_eq_false_iff_ne]
   rintro rfl
   simp at h0
  have e2 : (b == 35) = false := by
   rw [beq_eq_false_iff_ne]
   rintro rfl
   simp at h0
  show (List.any (b :: l) _) = _
  rw [List.any_cons, e1, e2, Bool.or_self, Bool.false_or, List.drop_succ_cons]
  exact ih
theorem phL_step (l : List UInt8) (hne : l ≠ []) : phL l = (((Lib.decodeL l).1 == 43 || (Lib.decodeL l).1 == 35) || phL (l.drop (Lib.decodeL l).2)) := by
 cases l with
 | nil => exact absurd rfl hne
 | cons b l =>
  by_cases hb : 128 ≤ b.toNat
  ·obtain ⟨h1, h2⟩ := dec_hi (b :: l) hb
   have e1 : ((Lib.decodeL (b :: l)).1 == 43) = false := by simp; omega
   have e2 : ((Lib.decodeL (b :: l)).1 == 35) = false := by simp; omega
   rw [e1, e2, Bool.or_self, Bool.false_or]
   exact phL_skip _ _ h2
  ·have e : Lib.decodeL (b :: l) = (b.toNat, 1) := by
    rw [Lib.decodeL_N]
    unfold Lib.decodeN
    rw [if_pos (by simpa using hb)]
    rfl
   rw [e]
   show List.any (b :: l) _ = _
   rw [List.any_cons, List.drop_succ_cons, List.drop_zero]
   have e1 : (b == 43) = (b.toNat == 43) := by
    rw [Bool.eq_iff_iff, beq_iff_eq, beq_iff_eq, ← UInt8.toNat_inj]; rfl
   have e2 : (b == 35) = (b.toNat == 35) := by
    rw [Bool.eq_iff_iff, beq_iff_eq, beq_iff_eq, ← UInt8.toNat_inj]; rfl
   rw [e1, e2]
   rfl
theorem phL_vPH (s : ByteArray) : phL s.data.toList = vPH s := any_or _ _ _
theorem byte_ph (r : Nat) (h : r < 128) : decide (0 ≤ Lib.indexByte phB.data.toList r.toUInt8) = (r == 43 || r == 35) := by
 have : ∀ q : Fin 128, decide (0 ≤ Lib.indexByte phB.data.toList (q.val).toUInt8) = (q.val == 43 || q.val == 35) := by decide
 exact this ⟨r, h⟩
set_option maxHeartbeats 8000000 in
set_option maxRecDepth 1000000 in
theorem short_ph (L : Lays.n153 P ρ) (s : ByteArray) (w : World) (h8 : s.size ≤ 8) :
  Calls P (ρ.f 153) #[.string s, .string phB] w fun e w' => (∃ z : Int, e = .returned (.int .i64 z) ∧ decide (0 ≤ z) = phL s.data.toList) ∧ Below w.heap.size w w' := by
 have cA : ∀ (r : Nat) w, r < 128 → ∃ z : Int, decide (0 ≤ z) = (r == 43 || r == 35) ∧ Calls P (ρ.f 152) #[.string phB, .int .i32 r] w fun e w' => e = .returned (.int .i64 z) ∧ w' = w := fun r w h => ⟨_, byte_ph r h, Any.strings_IndexRune_ascii { L with } phB r w (by omega) (by omega)⟩
 have cR : ∀ (r : Nat) w, 128 ≤ r → r < 55296 ∨ (57343 < r ∧ r ≤ 1114111) → Calls P (ρ.f 152) #[.string phB, .int .i32 r] w _ := fun r w h h' => rune_ph { L with } r w h h'
 have hemp : phB.toList.isEmpty = false := by rw [Lib.toList_data]; rfl
 have hn1 : ((phB.size : Int) == 1) = false := rfl
 have h8z : decide ((8 : Int) < (s.size : Int)) = false := decide_eq_false (by omega)
 have t3 := L.t3; have a3 := L.a3; have z3 := L.z3; have v3 := L.v3
 have t4 := L.t4; have a4 := L.a4; have z4 := L.z4; have v4 := L.v4
 have t5 := L.t5; have a5 := L.a5; have z5 := L.z5; have v5 := L.v5
 have t9 := L.t9; have a9 := L.a9; have z9 := L.z9; have v9 := L.v9
 have t21 := L.t21; have a21 := L.a21; have z21 := L.z21; have v21 := L.v21
 have e152 : ∀ args w, (callFunc (ρ.f 152) args).run P w = .ok (.enter (ρ.f 152) args) w := enters_of L.f152 (by kernel_rfl) rfl
 have e226 : ∀ args w, (callFunc (ρ.f 226) args).run P w = .ok (.enter (ρ.f 226) args) w := enters_of L.f226 (by kernel_rfl) rfl
 go_enter L.f153, Body.n153_ntmps ρ
 go_wp2_with (go_at_fn (ρ.f 226); refine (Any.strings_shouldUseASCIISet { L with } _ _).mono ?_; rintro e w' ⟨rfl, hw⟩; rw [hw, h8z])
 go_loopg [9, 10] s.size (fun g _ _ wx => ∃ pos : Nat, s.size ≤ pos + g ∧ ItAt w wx s pos ∧ phL (s.data.toList.drop pos) = phL s.data.toList)
 case atStart => exact ⟨0, by omega, itAt_start w s 0, by simp⟩
 case round =>
  obtain ⟨pos, hpg, hit, hph⟩ := hrel
  have HIT : Aside (ItAt w wr s pos) := hit
  have HPH : Aside (phL (s.data.toList.drop pos) = phL s.data.toList) := hph
  by_cases hp : pos < s.size
  ·obtain ⟨g, rfl⟩ : ∃ g, gk = g + 1 := ⟨gk - 1, by omega⟩
   have hnx := fun ty => next_at (P := P) hit hp ty
   have hne : s.data.toList.drop pos ≠ [] := by
    intro h
    have := congrArg List.length h
    simp at this
    omega
   have hst := phL_step _ hne
   rw [Lib.decodeL_drop, hph, List.drop_drop] at hst
   have hwd : 1 ≤ (Utf8.decode s pos).2 := by rw [← Lib.decodeL_drop s pos]; exact Lib.decodeL_width _
   have hru := rune_at s pos
   have HIT2 : Aside (ItAt w (setIt wr w.heap.size s (pos + (Utf8.decode s pos).2)) s (pos + (Utf8.decode s pos).2)) := hit.set _
   clear hit hph
   generalize hr : (Utf8.decode s pos).1 = r at hnx hst hru
   have HST : Aside (phL s.data.toList = ((r == 43 || r == 35) || phL (s.data.toList.drop (pos + (Utf8.decode s pos).2)))) := hst
   clear hst
   by_cases h128 : r < 128
   ·obtain ⟨z, hz, cz⟩ := cA r (setIt wr w.heap.size s (pos + (Utf8.decode s pos).2)) h128
    clear cA
    cases hin : (r == 43 || r == 35)
    ·rw [hin] at hz
     have hlt : ¬ ((0 : Int) ≤ z) := of_decide_eq_false hz
     clear hz
     go_wp2_with (go_at_fn (ρ.f 152); refine cz.mono ?_; rintro e w' ⟨rfl, hw⟩; rw [hw])
     go_roundg g
     case measure => omega
     case rel => exact ⟨_, by omega, HIT2.out, by rw [HST.out, hin, Bool.false_or]⟩
    ·rw [hin] at hz
     have hge : (0 : Int) ≤ z := of_decide_eq_true hz
     clear hz
     go_wp2_with (go_at_fn (ρ.f 152); refine cz.mono ?_; rintro e w' ⟨rfl, hw⟩; rw [hw])
     go_ret
     exact ⟨⟨_, rfl, by rw [HST.out, hin, Bool.true_or]; simp⟩, HIT2.out.1⟩
   ·have hin : (r == 43 || r == 35) = false := by simp; omega
    go_wp2_with (go_at_fn (ρ.f 152); refine (cR r _ (by omega) hru).mono ?_; rintro e w' ⟨rfl, hw⟩)
    go_roundg g
    case measure => omega
    case rel => exact ⟨_, by omega, HIT2.out.below hw, by rw [HST.out, hin, Bool.false_or]⟩
  ·have hnx := fun ty => next_end (P := P) hit hp ty
   have hnil : s.data.toList.drop pos = [] := by
    apply List.drop_of_length_le
    simp
    omega
   rw [hnil] at hph
   go_wp2
   go_ret
   exact ⟨⟨_, rfl, by rw [← hph]; rfl⟩, HIT.out.1⟩
theorem index_ph (L : Lays.n153 P ρ) (hv116 : ∀ w, (zeroValue (ρ.t 116)).run P w = .ok (.agg (Array.replicate 256 (.bool false))) w) (hi116 : (P.info? (ρ.t 116)).map (·.size) = some 256) (s : ByteArray) (w : World) (hs : s.size < 4294967281) :
  Calls P (ρ.f 153) #[.string s, .string phB] w fun e w' => (∃ z : Int, e = .returned (.int .i64 z) ∧ decide (0 ≤ z) = phL s.data.toList) ∧ Below w.heap.size w w' := by
 by_cases h8 : s.size ≤ 8
 ·exact short_ph L s w h8
 ·refine (Any.strings_IndexAny_long L hv116 hi116 s phB w (by decide) (by omega) hs (by decide) ?_).mono fun e w' ⟨h1, h2⟩ => ⟨⟨_, h1, ?_⟩, ?_⟩
  ·intro j b hb
   have : phB.data.toList = [43, 35] := rfl
   rw [this] at hb
   match j, hb with
   | 0, hb => cases hb; decide
   | 1, hb => cases hb; decide
  ·have := has_ph s
   rw [phL_vPH, ← this]
   rfl
  ·rw [h2]
   exact ((Below.refl _ _).alloc (Nat.le_refl _) _).alloc (by simp) _
set_option maxHeartbeats 1000000 in
theorem contains_ph (L : Lays.n150 P ρ) (hv116 : ∀ w, (zeroValue (ρ.t 116)).run P w = .ok (.agg (Array.replicate 256 (.bool false))) w) (hi116 : (P.info? (ρ.t 116)).map (·.size) = some 256) (s : ByteArray) (w : World) (hs : s.size < 4294967281) :
  Calls P (ρ.f 150) #[.string s, .string phB] w fun e w' => e = .returned (.bool (vPH s)) ∧ Below w.heap.size w w' := by
 have c := index_ph { L with } hv116 hi116 s w hs
 have t3 := L.t3; have a3 := L.a3; have z3 := L.z3; have v3 := L.v3
 have t4 := L.t4; have a4 := L.a4; have z4 := L.z4; have v4 := L.v4
 have t9 := L.t9; have a9 := L.a9; have z9 := L.z9; have v9 := L.v9
 have e153 : ∀ args w, (callFunc (ρ.f 153) args).run P w = .ok (.enter (ρ.f 153) args) w := enters_of L.f153 (by kernel_rfl) rfl
 go_enter L.f150, Body.n150_ntmps ρ
 go_wp2_with (go_at_fn (ρ.f 153); refine c.mono ?_; rintro e w' ⟨⟨z, rfl, hz⟩, hw⟩)
 go_ret
 refine ⟨?_, hw⟩
 rw [← phL_vPH, ← hz]
 rfl
end Go.Proofs.YtdameggfgnpehaaGreatDoor.Abs
set_option linter.unusedVariables false
set_option linter.unusedSimpArgs false
namespace Go.Proofs
open Go.RowKit Go.Shelf Go.Lib
def Tryz.laysValid_ren : Go.Shelf.Ren := ⟨fun | 196 => 168 | 259 => 187 | n => n, fun | 9 => 9 | 4 => 4 | 3 => 3 | 5 => 5 | 12 => 12 | 119 => 186 | 0 => 0 | 46 => 183 | 139 => 189 | 138 => 188 | 53 => 194 | n => n, fun | 3 => 0 | 4 => 1 | n => n⟩
theorem Tryz.laysValid : Go.Proofs.Lays.n196 Tryz.prog Tryz.laysValid_ren := {
 mixed := by kernel_rfl
 f196 := Tryz.func168.trans (congrArg some (by kernel_rfl))
 f259 := Tryz.func187.trans (congrArg some (by kernel_rfl))
 t0 := Tryz.underlying0
 a0 := Tryz.isAgg0
 z0 := Tryz.sizeOf0
 v0 := Tryz.zeroValue0
 t3 := Tryz.underlying3
 a3 := Tryz.isAgg3
 z3 := Tryz.sizeOf3
 v3 := Tryz.zeroValue3
 t4 := Tryz.underlying4
 a4 := Tryz.isAgg4
 z4 := Tryz.sizeOf4
 v4 := Tryz.zeroValue4
 t5 := Tryz.underlying5
 a5 := Tryz.isAgg5
 z5 := Tryz.sizeOf5
 v5 := Tryz.zeroValue5
 t9 := Tryz.underlying9
 a9 := Tryz.isAgg9
 z9 := Tryz.sizeOf9
 v9 := Tryz.zeroValue9
 t12 := Tryz.underlying12
 a12 := Tryz.isAgg12
 z12 := Tryz.sizeOf12
 v12 := Tryz.zeroValue12
 t46 := Tryz.underlying183
 a46 := Tryz.isAgg183
 z46 := Tryz.sizeOf183
 v46 := Tryz.zeroValue183
 t53 := Tryz.underlying194
 a53 := Tryz.isAgg194
 z53 := Tryz.sizeOf194
 v53 := Tryz.zeroValue194
 t119 := Tryz.underlying186
 a119 := Tryz.isAgg186
 z119 := Tryz.sizeOf186
 t138 := Tryz.underlying188
 a138 := Tryz.isAgg188
 z138 := Tryz.sizeOf188
 v138 := Tryz.zeroValue188
 t139 := Tryz.underlying189
 a139 := Tryz.isAgg189
 z139 := Tryz.sizeOf189
 v139 := Tryz.zeroValue189
 g3 := by kernel_rfl
 g4 := by kernel_rfl }
def Tryz.laysAny_ren : Go.Shelf.Ren := ⟨fun | 150 => 188 | 153 => 201 | 152 => 204 | 226 => 205 | 227 => 206 | 228 => 207 | 137 => 209 | 119 => 210 | 224 => 211 | 225 => 212 | 217 => 216 | 266 => 221 | n => n, fun | 9 => 9 | 4 => 4 | 3 => 3 | 5 => 5 | 21 => 21 | 117 => 201 | 116 => 200 | 0 => 0 | 46 => 183 | 124 => 208 | n => n, fun | n => n⟩
theorem Tryz.laysAny : Go.Proofs.Lays.n150 Tryz.prog Tryz.laysAny_ren := {
 mixed := by kernel_rfl
 f119 := Tryz.func210.trans (congrArg some (by kernel_rfl))
 f137 := Tryz.func209.trans (congrArg some (by kernel_rfl))
 f150 := Tryz.func188.trans (congrArg some (by kernel_rfl))
 f152 := Tryz.func204.trans (congrArg some (by kernel_rfl))
 f153 := Tryz.func201.trans (congrArg some (by kernel_rfl))
 f217 := Tryz.func216.trans (congrArg some (by kernel_rfl))
 f224 := Tryz.func211.trans (congrArg some (by kernel_rfl))
 f225 := Tryz.func212.trans (congrArg some (by kernel_rfl))
 f226 := Tryz.func205.trans (congrArg some (by kernel_rfl))
 f227 := Tryz.func206.trans (congrArg some (by kernel_rfl))
 f228 := Tryz.func207.trans (congrArg some (by kernel_rfl))
 f266 := Tryz.func221.trans (congrArg some (by kernel_rfl))
 t0 := Tryz.underlying0
 a0 := Tryz.isAgg0
 z0 := Tryz.sizeOf0
 v0 := Tryz.zeroValue0
 t3 := Tryz.underlying3
 a3 := Tryz.isAgg3
 z3 := Tryz.sizeOf3
 v3 := Tryz.zeroValue3
 t4 := Tryz.underlying4
 a4 := Tryz.isAgg4
 z4 := Tryz.sizeOf4
 v4 := Tryz.zeroValue4
 t5 := Tryz.underlying5
 a5 := Tryz.isAgg5
 z5 := Tryz.sizeOf5
 v5 := Tryz.zeroValue5
 t9 := Tryz.underlying9
 a9 := Tryz.isAgg9
 z9 := Tryz.sizeOf9
 v9 := Tryz.zeroValue9
 t21 := Tryz.underlying21
 a21 := Tryz.isAgg21
 z21 := Tryz.sizeOf21
 v21 := Tryz.zeroValue21
 t46 := Tryz.underlying183
 a46 := Tryz.isAgg183
 z46 := Tryz.sizeOf183
 v46 := Tryz.zeroValue183
 t116 := Tryz.underlying200
 a116 := Tryz.isAgg200
 z116 := Tryz.sizeOf200
 t117 := Tryz.underlying201
 a117 := Tryz.isAgg201
 z117 := Tryz.sizeOf201
 v117 := Tryz.zeroValue201
 t124 := Tryz.underlying208
 a124 := Tryz.isAgg208
 z124 := Tryz.sizeOf208
 v124 := Tryz.zeroValue208 }
def Tryz.laysSplit_ren : Go.Shelf.Ren := ⟨fun | 146 => 202 | 221 => 208 | 268 => 213 | 138 => 214 | 143 => 215 | 195 => 217 | 197 => 218 | 218 => 219 | 219 => 220 | 260 => 222 | 217 => 216 | 225 => 212 | 224 => 211 | 267 => 223 | 266 => 221 | 314 => 224 | n => n, fun | 9 => 9 | 31 => 73 | 3 => 3 | 4 => 4 | 0 => 0 | 105 => 210 | 21 => 21 | 5 => 5 | 46 => 183 | 119 => 186 | 139 => 189 | 138 => 188 | 146 => 213 | 51 => 212 | n => n, fun | 1 => 2 | 3 => 0 | 4 => 1 | n => n⟩
theorem Tryz.laysSplit : Go.Proofs.Lays.n146 Tryz.prog Tryz.laysSplit_ren := {
 mixed := by kernel_rfl
 f138 := Tryz.func214.trans (congrArg some (by kernel_rfl))
 f143 := Tryz.func215.trans (congrArg some (by kernel_rfl))
 f146 := Tryz.func202.trans (congrArg some (by kernel_rfl))
 f195 := Tryz.func217.trans (congrArg some (by kernel_rfl))
 f197 := Tryz.func218.trans (congrArg some (by kernel_rfl))
 f217 := Tryz.func216.trans (congrArg some (by kernel_rfl))
 f218 := Tryz.func219.trans (congrArg some (by kernel_rfl))
 f219 := Tryz.func220.trans (congrArg some (by kernel_rfl))
 f221 := Tryz.func208.trans (congrArg some (by kernel_rfl))
 f224 := Tryz.func211.trans (congrArg some (by kernel_rfl))
 f225 := Tryz.func212.trans (congrArg some (by kernel_rfl))
 f260 := Tryz.func222.trans (congrArg some (by kernel_rfl))
 f266 := Tryz.func221.trans (congrArg some (by kernel_rfl))
 f267 := Tryz.func223.trans (congrArg some (by kernel_rfl))
 f268 := Tryz.func213.trans (congrArg some (by kernel_rfl))
 f314 := Tryz.func224.trans (congrArg some (by kernel_rfl))
 t0 := Tryz.underlying0
 a0 := Tryz.isAgg0
 z0 := Tryz.sizeOf0
 v0 := Tryz.zeroValue0
 t3 := Tryz.underlying3
 a3 := Tryz.isAgg3
 z3 := Tryz.sizeOf3
 v3 := Tryz.zeroValue3
 t4 := Tryz.underlying4
 a4 := Tryz.isAgg4
 z4 := Tryz.sizeOf4
 v4 := Tryz.zeroValue4
 t5 := Tryz.underlying5
 a5 := Tryz.isAgg5
 z5 := Tryz.sizeOf5
 v5 := Tryz.zeroValue5
 t9 := Tryz.underlying9
 a9 := Tryz.isAgg9
 z9 := Tryz.sizeOf9
 v9 := Tryz.zeroValue9
 t21 := Tryz.underlying21
 a21 := Tryz.isAgg21
 z21 := Tryz.sizeOf21
 v21 := Tryz.zeroValue21
 t31 := Tryz.underlying73
 a31 := Tryz.isAgg73
 z31 := Tryz.sizeOf73
 v31 := Tryz.zeroValue73
 t46 := Tryz.underlying183
 a46 := Tryz.isAgg183
 z46 := Tryz.sizeOf183
 v46 := Tryz.zeroValue183
 t51 := Tryz.underlying212
 a51 := Tryz.isAgg212
 z51 := Tryz.sizeOf212
 v51 := Tryz.zeroValue212
 t105 := Tryz.underlying210
 a105 := Tryz.isAgg210
 z105 := Tryz.sizeOf210
 v105 := Tryz.zeroValue210
 t119 := Tryz.underlying186
 a119 := Tryz.isAgg186
 z119 := Tryz.sizeOf186
 t138 := Tryz.underlying188
 a138 := Tryz.isAgg188
 z138 := Tryz.sizeOf188
 v138 := Tryz.zeroValue188
 t139 := Tryz.underlying189
 a139 := Tryz.isAgg189
 z139 := Tryz.sizeOf189
 v139 := Tryz.zeroValue189
 t146 := Tryz.underlying213
 a146 := Tryz.isAgg213
 z146 := Tryz.sizeOf213
 v146 := Tryz.zeroValue213
 g1 := by kernel_rfl
 g3 := by kernel_rfl
 g4 := by kernel_rfl }
namespace YtdameggfgnpehaaGreatDoor.Abs
def noZ : Nat → List UInt8 → Bool
 | 0, _ => true
 | n + 1, l => if l = [] then true else if (Lib.decodeL l).1 = 0 then false else noZ n (l.drop (Lib.decodeL l).2)
def cleanT (s : ByteArray) : Bool := noZ s.size s.data.toList && (Lib.validD s.data.toList && decide (s.size ≤ 60))
def JT (w : World) : Prop := Lib.Utf8Tabs (Tryz.laysValid_ren.g 3) (Tryz.laysValid_ren.g 4) w
def J0 (w : World) : Prop := JT w ∧ ∃ m, w.cell? ⟨Tryz.laysSplit_ren.g 1, 0, none⟩ = some (.int .i64 m)
theorem jt_stays : ∀ w w' : World, JT w → Below w.heap.size w w' → JT w' := fun _ _ h hb => Utf8Tabs_below h hb
theorem j0_stays : ∀ w w' : World, J0 w → Below w.heap.size w w' → J0 w' := fun w w' h hb => ⟨jt_stays w w' h.1 hb, by
 obtain ⟨m, hm⟩ := h.2
 have hlt := World.block_lt_of_cell? _ _ hm
 refine ⟨m, ?_⟩
 rw [← hm]
 simp only [World.cell?]
 rw [hb.block _ hlt]⟩
set_option maxHeartbeats 1000000 in
set_option maxRecDepth 1000000 in
theorem text_walk (s : ByteArray) (w : World) (hs : s.size ≤ 9223372036854775807) (hT : JT w) :
  Calls Tryz.prog 136 #[.string s] w fun e w' => e = .returned (.bool (cleanT s)) ∧ Below w.heap.size w w' := by
 have cV : ∀ w, JT w → Calls Tryz.prog 168 #[.string s] w _ := fun w hT => Any.utf8_ValidString Tryz.laysValid s w hs hT
 unfold cleanT
 generalize hV : Lib.validD s.data.toList = V at cV ⊢
 have bel : ∀ pos, Below w.heap.size w (w.iter s pos) := fun pos => (Below.refl _ w).alloc (Nat.le_refl _) _
 go_enter Tryz.func136, Tryz.ntmps136
 go_wp2
 go_loopw [] (fun w' => ∃ (pos b : Nat), w' = w.iter s pos ∧ noZ b (s.data.toList.drop pos) = noZ s.size s.data.toList ∧ s.size ≤ pos + b) (fun w' => s.size - w'.iterPos w.heap.size)
 case atStart => exact ⟨0, s.size, rfl, by simp, by omega⟩
 case round =>
  obtain ⟨pos, b, rfl, hc, hb⟩ := hrel
  by_cases hp : pos < s.size
  ·have hnx : ∀ ty, (Instr.next (.pointer (some ⟨w.heap.size, 0, none⟩)) true ty).run Tryz.prog (w.iter s pos) = _ := fun ty => run_next_any w s pos ty hp
   have hdd := Lib.decodeL_drop s pos
   have hwd : 1 ≤ (Utf8.decode s pos).2 := by rw [← hdd]; exact Lib.decodeL_width _
   obtain ⟨b, rfl⟩ : ∃ b', b = b' + 1 := ⟨b - 1, by omega⟩
   have hne : s.data.toList.drop pos ≠ [] := by
    intro h
    have := congrArg List.length h
    simp at this
    omega
   rw [noZ, if_neg hne, hdd] at hc
   by_cases hz : (Utf8.decode s pos).1 = 0
   ·rw [if_pos hz] at hc
    have hz' : (((Utf8.decode s pos).1 : Int) == 0) = true := by simp [hz]
    go_wp2
    go_ret
    rw [← hc]
    exact ⟨by simp, bel _⟩
   ·rw [if_neg hz, List.drop_drop] at hc
    have hz' : (((Utf8.decode s pos).1 : Int) == 0) = false := by simp; omega
    go_wp2
    go_roundw
    case rel => exact ⟨pos + (Utf8.decode s pos).2, b, rfl, hc, by omega⟩
    case measure =>
     simp
     omega
  ·have hnx : ∀ ty, (Instr.next (.pointer (some ⟨w.heap.size, 0, none⟩)) true ty).run Tryz.prog (w.iter s pos) = _ := fun ty => run_next_end w s pos ty hp
   have hnil : s.data.toList.drop pos = [] := by
    apply List.drop_of_length_le
    simp
    omega
   have hc2 : noZ s.size s.data.toList = true := by
    rw [← hc, hnil]
    cases b <;> simp [noZ]
   rw [hc2]
   have cV2 := cV (w.iter s pos) (Utf8Tabs_below hT (bel pos))
   go_wp2_with (go_at_call 168; refine cV2.mono ?_; rintro e w' ⟨rfl, hb2⟩)
   all_goals
    go_ret
    refine ⟨?_, (bel pos).trans (hb2.mono (bel pos).size)⟩
   ·simp_all
    omega
   ·simp_all
theorem textGo_eq : ∀ (n : Nat) (l : List UInt8), textGo n l = (noZ n l && Lib.validGoD n l)
 | 0, _ => rfl
 | n + 1, l => by
  rw [textGo, noZ, Lib.validGoD, textGo_eq n]
  by_cases h : l = []
  ·simp [h]
  ·by_cases h1 : (Lib.decodeL l).1 = 65533 ∧ (Lib.decodeL l).2 = 1
   ·simp [h, h1]
   ·by_cases h2 : (Lib.decodeL l).1 = 0
    ·simp [h, h2]
    ·simp [h, h1, h2]
theorem clean_eq (s : ByteArray) : cleanT s = vTextOk s := by
 have e : s.data.toList.length = s.size := by simp
 unfold cleanT vTextOk Lib.validD
 rw [textGo_eq, e]
 cases noZ s.size s.data.toList <;> cases Lib.validGoD s.size s.data.toList <;> simp
theorem ph_of {c : ByteArray} (h : c.data.toList = [43, 35]) : c = phB := by
 cases c with
 | mk d =>
  have : d = #[43, 35] := by apply Array.ext'; simpa using h
  subst this
  rfl
theorem sep_of {c : ByteArray} (h : c.data.toList = [47]) : c = sepB := by
 cases c with
 | mk d =>
  have : d = #[47] := by apply Array.ext'; simpa using h
  subst this
  rfl
theorem set116 : (Tryz.prog.info? (Tryz.laysAny_ren.t 116)).map (fun i => (i.zero, i.size)) = some (some (.agg (Array.replicate 256 (.bool false))), 256) := by kernel_rfl
theorem hi9 : (Tryz.prog.info? (Tryz.laysSplit_ren.t 9)).map (fun i => (i.zero, i.size, i.bytes)) = some (some (.string ByteArray.empty), 1, 16) := by kernel_rfl
theorem hr_same {w w' : World} (hb : Below w.heap.size w w') : HR w noPhi w' [] := by
 refine ⟨hb, ?_, ?_, ?_, ?_⟩
 ·intro i k b o sz hi
  cases hi
 ·intro i k hi
  cases hi
 ·intro i i' k k' b o sz o' sz' hi
  cases hi
 ·intro i p hp
  cases hp
theorem ext_val {w w' : World} (hb : Below w.heap.size w w') (ty : Nat) (v : Value) : ∃ φ' Hc x ids, HR w φ' w' Hc ∧ VR w φ' x v ∧ ownT E0.ti E0.tp Hc 8 ty x = some (.sc v, ids) ∧ ids.Nodup :=
 ⟨noPhi, [], .sc v, [], hr_same hb, VR_sc _ _ _, rfl, List.nodup_nil⟩
theorem ownL_scE {ti : Nat → Option TI} {tp : Nat → Option (List Nat)} {H : Heap} {d : Nat} : ∀ (ts : List Nat) (l : List Value), ts.length = l.length → ownL (ownT ti tp H (d + 1)) ts (l.map AV.sc) = some (l.map AV.sc, [])
 | [], [], _ => rfl
 | t :: ts, v :: l, h => by
  have ih := ownL_scE (ti := ti) (tp := tp) (H := H) (d := d) ts l (by simpa using h)
  simp only [List.map_cons, ownL, ih, Option.bind_some]
  rfl
theorem own_sl0 {ti : Nat → Option TI} {tp : Nat → Option (List Nat)} {H : Heap} {d ty id off n z : Nat} : ownT ti tp H (d + 1) ty (.sl id off n z) = (ti ty).bind fun i => (ti i.elem).bind fun j => if z = j.size then (if isApp H id then (rdCells H id off (n * z)).bind fun cs => (ownL (ownT ti tp H d) (List.replicate n j.cty).flatten cs).bind fun q => some (.ro n q.1, id :: q.2) else none) else none := rfl
theorem ext_strs (w : World) (l : List ByteArray) (e : TypeId) : ∃ φ' Hc x ids, HR w φ' (w.alloc (.cells (l.map Value.string).toArray e)) Hc ∧ VR w φ' x (.slice (some ⟨w.heap.size, 0, none⟩) l.length l.length) ∧
  ownT E0.ti E0.tp Hc 8 73 x = some (.ro l.length (l.map fun s => .sc (.string s)), ids) ∧ ids.Nodup := by
 have hcs : VRs w noPhi ((l.map Value.string).map AV.sc) (fun j => (l.map Value.string).toArray[0 + j]?) := by
  rw [VRs_iff]
  intro j x hj
  rw [List.getElem?_map] at hj
  obtain ⟨v, hv, rfl⟩ := Option.map_eq_some_iff.1 hj
  exact ⟨v, by simpa using hv, VR_sc _ _ _⟩
 obtain ⟨h1, h2⟩ := (HR.start w).alloc (below_alloc' w (.cells (l.map Value.string).toArray e)) (b := w.heap.size) (o := 0) (k := ⟨(l.map Value.string).map AV.sc, true, true⟩) (Nat.le_refl _) (alloc_new w _) (by simp) (fun _ => rfl) (.inl rfl) hcs
 refine ⟨_, _, .sl 0 0 l.length 1, [0], h1, ?_, ?_, by simp⟩
 ·rw [VR]
  refine .inr ⟨w.heap.size, 0, _, upd_at _ _ _, .inr ⟨l.length, Nat.le_refl _, rfl, ?_⟩⟩
  simp
 ·rw [own_sl0]
  have hr : rdCells ([] ++ [⟨(l.map Value.string).map AV.sc, true, true⟩]) 0 0 (l.length * 1) = some ((l.map Value.string).map AV.sc) := by
   simp [rdCells, List.take_of_length_le]
  have e1 : E0.ti 73 = ti0 73 := rfl
  obtain ⟨i, j, hi, hj, hz, hc⟩ : ∃ i j, ti0 73 = some i ∧ ti0 i.elem = some j ∧ j.size = 1 ∧ j.cty = [i.elem] := ⟨_, _, rfl, rfl, rfl, rfl⟩
  simp only [e1, hi, Option.bind_some, show E0.ti i.elem = some j from hj, hz, if_true, hr, hc]
  have ho := ownL_scE (ti := E0.ti) (tp := E0.tp) (H := [] ++ [⟨(l.map Value.string).map AV.sc, true, true⟩]) (d := 6) (List.replicate l.length [i.elem]).flatten (l.map Value.string) (by simp)
  rw [ho]
  have ha : isApp ([] ++ [(⟨(l.map Value.string).map AV.sc, true, true⟩ : Blk)]) 0 = true := rfl
  rw [if_pos ha]
  simp [List.map_map]
theorem any_walk (s : ByteArray) (w : World) (hs : s.size < 4294967281) : Calls Tryz.prog 188 #[.string s, .string phB] w fun e w' => e = .returned (.bool (vPH s)) ∧ Below w.heap.size w w' :=
 contains_ph Tryz.laysAny (zero_of_info set116).1 (zero_of_info set116).2 s w hs
theorem split_walk (s : ByteArray) (w : World) (hs : s.size < 4294967281) (hm : ∃ m, w.cell? ⟨Tryz.laysSplit_ren.g 1, 0, none⟩ = some (.int .i64 m)) : Calls Tryz.prog 202 #[.string s, .string sepB] w fun e w' =>
  e = .returned (.slice (some ⟨w.heap.size, 0, none⟩) (vLevels s).length (vLevels s).length) ∧ w' = w.alloc (.cells ((vLevels s).map Value.string).toArray (Tryz.laysSplit_ren.t 9)) := by
 obtain ⟨m, hm⟩ := hm
 have h := Any.strings_Split Tryz.laysSplit hi9 s sepB m w hs hm (Nat.le_refl _)
 rw [split_levels, ← levels_len] at h
 exact h
theorem one_arg {w : World} {x : Value} {us : List Value} (hl : us.length = 1) (hv : VRs w noPhi [.sc x] (fun j => us[j]?)) : us = [x] := by
 match us, hl with
 | [y], _ =>
  rw [VRs] at hv
  obtain ⟨⟨u, hu, hv⟩, _⟩ := hv
  rw [VR] at hv
  simp at hu
  rw [hu, hv]
theorem two_args {w : World} {x y : Value} {us : List Value} (hl : us.length = 2) (hv : VRs w noPhi [.sc x, .sc y] (fun j => us[j]?)) : us = [x, y] := by
 match us, hl with
 | [a, b], _ =>
  rw [VRs, VRs] at hv
  obtain ⟨⟨u, hu, hv⟩, ⟨u2, hu2, hv2⟩, _⟩ := hv
  rw [VR] at hv hv2
  simp at hu hu2
  rw [hu, hv, hu2, hv2]
theorem ext0 : ExtOk Tryz.prog E0 J0 := by
 intro f g hg w hj ty vs us t hl hv ht
 have hf : E0.ext f = if Nat.beq f 136 then some ext136 else if Nat.beq f 188 then some ext188 else if Nat.beq f 202 then some ext202 else none := rfl
 rw [hf] at hg
 split at hg
 ·rename_i hfe
  obtain rfl := Nat.eq_of_beq_eq_true hfe
  cases hg
  unfold ext136 at ht
  split at ht
  case h_2 => cases ht
  rename_i s
  split at ht
  case isFalse => cases ht
  rename_i hs
  cases ht
  have hm : maxLen = 9223372036854775807 := by decide
  rw [hm] at hs
  obtain rfl := one_arg hl hv
  refine .inr ⟨enters_of Tryz.func136 (by kernel_rfl) rfl _ _, (text_walk s w hs hj.1).mono fun e w' ⟨he, hb⟩ => ⟨_, he, ?_⟩⟩
  rw [clean_eq]
  exact ext_val hb _ _
 split at hg
 ·rename_i hfe
  obtain rfl := Nat.eq_of_beq_eq_true hfe
  cases hg
  unfold ext188 at ht
  split at ht
  case h_2 => cases ht
  rename_i s c
  split at ht
  case isFalse => cases ht
  rename_i hs
  cases ht
  obtain rfl := two_args hl hv
  obtain ⟨hc, hs⟩ := hs
  obtain rfl := ph_of hc
  exact .inr ⟨enters_of Tryz.func188 (by kernel_rfl) rfl _ _, (any_walk s w hs).mono fun e w' ⟨he, hb⟩ => ⟨_, he, ext_val hb _ _⟩⟩
 split at hg
 ·rename_i hfe
  obtain rfl := Nat.eq_of_beq_eq_true hfe
  cases hg
  unfold ext202 at ht
  split at ht
  case h_2 => cases ht
  rename_i s c
  split at ht
  case isFalse => cases ht
  rename_i hs
  cases ht
  obtain rfl := two_args hl hv
  obtain ⟨rfl, hc, hs⟩ := hs
  obtain rfl := sep_of hc
  exact .inr ⟨enters_of Tryz.func202 (by kernel_rfl) rfl _ _, (split_walk s w hs hj.2).mono fun e w' ⟨he, hw⟩ => ⟨_, he, by subst hw; exact ext_strs w (vLevels s) _⟩⟩
 ·cases hg
end YtdameggfgnpehaaGreatDoor.Abs
end Go.Proofs
set_option linter.unusedVariables false
set_option linter.unusedSimpArgs false
set_option maxRecDepth 100000
namespace Go.Proofs.YtdameggfgnpehaaGreatDoor.Abs
open Go
theorem tab0 : tabB Go.Proofs.Tryz.prog 0 tis = true := by kernel_rfl
theorem code0 : fnsB E0 fss = true := by kernel_rfl
theorem tabOk0 : TabOk Go.Proofs.Tryz.prog ti0 := by
 intro t i h
 unfold ti0 at h
 cases hl : tis[t]? with
 | none => rw [hl] at h; cases h
 | some o =>
  rw [hl] at h
  simp only [Option.getD_some] at h
  subst h
  simpa using (tabB_ok tis 0 t i tab0 hl).1
theorem byte0 : ∀ t i, ti0 t = some i → i.ik = some .u8 → i.size = 1 := by
 intro t i h
 unfold ti0 at h
 cases hl : tis[t]? with
 | none => rw [hl] at h; cases h
 | some o =>
  rw [hl] at h
  simp only [Option.getD_some] at h
  subst h
  exact (tabB_ok tis 0 t i tab0 hl).2
def FnQ (n : Nat) (c : Code) (t : Nat) (f : Func) : Prop := ∃ fn, Go.Proofs.Tryz.prog.funcs[n]? = some fn ∧ (fn.name == "runtime.NumGoroutine") = false ∧ fn.body = some c ∧ fn.ntmps = t ∧ fn.results.toList = f.results.toList
theorem fn67 : FnQ 67 c67 12 Go.Proofs.Tryz.f67 := ⟨_, Go.Proofs.Tryz.func67, by kernel_rfl, by kernel_rfl, rfl, rfl⟩
theorem fn20 : FnQ 20 c20 19 Go.Proofs.Tryz.f20 := ⟨_, Go.Proofs.Tryz.func20, by kernel_rfl, by kernel_rfl, rfl, rfl⟩
theorem fn145 : FnQ 145 c145 12 Go.Proofs.Tryz.f145 := ⟨_, Go.Proofs.Tryz.func145, by kernel_rfl, by kernel_rfl, rfl, rfl⟩
theorem fn86 : FnQ 86 c86 27 Go.Proofs.Tryz.f86 := ⟨_, Go.Proofs.Tryz.func86, by kernel_rfl, by kernel_rfl, rfl, rfl⟩
theorem fn87 : FnQ 87 c87 27 Go.Proofs.Tryz.f87 := ⟨_, Go.Proofs.Tryz.func87, by kernel_rfl, by kernel_rfl, rfl, rfl⟩
theorem fn35 : FnQ 35 c35 18 Go.Proofs.Tryz.f35 := ⟨_, Go.Proofs.Tryz.func35, by kernel_rfl, by kernel_rfl, rfl, rfl⟩
theorem fn69 : FnQ 69 c69 22 Go.Proofs.Tryz.f69 := ⟨_, Go.Proofs.Tryz.func69, by kernel_rfl, by kernel_rfl, rfl, rfl⟩
theorem fn22 : FnQ 22 c22 18 Go.Proofs.Tryz.f22 := ⟨_, Go.Proofs.Tryz.func22, by kernel_rfl, by kernel_rfl, rfl, rfl⟩
theorem fn147 : FnQ 147 c147 15 Go.Proofs.Tryz.f147 := ⟨_, Go.Proofs.Tryz.func147, by kernel_rfl, by kernel_rfl, rfl, rfl⟩
theorem fn90 : FnQ 90 c90 23 Go.Proofs.Tryz.f90 := ⟨_, Go.Proofs.Tryz.func90, by kernel_rfl, by kernel_rfl, rfl, rfl⟩
theorem fn91 : FnQ 91 c91 23 Go.Proofs.Tryz.f91 := ⟨_, Go.Proofs.Tryz.func91, by kernel_rfl, by kernel_rfl, rfl, rfl⟩
theorem fn37 : FnQ 37 c37 16 Go.Proofs.Tryz.f37 := ⟨_, Go.Proofs.Tryz.func37, by kernel_rfl, by kernel_rfl, rfl, rfl⟩
theorem fn152 : FnQ 152 c152 14 Go.Proofs.Tryz.f152 := ⟨_, Go.Proofs.Tryz.func152, by kernel_rfl, by kernel_rfl, rfl, rfl⟩
theorem fn151 : FnQ 151 c151 21 Go.Proofs.Tryz.f151 := ⟨_, Go.Proofs.Tryz.func151, by kernel_rfl, by kernel_rfl, rfl, rfl⟩
theorem fn104 : FnQ 104 c104 44 Go.Proofs.Tryz.f104 := ⟨_, Go.Proofs.Tryz.func104, by kernel_rfl, by kernel_rfl, rfl, rfl⟩
theorem fn83 : FnQ 83 c83 15 Go.Proofs.Tryz.f83 := ⟨_, Go.Proofs.Tryz.func83, by kernel_rfl, by kernel_rfl, rfl, rfl⟩
theorem fn172 : FnQ 172 c172 104 Go.Proofs.Tryz.f172 := ⟨_, Go.Proofs.Tryz.func172, by kernel_rfl, by kernel_rfl, rfl, rfl⟩
theorem fn141 : FnQ 141 c141 35 Go.Proofs.Tryz.f141 := ⟨_, Go.Proofs.Tryz.func141, by kernel_rfl, by kernel_rfl, rfl, rfl⟩
theorem fn82 : FnQ 82 c82 6 Go.Proofs.Tryz.f82 := ⟨_, Go.Proofs.Tryz.func82, by kernel_rfl, by kernel_rfl, rfl, rfl⟩
theorem fn190 : FnQ 190 c190 17 Go.Proofs.Tryz.f190 := ⟨_, Go.Proofs.Tryz.func190, by kernel_rfl, by kernel_rfl, rfl, rfl⟩
theorem fn191 : FnQ 191 c191 33 Go.Proofs.Tryz.f191 := ⟨_, Go.Proofs.Tryz.func191, by kernel_rfl, by kernel_rfl, rfl, rfl⟩
theorem fn173 : FnQ 173 c173 25 Go.Proofs.Tryz.f173 := ⟨_, Go.Proofs.Tryz.func173, by kernel_rfl, by kernel_rfl, rfl, rfl⟩
theorem fn142 : FnQ 142 c142 17 Go.Proofs.Tryz.f142 := ⟨_, Go.Proofs.Tryz.func142, by kernel_rfl, by kernel_rfl, rfl, rfl⟩
theorem fn143 : FnQ 143 c143 24 Go.Proofs.Tryz.f143 := ⟨_, Go.Proofs.Tryz.func143, by kernel_rfl, by kernel_rfl, rfl, rfl⟩
theorem fn144 : FnQ 144 c144 19 Go.Proofs.Tryz.f144 := ⟨_, Go.Proofs.Tryz.func144, by kernel_rfl, by kernel_rfl, rfl, rfl⟩
theorem fn84 : FnQ 84 c84 71 Go.Proofs.Tryz.f84 := ⟨_, Go.Proofs.Tryz.func84, by kernel_rfl, by kernel_rfl, rfl, rfl⟩
theorem fn105 : FnQ 105 c105 25 Go.Proofs.Tryz.f105 := ⟨_, Go.Proofs.Tryz.func105, by kernel_rfl, by kernel_rfl, rfl, rfl⟩
theorem fn106 : FnQ 106 c106 17 Go.Proofs.Tryz.f106 := ⟨_, Go.Proofs.Tryz.func106, by kernel_rfl, by kernel_rfl, rfl, rfl⟩
theorem fn89 : FnQ 89 c89 20 Go.Proofs.Tryz.f89 := ⟨_, Go.Proofs.Tryz.func89, by kernel_rfl, by kernel_rfl, rfl, rfl⟩
theorem fn153 : FnQ 153 c153 18 Go.Proofs.Tryz.f153 := ⟨_, Go.Proofs.Tryz.func153, by kernel_rfl, by kernel_rfl, rfl, rfl⟩
theorem fn107 : FnQ 107 c107 31 Go.Proofs.Tryz.f107 := ⟨_, Go.Proofs.Tryz.func107, by kernel_rfl, by kernel_rfl, rfl, rfl⟩
theorem fn44 : FnQ 44 c44 75 Go.Proofs.Tryz.f44 := ⟨_, Go.Proofs.Tryz.func44, by kernel_rfl, by kernel_rfl, rfl, rfl⟩
theorem fn149 : FnQ 149 c149 18 Go.Proofs.Tryz.f149 := ⟨_, Go.Proofs.Tryz.func149, by kernel_rfl, by kernel_rfl, rfl, rfl⟩
theorem fn155 : FnQ 155 c155 9 Go.Proofs.Tryz.f155 := ⟨_, Go.Proofs.Tryz.func155, by kernel_rfl, by kernel_rfl, rfl, rfl⟩
theorem fn154 : FnQ 154 c154 20 Go.Proofs.Tryz.f154 := ⟨_, Go.Proofs.Tryz.func154, by kernel_rfl, by kernel_rfl, rfl, rfl⟩
theorem fn108 : FnQ 108 c108 34 Go.Proofs.Tryz.f108 := ⟨_, Go.Proofs.Tryz.func108, by kernel_rfl, by kernel_rfl, rfl, rfl⟩
theorem fn128 : FnQ 128 c128 15 Go.Proofs.Tryz.f128 := ⟨_, Go.Proofs.Tryz.func128, by kernel_rfl, by kernel_rfl, rfl, rfl⟩
theorem fn137 : FnQ 137 c137 5 Go.Proofs.Tryz.f137 := ⟨_, Go.Proofs.Tryz.func137, by kernel_rfl, by kernel_rfl, rfl, rfl⟩
theorem fn158 : FnQ 158 c158 8 Go.Proofs.Tryz.f158 := ⟨_, Go.Proofs.Tryz.func158, by kernel_rfl, by kernel_rfl, rfl, rfl⟩
theorem fn157 : FnQ 157 c157 19 Go.Proofs.Tryz.f157 := ⟨_, Go.Proofs.Tryz.func157, by kernel_rfl, by kernel_rfl, rfl, rfl⟩
theorem fn116 : FnQ 116 c116 8 Go.Proofs.Tryz.f116 := ⟨_, Go.Proofs.Tryz.func116, by kernel_rfl, by kernel_rfl, rfl, rfl⟩
theorem fn189 : FnQ 189 c189 5 Go.Proofs.Tryz.f189 := ⟨_, Go.Proofs.Tryz.func189, by kernel_rfl, by kernel_rfl, rfl, rfl⟩
theorem fn169 : FnQ 169 c169 20 Go.Proofs.Tryz.f169 := ⟨_, Go.Proofs.Tryz.func169, by kernel_rfl, by kernel_rfl, rfl, rfl⟩
theorem fn170 : FnQ 170 c170 5 Go.Proofs.Tryz.f170 := ⟨_, Go.Proofs.Tryz.func170, by kernel_rfl, by kernel_rfl, rfl, rfl⟩
theorem fn138 : FnQ 138 c138 17 Go.Proofs.Tryz.f138 := ⟨_, Go.Proofs.Tryz.func138, by kernel_rfl, by kernel_rfl, rfl, rfl⟩
theorem fn139 : FnQ 139 c139 5 Go.Proofs.Tryz.f139 := ⟨_, Go.Proofs.Tryz.func139, by kernel_rfl, by kernel_rfl, rfl, rfl⟩
theorem fn171 : FnQ 171 c171 15 Go.Proofs.Tryz.f171 := ⟨_, Go.Proofs.Tryz.func171, by kernel_rfl, by kernel_rfl, rfl, rfl⟩
theorem fn140 : FnQ 140 c140 10 Go.Proofs.Tryz.f140 := ⟨_, Go.Proofs.Tryz.func140, by kernel_rfl, by kernel_rfl, rfl, rfl⟩
theorem fn80 : FnQ 80 c80 67 Go.Proofs.Tryz.f80 := ⟨_, Go.Proofs.Tryz.func80, by kernel_rfl, by kernel_rfl, rfl, rfl⟩
theorem fn109 : FnQ 109 c109 25 Go.Proofs.Tryz.f109 := ⟨_, Go.Proofs.Tryz.func109, by kernel_rfl, by kernel_rfl, rfl, rfl⟩
theorem fn110 : FnQ 110 c110 18 Go.Proofs.Tryz.f110 := ⟨_, Go.Proofs.Tryz.func110, by kernel_rfl, by kernel_rfl, rfl, rfl⟩
theorem fn93 : FnQ 93 c93 20 Go.Proofs.Tryz.f93 := ⟨_, Go.Proofs.Tryz.func93, by kernel_rfl, by kernel_rfl, rfl, rfl⟩
theorem fn111 : FnQ 111 c111 40 Go.Proofs.Tryz.f111 := ⟨_, Go.Proofs.Tryz.func111, by kernel_rfl, by kernel_rfl, rfl, rfl⟩
theorem fn45 : FnQ 45 c45 73 Go.Proofs.Tryz.f45 := ⟨_, Go.Proofs.Tryz.func45, by kernel_rfl, by kernel_rfl, rfl, rfl⟩
theorem fn71 : FnQ 71 c71 26 Go.Proofs.Tryz.f71 := ⟨_, Go.Proofs.Tryz.func71, by kernel_rfl, by kernel_rfl, rfl, rfl⟩
theorem fn24 : FnQ 24 c24 26 Go.Proofs.Tryz.f24 := ⟨_, Go.Proofs.Tryz.func24, by kernel_rfl, by kernel_rfl, rfl, rfl⟩
theorem fn150 : FnQ 150 c150 21 Go.Proofs.Tryz.f150 := ⟨_, Go.Proofs.Tryz.func150, by kernel_rfl, by kernel_rfl, rfl, rfl⟩
theorem fn94 : FnQ 94 c94 27 Go.Proofs.Tryz.f94 := ⟨_, Go.Proofs.Tryz.func94, by kernel_rfl, by kernel_rfl, rfl, rfl⟩
theorem fn95 : FnQ 95 c95 27 Go.Proofs.Tryz.f95 := ⟨_, Go.Proofs.Tryz.func95, by kernel_rfl, by kernel_rfl, rfl, rfl⟩
theorem fn40 : FnQ 40 c40 22 Go.Proofs.Tryz.f40 := ⟨_, Go.Proofs.Tryz.func40, by kernel_rfl, by kernel_rfl, rfl, rfl⟩
theorem fn156 : FnQ 156 c156 15 Go.Proofs.Tryz.f156 := ⟨_, Go.Proofs.Tryz.func156, by kernel_rfl, by kernel_rfl, rfl, rfl⟩
theorem fn112 : FnQ 112 c112 27 Go.Proofs.Tryz.f112 := ⟨_, Go.Proofs.Tryz.func112, by kernel_rfl, by kernel_rfl, rfl, rfl⟩
theorem fn113 : FnQ 113 c113 26 Go.Proofs.Tryz.f113 := ⟨_, Go.Proofs.Tryz.func113, by kernel_rfl, by kernel_rfl, rfl, rfl⟩
theorem fn63 : FnQ 63 c63 26 Go.Proofs.Tryz.f63 := ⟨_, Go.Proofs.Tryz.func63, by kernel_rfl, by kernel_rfl, rfl, rfl⟩
theorem fn46 : FnQ 46 c46 136 Go.Proofs.Tryz.f46 := ⟨_, Go.Proofs.Tryz.func46, by kernel_rfl, by kernel_rfl, rfl, rfl⟩
theorem fn98 : FnQ 98 c98 20 Go.Proofs.Tryz.f98 := ⟨_, Go.Proofs.Tryz.func98, by kernel_rfl, by kernel_rfl, rfl, rfl⟩
theorem fn72 : FnQ 72 c72 20 Go.Proofs.Tryz.f72 := ⟨_, Go.Proofs.Tryz.func72, by kernel_rfl, by kernel_rfl, rfl, rfl⟩
theorem fn96 : FnQ 96 c96 62 Go.Proofs.Tryz.f96 := ⟨_, Go.Proofs.Tryz.func96, by kernel_rfl, by kernel_rfl, rfl, rfl⟩
theorem fn97 : FnQ 97 c97 44 Go.Proofs.Tryz.f97 := ⟨_, Go.Proofs.Tryz.func97, by kernel_rfl, by kernel_rfl, rfl, rfl⟩
theorem fn41 : FnQ 41 c41 14 Go.Proofs.Tryz.f41 := ⟨_, Go.Proofs.Tryz.func41, by kernel_rfl, by kernel_rfl, rfl, rfl⟩
theorem fn99 : FnQ 99 c99 28 Go.Proofs.Tryz.f99 := ⟨_, Go.Proofs.Tryz.func99, by kernel_rfl, by kernel_rfl, rfl, rfl⟩
theorem fn100 : FnQ 100 c100 20 Go.Proofs.Tryz.f100 := ⟨_, Go.Proofs.Tryz.func100, by kernel_rfl, by kernel_rfl, rfl, rfl⟩
theorem fn64 : FnQ 64 c64 19 Go.Proofs.Tryz.f64 := ⟨_, Go.Proofs.Tryz.func64, by kernel_rfl, by kernel_rfl, rfl, rfl⟩
theorem fn47 : FnQ 47 c47 30 Go.Proofs.Tryz.f47 := ⟨_, Go.Proofs.Tryz.func47, by kernel_rfl, by kernel_rfl, rfl, rfl⟩
theorem fn101 : FnQ 101 c101 22 Go.Proofs.Tryz.f101 := ⟨_, Go.Proofs.Tryz.func101, by kernel_rfl, by kernel_rfl, rfl, rfl⟩
theorem fn114 : FnQ 114 c114 74 Go.Proofs.Tryz.f114 := ⟨_, Go.Proofs.Tryz.func114, by kernel_rfl, by kernel_rfl, rfl, rfl⟩
theorem fn115 : FnQ 115 c115 52 Go.Proofs.Tryz.f115 := ⟨_, Go.Proofs.Tryz.func115, by kernel_rfl, by kernel_rfl, rfl, rfl⟩
theorem fn48 : FnQ 48 c48 18 Go.Proofs.Tryz.f48 := ⟨_, Go.Proofs.Tryz.func48, by kernel_rfl, by kernel_rfl, rfl, rfl⟩
theorem fn102 : FnQ 102 c102 32 Go.Proofs.Tryz.f102 := ⟨_, Go.Proofs.Tryz.func102, by kernel_rfl, by kernel_rfl, rfl, rfl⟩
theorem fn103 : FnQ 103 c103 22 Go.Proofs.Tryz.f103 := ⟨_, Go.Proofs.Tryz.func103, by kernel_rfl, by kernel_rfl, rfl, rfl⟩
theorem fn65 : FnQ 65 c65 21 Go.Proofs.Tryz.f65 := ⟨_, Go.Proofs.Tryz.func65, by kernel_rfl, by kernel_rfl, rfl, rfl⟩
theorem fn49 : FnQ 49 c49 42 Go.Proofs.Tryz.f49 := ⟨_, Go.Proofs.Tryz.func49, by kernel_rfl, by kernel_rfl, rfl, rfl⟩
theorem fn8 : FnQ 8 c8 133 Go.Proofs.Tryz.f8 := ⟨_, Go.Proofs.Tryz.func8, by kernel_rfl, by kernel_rfl, rfl, rfl⟩
theorem fnC {c : Code} {t : Nat} {f : Func} {o : List (Nat × PI)} {i : FnI} (e : (⟨c, t, f.results.toList, o⟩ : FnI) = i) {n : Nat} (h : FnQ n c t f) : ∃ fn, Go.Proofs.Tryz.prog.funcs[n]? = some fn ∧ (fn.name == "runtime.NumGoroutine") = false ∧ fn.body = some i.body ∧ fn.ntmps = i.ntmps ∧ fn.results.toList = i.results := by subst e; exact h
theorem fnAll : ∀ (f : Nat) (i : FnI), f < 192 → fss[f]? = some (some i) → ∃ fn, Go.Proofs.Tryz.prog.funcs[f]? = some fn ∧ (fn.name == "runtime.NumGoroutine") = false ∧ fn.body = some i.body ∧ fn.ntmps = i.ntmps ∧ fn.results.toList = i.results
 | 0, i, _, h => nomatch Option.some.inj h
 | 1, i, _, h => nomatch Option.some.inj h
 | 2, i, _, h => nomatch Option.some.inj h
 | 3, i, _, h => nomatch Option.some.inj h
 | 4, i, _, h => nomatch Option.some.inj h
 | 5, i, _, h => nomatch Option.some.inj h
 | 6, i, _, h => nomatch Option.some.inj h
 | 7, i, _, h => nomatch Option.some.inj h
 | 8, i, _, h => fnC (Option.some.inj (Option.some.inj h)) fn8
 | 9, i, _, h => nomatch Option.some.inj h
 | 10, i, _, h => nomatch Option.some.inj h
 | 11, i, _, h => nomatch Option.some.inj h
 | 12, i, _, h => nomatch Option.some.inj h
 | 13, i, _, h => nomatch Option.some.inj h
 | 14, i, _, h => nomatch Option.some.inj h
 | 15, i, _, h => nomatch Option.some.inj h
 | 16, i, _, h => nomatch Option.some.inj h
 | 17, i, _, h => nomatch Option.some.inj h
 | 18, i, _, h => nomatch Option.some.inj h
 | 19, i, _, h => nomatch Option.some.inj h
 | 20, i, _, h => fnC (Option.some.inj (Option.some.inj h)) fn20
 | 21, i, _, h => nomatch Option.some.inj h
 | 22, i, _, h => fnC (Option.some.inj (Option.some.inj h)) fn22
 | 23, i, _, h => nomatch Option.some.inj h
 | 24, i, _, h => fnC (Option.some.inj (Option.some.inj h)) fn24
 | 25, i, _, h => nomatch Option.some.inj h
 | 26, i, _, h => nomatch Option.some.inj h
 | 27, i, _, h => nomatch Option.some.inj h
 | 28, i, _, h => nomatch Option.some.inj h
 | 29, i, _, h => nomatch Option.some.inj h
 | 30, i, _, h => nomatch Option.some.inj h
 | 31, i, _, h => nomatch Option.some.inj h
 | 32, i, _, h => nomatch Option.some.inj h
 | 33, i, _, h => nomatch Option.some.inj h
 | 34, i, _, h => nomatch Option.some.inj h
 | 35, i, _, h => fnC (Option.some.inj (Option.some.inj h)) fn35
 | 36, i, _, h => nomatch Option.some.inj h
 | 37, i, _, h => fnC (Option.some.inj (Option.some.inj h)) fn37
 | 38, i, _, h => nomatch Option.some.inj h
 | 39, i, _, h => nomatch Option.some.inj h
 | 40, i, _, h => fnC (Option.some.inj (Option.some.inj h)) fn40
 | 41, i, _, h => fnC (Option.some.inj (Option.some.inj h)) fn41
 | 42, i, _, h => nomatch Option.some.inj h
 | 43, i, _, h => nomatch Option.some.inj h
 | 44, i, _, h => fnC (Option.some.inj (Option.some.inj h)) fn44
 | 45, i, _, h => fnC (Option.some.inj (Option.some.inj h)) fn45
 | 46, i, _, h => fnC (Option.some.inj (Option.some.inj h)) fn46
 | 47, i, _, h => fnC (Option.some.inj (Option.some.inj h)) fn47
 | 48, i, _, h => fnC (Option.some.inj (Option.some.inj h)) fn48
 | 49, i, _, h => fnC (Option.some.inj (Option.some.inj h)) fn49
 | 50, i, _, h => nomatch Option.some.inj h
 | 51, i, _, h => nomatch Option.some.inj h
 | 52, i, _, h => nomatch Option.some.inj h
 | 53, i, _, h => nomatch Option.some.inj h
 | 54, i, _, h => nomatch Option.some.inj h
 | 55, i, _, h => nomatch Option.some.inj h
 | 56, i, _, h => nomatch Option.some.inj h
 | 57, i, _, h => nomatch Option.some.inj h
 | 58, i, _, h => nomatch Option.some.inj h
 | 59, i, _, h => nomatch Option.some.inj h
 | 60, i, _, h => nomatch Option.some.inj h
 | 61, i, _, h => nomatch Option.some.inj h
 | 62, i, _, h => nomatch Option.some.inj h
 | 63, i, _, h => fnC (Option.some.inj (Option.some.inj h)) fn63
 | 64, i, _, h => fnC (Option.some.inj (Option.some.inj h)) fn64
 | 65, i, _, h => fnC (Option.some.inj (Option.some.inj h)) fn65
 | 66, i, _, h => nomatch Option.some.inj h
 | 67, i, _, h => fnC (Option.some.inj (Option.some.inj h)) fn67
 | 68, i, _, h => nomatch Option.some.inj h
 | 69, i, _, h => fnC (Option.some.inj (Option.some.inj h)) fn69
 | 70, i, _, h => nomatch Option.some.inj h
 | 71, i, _, h => fnC (Option.some.inj (Option.some.inj h)) fn71
 | 72, i, _, h => fnC (Option.some.inj (Option.some.inj h)) fn72
 | 73, i, _, h => nomatch Option.some.inj h
 | 74, i, _, h => nomatch Option.some.inj h
 | 75, i, _, h => nomatch Option.some.inj h
 | 76, i, _, h => nomatch Option.some.inj h
 | 77, i, _, h => nomatch Option.some.inj h
 | 78, i, _, h => nomatch Option.some.inj h
 | 79, i, _, h => nomatch Option.some.inj h
 | 80, i, _, h => fnC (Option.some.inj (Option.some.inj h)) fn80
 | 81, i, _, h => nomatch Option.some.inj h
 | 82, i, _, h => fnC (Option.some.inj (Option.some.inj h)) fn82
 | 83, i, _, h => fnC (Option.some.inj (Option.some.inj h)) fn83
 | 84, i, _, h => fnC (Option.some.inj (Option.some.inj h)) fn84
 | 85, i, _, h => nomatch Option.some.inj h
 | 86, i, _, h => fnC (Option.some.inj (Option.some.inj h)) fn86
 | 87, i, _, h => fnC (Option.some.inj (Option.some.inj h)) fn87
 | 88, i, _, h => nomatch Option.some.inj h
 | 89, i, _, h => fnC (Option.some.inj (Option.some.inj h)) fn89
 | 90, i, _, h => fnC (Option.some.inj (Option.some.inj h)) fn90
 | 91, i, _, h => fnC (Option.some.inj (Option.some.inj h)) fn91
 | 92, i, _, h => nomatch Option.some.inj h
 | 93, i, _, h => fnC (Option.some.inj (Option.some.inj h)) fn93
 | 94, i, _, h => fnC (Option.some.inj (Option.some.inj h)) fn94
 | 95, i, _, h => fnC (Option.some.inj (Option.some.inj h)) fn95
 | 96, i, _, h => fnC (Option.some.inj (Option.some.inj h)) fn96
 | 97, i, _, h => fnC (Option.some.inj (Option.some.inj h)) fn97
 | 98, i, _, h => fnC (Option.some.inj (Option.some.inj h)) fn98
 | 99, i, _, h => fnC (Option.some.inj (Option.some.inj h)) fn99
 | 100, i, _, h => fnC (Option.some.inj (Option.some.inj h)) fn100
 | 101, i, _, h => fnC (Option.some.inj (Option.some.inj h)) fn101
 | 102, i, _, h => fnC (Option.some.inj (Option.some.inj h)) fn102
 | 103, i, _, h => fnC (Option.some.inj (Option.some.inj h)) fn103
 | 104, i, _, h => fnC (Option.some.inj (Option.some.inj h)) fn104
 | 105, i, _, h => fnC (Option.some.inj (Option.some.inj h)) fn105
 | 106, i, _, h => fnC (Option.some.inj (Option.some.inj h)) fn106
 | 107, i, _, h => fnC (Option.some.inj (Option.some.inj h)) fn107
 | 108, i, _, h => fnC (Option.some.inj (Option.some.inj h)) fn108
 | 109, i, _, h => fnC (Option.some.inj (Option.some.inj h)) fn109
 | 110, i, _, h => fnC (Option.some.inj (Option.some.inj h)) fn110
 | 111, i, _, h => fnC (Option.some.inj (Option.some.inj h)) fn111
 | 112, i, _, h => fnC (Option.some.inj (Option.some.inj h)) fn112
 | 113, i, _, h => fnC (Option.some.inj (Option.some.inj h)) fn113
 | 114, i, _, h => fnC (Option.some.inj (Option.some.inj h)) fn114
 | 115, i, _, h => fnC (Option.some.inj (Option.some.inj h)) fn115
 | 116, i, _, h => fnC (Option.some.inj (Option.some.inj h)) fn116
 | 117, i, _, h => nomatch Option.some.inj h
 | 118, i, _, h => nomatch Option.some.inj h
 | 119, i, _, h => nomatch Option.some.inj h
 | 120, i, _, h => nomatch Option.some.inj h
 | 121, i, _, h => nomatch Option.some.inj h
 | 122, i, _, h => nomatch Option.some.inj h
 | 123, i, _, h => nomatch Option.some.inj h
 | 124, i, _, h => nomatch Option.some.inj h
 | 125, i, _, h => nomatch Option.some.inj h
 | 126, i, _, h => nomatch Option.some.inj h
 | 127, i, _, h => nomatch Option.some.inj h
 | 128, i, _, h => fnC (Option.some.inj (Option.some.inj h)) fn128
 | 129, i, _, h => nomatch Option.some.inj h
 | 130, i, _, h => nomatch Option.some.inj h
 | 131, i, _, h => nomatch Option.some.inj h
 | 132, i, _, h => nomatch Option.some.inj h
 | 133, i, _, h => nomatch Option.some.inj h
 | 134, i, _, h => nomatch Option.some.inj h
 | 135, i, _, h => nomatch Option.some.inj h
 | 136, i, _, h => nomatch Option.some.inj h
 | 137, i, _, h => fnC (Option.some.inj (Option.some.inj h)) fn137
 | 138, i, _, h => fnC (Option.some.inj (Option.some.inj h)) fn138
 | 139, i, _, h => fnC (Option.some.inj (Option.some.inj h)) fn139
 | 140, i, _, h => fnC (Option.some.inj (Option.some.inj h)) fn140
 | 141, i, _, h => fnC (Option.some.inj (Option.some.inj h)) fn141
 | 142, i, _, h => fnC (Option.some.inj (Option.some.inj h)) fn142
 | 143, i, _, h => fnC (Option.some.inj (Option.some.inj h)) fn143
 | 144, i, _, h => fnC (Option.some.inj (Option.some.inj h)) fn144
 | 145, i, _, h => fnC (Option.some.inj (Option.some.inj h)) fn145
 | 146, i, _, h => nomatch Option.some.inj h
 | 147, i, _, h => fnC (Option.some.inj (Option.some.inj h)) fn147
 | 148, i, _, h => nomatch Option.some.inj h
 | 149, i, _, h => fnC (Option.some.inj (Option.some.inj h)) fn149
 | 150, i, _, h => fnC (Option.some.inj (Option.some.inj h)) fn150
 | 151, i, _, h => fnC (Option.some.inj (Option.some.inj h)) fn151
 | 152, i, _, h => fnC (Option.some.inj (Option.some.inj h)) fn152
 | 153, i, _, h => fnC (Option.some.inj (Option.some.inj h)) fn153
 | 154, i, _, h => fnC (Option.some.inj (Option.some.inj h)) fn154
 | 155, i, _, h => fnC (Option.some.inj (Option.some.inj h)) fn155
 | 156, i, _, h => fnC (Option.some.inj (Option.some.inj h)) fn156
 | 157, i, _, h => fnC (Option.some.inj (Option.some.inj h)) fn157
 | 158, i, _, h => fnC (Option.some.inj (Option.some.inj h)) fn158
 | 159, i, _, h => nomatch Option.some.inj h
 | 160, i, _, h => nomatch Option.some.inj h
 | 161, i, _, h => nomatch Option.some.inj h
 | 162, i, _, h => nomatch Option.some.inj h
 | 163, i, _, h => nomatch Option.some.inj h
 | 164, i, _, h => nomatch Option.some.inj h
 | 165, i, _, h => nomatch Option.some.inj h
 | 166, i, _, h => nomatch Option.some.inj h
 | 167, i, _, h => nomatch Option.some.inj h
 | 168, i, _, h => nomatch Option.some.inj h
 | 169, i, _, h => fnC (Option.some.inj (Option.some.inj h)) fn169
 | 170, i, _, h => fnC (Option.some.inj (Option.some.inj h)) fn170
 | 171, i, _, h => fnC (Option.some.inj (Option.some.inj h)) fn171
 | 172, i, _, h => fnC (Option.some.inj (Option.some.inj h)) fn172
 | 173, i, _, h => fnC (Option.some.inj (Option.some.inj h)) fn173
 | 174, i, _, h => nomatch Option.some.inj h
 | 175, i, _, h => nomatch Option.some.inj h
 | 176, i, _, h => nomatch Option.some.inj h
 | 177, i, _, h => nomatch Option.some.inj h
 | 178, i, _, h => nomatch Option.some.inj h
 | 179, i, _, h => nomatch Option.some.inj h
 | 180, i, _, h => nomatch Option.some.inj h
 | 181, i, _, h => nomatch Option.some.inj h
 | 182, i, _, h => nomatch Option.some.inj h
 | 183, i, _, h => nomatch Option.some.inj h
 | 184, i, _, h => nomatch Option.some.inj h
 | 185, i, _, h => nomatch Option.some.inj h
 | 186, i, _, h => nomatch Option.some.inj h
 | 187, i, _, h => nomatch Option.some.inj h
 | 188, i, _, h => nomatch Option.some.inj h
 | 189, i, _, h => fnC (Option.some.inj (Option.some.inj h)) fn189
 | 190, i, _, h => fnC (Option.some.inj (Option.some.inj h)) fn190
 | 191, i, _, h => fnC (Option.some.inj (Option.some.inj h)) fn191
 | n + 192, i, hlt, h => by omega
theorem fns0 : ∀ f i, E0.fs f = some i → FnOk Go.Proofs.Tryz.prog E0 f i := by
 intro f i h
 have hl : fss[f]? = some (some i) := by
  have h : (fss[f]?).getD none = some i := h
  cases hl : fss[f]? with
  | none => rw [hl] at h; cases h
  | some o => rw [hl] at h; simp only [Option.getD_some] at h; rw [h]
 refine ⟨?_, fnsB_ok code0 hl⟩
 have hlt : f < 192 := (List.getElem?_eq_some_iff.1 hl).1
 exact fnAll f i hlt hl
theorem env0 : EnvOk Go.Proofs.Tryz.prog E0 J0 := ⟨tabOk0, byte0, by kernel_rfl, fns0, ext0, j0_stays⟩
end Go.Proofs.YtdameggfgnpehaaGreatDoor.Abs
set_option linter.unusedVariables false
set_option linter.unusedSimpArgs false
namespace Go.Proofs.YtdameggfgnpehaaGreatDoor.Abs
open Go
variable {β : Type} {n : Nat}
section
variable {k : AV → Heap → Option β} {k1 : AV → Option β} {H : Heap}
@[simp] theorem PR_load : (PR n β).load = pLoad := rfl
@[simp] theorem PR_store : (PR n β).store = pStore := rfl
@[simp] theorem PR_new : (PR n β).new = pNew := rfl
@[simp] theorem PR_box : (PR n β).box = pBox := rfl
@[simp] theorem PR_newSl : (PR n β).newSl = pNewSl := rfl
@[simp] theorem PR_fadr : (PR n β).fadr = pFadr := rfl
@[simp] theorem PR_fld : (PR n β).fld = pFld := rfl
@[simp] theorem PR_iadr : (PR n β).iadr = pIadr := rfl
@[simp] theorem PR_idx : (PR n β).idx = pIdx := rfl
@[simp] theorem PR_lenS : (PR n β).lenS = pLenS := rfl
@[simp] theorem PR_len : (PR n β).len = pLen := rfl
@[simp] theorem PR_sliceS : (PR n β).sliceS = pSliceS := rfl
@[simp] theorem PR_slice : (PR n β).slice = pSlice := rfl
@[simp] theorem PR_app : (PR n β).app = pApp := rfl
@[simp] theorem PR_appS : (PR n β).appS = pAppS := rfl
@[simp] theorem PR_bin : (PR n β).bin = pBin := rfl
@[simp] theorem PR_binB : (PR n β).binB = pBinB := rfl
@[simp] theorem PR_binA : (PR n β).binA = pBinA := rfl
@[simp] theorem PR_un : (PR n β).un = pUn := rfl
@[simp] theorem PR_pick : (PR n β).pick = pPick := rfl
@[simp] theorem PR_cvI : (PR n β).cvI = pCvI := rfl
@[simp] theorem PR_cvSS : (PR n β).cvSS = pCvSS := rfl
@[simp] theorem PR_cvBS : (PR n β).cvBS = pCvBS := rfl
@[simp] theorem PR_cvSB : (PR n β).cvSB = pCvSB := rfl
@[simp] theorem PR_extr : (PR n β).extr = pExtr := rfl
@[simp] theorem PR_nil : (PR n β).nil = pNil := rfl
@[simp] theorem PR_fill : (PR n β).fill = fun a l k => (fillA a l).bind k := rfl
@[simp] theorem PR_make : (PR n β).make = pMake := rfl
@[simp] theorem PR_guard : (PR n β).guard = pGuard := rfl
@[simp] theorem PR_cond : (PR n β).cond = pCond := rfl
@[simp] theorem PR_clear : (PR n β).clear = pClear := rfl
@[simp] theorem PR_both : (PR n β).both = pBoth := rfl
@[simp] theorem PR_apart : (PR n β).apart = pApart := rfl
@[simp] theorem PR_same : (PR n β).same = pSame := rfl
noncomputable def plainF (f : Nat) : Bool := E0.hm f || (E0.ext f).isSome
theorem plain_hm {f : Nat} (h : plainF f = false) : E0.hm f = false := by
 unfold plainF at h
 simp only [Bool.or_eq_false_iff] at h
 exact h.1
theorem plain_ext {f : Nat} (h : plainF f = false) : E0.ext f = none := by
 unfold plainF at h
 simp only [Bool.or_eq_false_iff] at h
 simpa using h.2
theorem PR_call {ty : Nat} {f : FuncId} {args vs : List AV} {t : AV} (hh : plainF f = false) (hv : args.mapM (viewV H 8) = some vs) (ht : tree E0 n ty f vs = some t) :
  (PR n β).call ty (.fn f [] []) args H k = k (instT ti0 E0.tp H.length ty t).1 (H ++ (instT ti0 E0.tp H.length ty t).2) := by
 show callF E0 (evalFn E0 n) ty f ([] ++ args ++ []) H k = _
 simp only [callF, plain_ext hh, plain_hm hh, List.nil_append, List.append_nil, Bool.false_eq_true, if_false, callT, hv, Option.bind_some]
 have ht : treeOf E0 (evalFn E0 n) ty f vs = some t := ht
 rw [ht]
 rfl
theorem PR_ext {ty : Nat} {f : FuncId} {g : Nat → List AV → Option AV} {args vs : List AV} {t : AV} (hg : E0.ext f = some g) (hv : args.mapM (viewV H 8) = some vs) (ht : g ty vs = some t) :
  (PR n β).call ty (.fn f [] []) args H k = k (instT ti0 E0.tp H.length ty t).1 (H ++ (instT ti0 E0.tp H.length ty t).2) := by
 show callF E0 (evalFn E0 n) ty f ([] ++ args ++ []) H k = _
 simp only [callF, hg, List.nil_append, List.append_nil, callX, hv, Option.bind_some, ht]
 rfl
end
theorem tree_def (n ty : Nat) (f : FuncId) (args : List AV) : tree E0 n ty f args = evalFn E0 n AV f args [] fun x H => ownTree ti0 E0.tp ty H x := rfl
@[simp] theorem own_scalar {ti : Nat → Option TI} {tp : Nat → Option (List Nat)} (ty : Nat) (H : Heap) (v : Value) : ownTree ti tp ty H (.sc v) = some (.sc v) := rfl
theorem ownT_sl {ti : Nat → Option TI} {tp : Nat → Option (List Nat)} {H : Heap} {d ty id off n z : Nat} : ownT ti tp H (d + 1) ty (.sl id off n z) = (ti ty).bind fun i => (ti i.elem).bind fun j => if z = j.size then (if isApp H id then (rdCells H id off (n * z)).bind fun cs => (ownL (ownT ti tp H d) (List.replicate n j.cty).flatten cs).bind fun q => some (.ro n q.1, id :: q.2) else none) else none := rfl
theorem ownT_agg {ti : Nat → Option TI} {tp : Nat → Option (List Nat)} {H : Heap} {d ty : Nat} {cs : List AV} : ownT ti tp H (d + 1) ty (.agg cs) = (ti ty).bind fun i => (ownL (ownT ti tp H d) i.cty cs).bind fun q => some (.agg q.1, q.2) := rfl
theorem ownT_tup {ti : Nat → Option TI} {tp : Nat → Option (List Nat)} {H : Heap} {d ty : Nat} {cs : List AV} : ownT ti tp H (d + 1) ty (.tup cs) = (tp ty).bind fun ts => (ownL (ownT ti tp H d) ts cs).bind fun q => some (.tup q.1, q.2) := rfl
theorem ownT_sc {ti : Nat → Option TI} {tp : Nat → Option (List Nat)} {H : Heap} {d ty : Nat} {v : Value} : ownT ti tp H (d + 1) ty (.sc v) = some (.sc v, []) := rfl
theorem instT_sc {ti : Nat → Option TI} {tp : Nat → Option (List Nat)} {n ty : Nat} {v : Value} : instT ti tp n ty (.sc v) = (.sc v, []) := rfl
theorem instT_agg {ti : Nat → Option TI} {tp : Nat → Option (List Nat)} {n ty : Nat} {cs : List AV} : instT ti tp n ty (.agg cs) = (.agg (instL ti tp n ((ti ty).getD default).cty cs).1, (instL ti tp n ((ti ty).getD default).cty cs).2) := rfl
theorem instT_tup {ti : Nat → Option TI} {tp : Nat → Option (List Nat)} {n ty : Nat} {cs : List AV} : instT ti tp n ty (.tup cs) = (.tup (instL ti tp n ((tp ty).getD []) cs).1, (instL ti tp n ((tp ty).getD []) cs).2) := rfl
theorem viewV_sl {H : Heap} {d id off n z : Nat} : viewV H (d + 1) (.sl id off n z) = (rdCells H id off (n * z)).bind fun cs => (cs.mapM (viewV H d)).bind fun vs => some (.ro n vs) := rfl
theorem viewV_agg {H : Heap} {d : Nat} {cs : List AV} : viewV H (d + 1) (.agg cs) = (cs.mapM (viewV H d)).bind fun vs => some (.agg vs) := rfl
theorem viewV_sc {H : Heap} {d : Nat} {v : Value} : viewV H (d + 1) (.sc v) = some (.sc v) := rfl
theorem viewV_ro {H : Heap} {d n : Nat} {cs : List AV} : viewV H (d + 1) (.ro n cs) = some (.ro n cs) := rfl
theorem splice_next (l : List AV) (i j : Nat) (z : AV) (hi : i < l.length) : splice (l.take i ++ List.replicate (j + 1) z) i [l[i]] = l.take (i + 1) ++ List.replicate j z := by
 have hlen : (l.take i).length = i := by simp; omega
 have e1 : (l.take i ++ List.replicate (j + 1) z).take i = l.take i := List.take_left' hlen
 have e2 : (l.take i ++ List.replicate (j + 1) z).drop (i + 1) = List.replicate j z := by
  rw [List.drop_append, hlen, List.drop_of_length_le (by omega), List.nil_append, Nat.add_sub_cancel_left, List.replicate_succ, List.drop_one, List.tail_cons]
 unfold splice
 rw [e1, List.length_singleton, e2, List.take_succ_eq_append_getElem hi]
theorem mapM_sc {H : Heap} {d : Nat} : ∀ (l : List Value), (l.map AV.sc).mapM (viewV H (d + 1)) = some (l.map AV.sc)
 | [] => rfl
 | x :: l => by
  have e : viewV H (d + 1) (.sc x) = some (.sc x) := rfl
  simp only [List.map_cons, List.mapM_cons, e, Option.pure_def, Option.bind_eq_bind, Option.bind_some, mapM_sc l]
theorem ownL_sc {ti : Nat → Option TI} {tp : Nat → Option (List Nat)} {H : Heap} {d : Nat} : ∀ (ts : List Nat) (l : List Value), ts.length = l.length → ownL (ownT ti tp H (d + 1)) ts (l.map AV.sc) = some (l.map AV.sc, [])
 | [], [], _ => rfl
 | t :: ts, x :: l, h => by
  have e : ownT ti tp H (d + 1) t (.sc x) = some (.sc x, []) := rfl
  simp only [List.map_cons, ownL, e, Option.bind_some, ownL_sc ts l (by simpa using h), List.append_nil]
 | [], _ :: _, h => by simp at h
 | _ :: _, [], h => by simp at h
theorem instL_sc {ti : Nat → Option TI} {tp : Nat → Option (List Nat)} {n : Nat} : ∀ (ts : List Nat) (l : List Value), instL ti tp n ts (l.map AV.sc) = (l.map AV.sc, [])
 | ts, [] => rfl
 | ts, x :: l => by
  simp only [List.map_cons, instL, instT, instL_sc _ l, List.nil_append]
def bv (s : ByteArray) : List Value := s.data.toList.map fun b => .int .u8 b.toNat
theorem bytesAV_eq (s : ByteArray) : bytesAV s = (bv s).map AV.sc := by simp [bytesAV, bv]
theorem bv_len (s : ByteArray) : (bv s).length = s.size := by simp [bv]
theorem bytesAV_len (s : ByteArray) : (bytesAV s).length = s.size := by simp [bytesAV]
theorem bytesAV_leaf (s : ByteArray) : (bytesAV s).all isLeaf = true := by
 simp only [bytesAV, List.all_map, List.all_eq_true]
 intro b _
 rfl
theorem byteOf_bytes : ∀ (l : List UInt8), (l.map fun b => AV.sc (.int .u8 (b.toNat : Int))).mapM byteOf = some l
 | [] => rfl
 | b :: l => by
  have e : byteOf (.sc (.int .u8 (b.toNat : Int))) = some b := by simp [byteOf]
  simp only [List.map_cons, List.mapM_cons, e, byteOf_bytes l, Option.pure_def, Option.bind_eq_bind, Option.bind_some]
end Go.Proofs.YtdameggfgnpehaaGreatDoor.Abs
set_option linter.unusedVariables false
set_option linter.unusedSimpArgs false
namespace Go.Proofs.YtdameggfgnpehaaGreatDoor.Abs
open Go
section gen
variable {ti : Nat → Option TI} {tp : Nat → Option (List Nat)}
def okLW (f : Nat → AV → Prop) : List Nat → List AV → Prop
 | [], [] => True
 | t :: ts, x :: xs => f t x ∧ okLW f ts xs
 | _, _ => False
def okW (ti : Nat → Option TI) (tp : Nat → Option (List Nat)) : Nat → Nat → AV → Prop
 | 0, _, _ => False
 | d + 1, ty, x =>
  match x with
  | .sc _ => True
  | .ro n cells => ∃ i j, ti ty = some i ∧ ti i.elem = some j ∧ cells.length = n * j.size ∧ okLW (okW ti tp d) (List.replicate n j.cty).flatten cells
  | .agg cs => ∃ i, ti ty = some i ∧ okLW (okW ti tp d) i.cty cs
  | .tup cs => ∃ ts, tp ty = some ts ∧ okLW (okW ti tp d) ts cs
  | _ => False
theorem okLW_len {f : Nat → AV → Prop} : ∀ {ts : List Nat} {cs : List AV}, okLW f ts cs → ts.length = cs.length
 | [], [], _ => rfl
 | _ :: ts, _ :: cs, h => by rw [List.length_cons, List.length_cons, okLW_len h.2]
theorem okLW_append {f : Nat → AV → Prop} : ∀ {ts : List Nat} {cs : List AV} {ts' : List Nat} {cs' : List AV}, okLW f ts cs → okLW f ts' cs' → okLW f (ts ++ ts') (cs ++ cs')
 | [], [], _, _, _, h => h
 | _ :: ts, _ :: cs, _, _, h, h' => ⟨h.1, okLW_append h.2 h'⟩
theorem okLW_rows {α : Type} {f : Nat → AV → Prop} {cty : List Nat} {enc : α → List AV} : ∀ (l : List α), (∀ x ∈ l, okLW f cty (enc x)) → okLW f (List.replicate l.length cty).flatten (l.map enc).flatten
 | [], _ => by simp [okLW]
 | x :: l, h => by
  rw [List.length_cons, List.replicate_succ, List.flatten_cons, List.map_cons, List.flatten_cons]
  exact okLW_append (h x List.mem_cons_self) (okLW_rows l fun y hy => h y (List.mem_cons_of_mem _ hy))
theorem okLW_okL {f g : Nat → AV → Prop} (hfg : ∀ t x, f t x → g t x) : ∀ {ts : List Nat} {cs : List AV}, okLW f ts cs → okL g ts cs
 | [], [], _ => trivial
 | _ :: ts, _ :: cs, h => ⟨hfg _ _ h.1, okLW_okL hfg h.2⟩
theorem okW_okTr : ∀ (d : Nat) (ty : Nat) (x : AV), okW ti tp d ty x → okTr ti tp d ty x
 | 0, _, _, h => h
 | d + 1, ty, x, h => by
  cases x with
  | sc v => trivial
  | ro n cells =>
   obtain ⟨i, j, h1, h2, h3, h4⟩ := h
   show cells.length = n * (((ti ty).bind fun i => ti i.elem).getD default).size ∧ _
   simp only [h1, Option.bind_some, h2, Option.getD_some]
   exact ⟨h3, okLW_okL (okW_okTr d) h4⟩
  | agg cs =>
   obtain ⟨i, h1, h2⟩ := h
   show okL _ ((ti ty).getD default).cty cs
   rw [h1]
   exact okLW_okL (okW_okTr d) h2
  | tup cs =>
   obtain ⟨ts, h1, h2⟩ := h
   show okL _ ((tp ty).getD []) cs
   rw [h1]
   exact okLW_okL (okW_okTr d) h2
  | _ => cases h
theorem own_instL {H : Heap} {d : Nat} (hd : ∀ ty t N, okW ti tp d ty t → Lies H N (instT ti tp N ty t).2 → (∀ b ∈ (instT ti tp N ty t).2, b.live = true ∧ b.app = true) → ownT ti tp H d ty (instT ti tp N ty t).1 = some (t, List.range' N (instT ti tp N ty t).2.length)) :
  ∀ (ts : List Nat) (cs : List AV) (N : Nat), okLW (okW ti tp d) ts cs → Lies H N (instL ti tp N ts cs).2 → (∀ b ∈ (instL ti tp N ts cs).2, b.live = true ∧ b.app = true) → ownL (ownT ti tp H d) ts (instL ti tp N ts cs).1 = some (cs, List.range' N (instL ti tp N ts cs).2.length)
 | [], [], N, _, _, _ => rfl
 | t :: ts, x :: cs, N, h, hl, hb => by
  simp only [instL, List.headD_cons, List.tail_cons] at hl hb ⊢
  have h1 := hd t x N h.1 hl.left fun b hb' => hb b (List.mem_append_left _ hb')
  have h2 := own_instL hd ts cs _ h.2 hl.right fun b hb' => hb b (List.mem_append_right _ hb')
  have e := List.range'_append (s := N) (m := (instT ti tp N t x).2.length) (n := (instL ti tp (N + (instT ti tp N t x).2.length) ts cs).2.length) (step := 1)
  rw [Nat.one_mul] at e
  simp only [ownL, h1, h2, Option.bind_some, List.length_append, e]
mutual
theorem inst_live : ∀ (x : AV) (N ty : Nat), ∀ b ∈ (instT ti tp N ty x).2, b.live = true ∧ b.app = true
 | .sc v, N, ty => by intro b h; cases h
 | .ro n cells, N, ty => by
  intro b h
  simp only [instT, List.mem_cons] at h
  rcases h with rfl | h
  ·exact ⟨rfl, rfl⟩
  ·exact instL_live cells _ _ b h
 | .agg cs, N, ty => fun b h => instL_live cs _ _ b h
 | .tup cs, N, ty => fun b h => instL_live cs _ _ b h
 | .any, N, ty => by intro b h; cases h
 | .nl, N, ty => by intro b h; cases h
 | .sl .., N, ty => by intro b h; cases h
 | .ptr .., N, ty => by intro b h; cases h
 | .rp .., N, ty => by intro b h; cases h
 | .fn .., N, ty => by intro b h; cases h
theorem instL_live : ∀ (cs : List AV) (N : Nat) (ts : List Nat), ∀ b ∈ (instL ti tp N ts cs).2, b.live = true ∧ b.app = true
 | [], N, ts => by intro b h; cases h
 | x :: cs, N, ts => by
  intro b h
  simp only [instL, List.mem_append] at h
  rcases h with h | h
  ·exact inst_live x _ _ b h
  ·exact instL_live cs _ _ b h
end
theorem own_inst {H : Heap} : ∀ (d ty : Nat) (t : AV) (N : Nat), okW ti tp d ty t → Lies H N (instT ti tp N ty t).2 → ownT ti tp H d ty (instT ti tp N ty t).1 = some (t, List.range' N (instT ti tp N ty t).2.length)
 | 0, _, _, _, h, _ => by cases h
 | d + 1, ty, t, N, h, hl => by
  have ih := own_instL (H := H) (d := d) (ti := ti) (tp := tp) (fun ty t N h h' _ => own_inst d ty t N h h')
  cases t with
  | sc v => rfl
  | ro n cells =>
   obtain ⟨i, j, h1, h2, h3, h4⟩ := h
   have e : instT ti tp N ty (.ro n cells) = (.sl N 0 n j.size, ⟨(instL ti tp (N + 1) (List.replicate n j.cty).flatten cells).1, true, true⟩ :: (instL ti tp (N + 1) (List.replicate n j.cty).flatten cells).2) := by
    simp only [instT, h1, Option.bind_some, h2, Option.getD_some]
   rw [e] at hl ⊢
   have hb := hl 0 _ rfl
   rw [Nat.add_zero] at hb
   have hv := ih (List.replicate n j.cty).flatten cells (N + 1) h4 hl.tail (instL_live _ _ _)
   have hlen := instL_len (ti := ti) (tp := tp) (N + 1) (List.replicate n j.cty).flatten cells
   have e2 : rdCells H N 0 (n * j.size) = some (instL ti tp (N + 1) (List.replicate n j.cty).flatten cells).1 := by
    simp only [rdCells, hb, if_true, List.drop_zero, Nat.zero_add]
    rw [if_pos (by rw [hlen, h3]; exact Nat.le_refl _), ← h3, ← hlen, List.take_length]
   have e3 : isApp H N = true := by simp only [isApp, hb]
   rw [ownT_sl]
   simp only [h1, h2, Option.bind_some, if_true, e2, e3, hv, List.length_cons]
   rw [List.range'_succ]
  | agg cs =>
   obtain ⟨i, h1, h2⟩ := h
   have e : instT ti tp N ty (.agg cs) = (.agg (instL ti tp N i.cty cs).1, (instL ti tp N i.cty cs).2) := by rw [instT_agg, h1]; rfl
   rw [e] at hl ⊢
   rw [ownT_agg]
   simp only [h1, Option.bind_some, ih i.cty cs N h2 hl (instL_live _ _ _)]
  | tup cs =>
   obtain ⟨ts, h1, h2⟩ := h
   have e : instT ti tp N ty (.tup cs) = (.tup (instL ti tp N ts cs).1, (instL ti tp N ts cs).2) := by rw [instT_tup, h1]; rfl
   rw [e] at hl ⊢
   rw [ownT_tup]
   simp only [h1, Option.bind_some, ih ts cs N h2 hl (instL_live _ _ _)]
  | _ => cases h
theorem Lies_in (A B X : List Blk) : Lies (A ++ B ++ X) A.length B := fun j b hj => by
 have hlt := (List.getElem?_eq_some_iff.1 hj).1
 rw [List.append_assoc, List.getElem?_append_right (by omega), Nat.add_sub_cancel_left, List.getElem?_append_left hlt]
 exact hj
theorem Lies_end (A B : List Blk) : Lies (A ++ B) A.length B := by
 have := Lies_in A B []
 rwa [List.append_nil] at this
theorem own_ret (A : List Blk) (ty : Nat) (t : AV) (h : okW ti tp 8 ty t) : ownTree ti tp ty (A ++ (instT ti tp A.length ty t).2) (instT ti tp A.length ty t).1 = some t := by
 rw [ownTree, own_inst 8 ty t A.length h (Lies_end _ _)]
 simp only [Option.bind_some]
 rw [if_pos (List.nodup_range')]
def Vw (H : Heap) (x v : AV) : Prop := ∀ X : List Blk, viewV (H ++ X) 8 x = some v
theorem Vw.grow {H : Heap} {x v : AV} (h : Vw H x v) (X : List Blk) : Vw (H ++ X) x v := fun Y => by
 rw [List.append_assoc]
 exact h _
theorem Vw.now {H : Heap} {x v : AV} (h : Vw H x v) : viewV H 8 x = some v := by
 have := h []
 rwa [List.append_nil] at this
theorem Vw_inst (H : Heap) (ty : Nat) (t : AV) (h : okW ti tp 8 ty t) : Vw (H ++ (instT ti tp H.length ty t).2) (instT ti tp H.length ty t).1 t := fun X => view_inst 8 ty t H.length (okW_okTr 8 ty t h) (Lies_in _ _ _)
theorem Vw_sc (H : Heap) (v : Value) : Vw H (.sc v) (.sc v) := fun _ => rfl
theorem Vw_ro (H : Heap) (n : Nat) (cs : List AV) : Vw H (.ro n cs) (.ro n cs) := fun _ => rfl
def isFl : AV → Bool
 | .sc v => leafV v
 | .ro _ _ => true
 | _ => false
theorem fl_leaf {cs : List AV} (h : cs.all isFl = true) : cs.all isLeaf = true := by
 rw [List.all_eq_true] at h ⊢
 intro x hx
 have := h x hx
 cases x <;> simp_all [isFl, isLeaf]
theorem fl_cells {cs : List AV} (h : cs.all isFl = true) : cellsA (.agg cs) = some cs := by
 show (if cs.all isLeaf then some cs else none) = _
 rw [if_pos (fl_leaf h)]
theorem fl_view {H : Heap} {d : Nat} : ∀ {cs : List AV}, cs.all isFl = true → cs.mapM (viewV H (d + 1)) = some cs
 | [], _ => rfl
 | x :: cs, h => by
  rw [List.all_cons, Bool.and_eq_true] at h
  have e : viewV H (d + 1) x = some x := by
   have := h.1
   cases x <;> first | rfl | (exfalso; simp [isFl] at this)
  simp only [List.mapM_cons, e, fl_view h.2, Option.pure_def, Option.bind_eq_bind, Option.bind_some]
theorem Vw_agg (H : Heap) {cs : List AV} (h : cs.all isFl = true) : Vw H (.agg cs) (.agg cs) := fun X => by
 rw [viewV_agg, fl_view h]
 rfl
theorem instL_leaf : ∀ (cs : List AV) (N : Nat) (ts : List Nat), cs.all isFl = true → (instL ti tp N ts cs).1.all isLeaf = true
 | [], _, _, _ => rfl
 | x :: cs, N, ts, h => by
  rw [List.all_cons, Bool.and_eq_true] at h
  simp only [instL, List.all_cons, Bool.and_eq_true]
  refine ⟨?_, instL_leaf cs _ _ h.2⟩
  have := h.1
  cases x <;> first | exact this | rfl | (exfalso; simp [isFl] at this)
theorem instL_append : ∀ (ts : List Nat) (cs : List AV) (ts' : List Nat) (cs' : List AV) (N : Nat), ts.length = cs.length →
  instL ti tp N (ts ++ ts') (cs ++ cs') = ((instL ti tp N ts cs).1 ++ (instL ti tp (N + (instL ti tp N ts cs).2.length) ts' cs').1, (instL ti tp N ts cs).2 ++ (instL ti tp (N + (instL ti tp N ts cs).2.length) ts' cs').2)
 | [], [], ts', cs', N, _ => by simp [instL]
 | t :: ts, x :: cs, ts', cs', N, h => by
  have ih := instL_append ts cs ts' cs' (N + (instT ti tp N t x).2.length) (by simpa using h)
  simp only [List.cons_append, instL, List.headD_cons, List.tail_cons, ih, List.length_append, List.append_assoc, Nat.add_assoc]
end gen
section ops
variable {β : Type}
theorem iadr_ro (w len : Nat) (cells : List AV) (i : Nat) (k : AV → Option β) (h : i < len) (h2 : i * w < cells.length) : pIadr w (.ro len cells) (.sc (.int .i64 i)) k = k (.rp (cells.drop (i * w))) := by
 simp only [pIadr, asI, Option.bind_some, Int.toNat_natCast]
 rw [if_pos ⟨by omega, by omega⟩, if_pos h2]
theorem iadr_sl (w len id off : Nat) (i : Nat) (k : AV → Option β) (h : i < len) : pIadr w (.sl id off len w) (.sc (.int .i64 i)) k = k (.ptr id (off + i * w)) := by
 simp only [pIadr, asI, Option.bind_some, Int.toNat_natCast, if_true]
 rw [if_pos ⟨by omega, by omega⟩]
theorem ld_rp (w : Nat) (cs r : List AV) (H : Heap) (k : AV → Option β) (h : cs.length = w) : pLoad true w (.rp (cs ++ r)) H k = k (.agg cs) := by
 simp only [pLoad, List.length_append, h, Nat.le_add_right, if_true, List.take_left' h]
theorem ld1_rp (c : AV) (r : List AV) (H : Heap) (k : AV → Option β) : pLoad false 1 (.rp (c :: r)) H k = k c := by
 simp only [pLoad, List.length_cons, Nat.le_add_left, if_true, Bool.false_eq_true, if_false]
 rfl
theorem st_at (w id off : Nat) (y : AV) (b : Blk) (cs : List AV) (H : Heap) (k : Heap → Option β) (h : H[id]? = some b) (hc : cellsA y = some cs) (hl : cs.length = w) (ho : off + w ≤ b.cells.length) (hb : b.live = true) : pStore w (.ptr id off) y H k = k (H.set id { b with cells := splice b.cells off cs }) := by
 simp only [pStore, h, hc, Option.bind_some, hb, if_true, hl, ho]
theorem splice_mid (A z C cs : List AV) (h : z.length = cs.length) : splice (A ++ (z ++ C)) A.length cs = A ++ (cs ++ C) := by
 unfold splice
 rw [List.take_left' rfl, ← List.append_assoc A z C, List.drop_append_of_le_length (by rw [List.length_append]; omega), ← h, ← List.length_append, List.drop_length, List.nil_append, List.append_assoc]
theorem lss_nat (a b : Nat) (k : AV → Option β) : pBin .lss (.sc (.int .i64 a)) (.sc (.int .i64 b)) k = k (.sc (.bool (decide (a < b)))) := by
 show k (.sc (.bool (decide ((a : Int) < (b : Int))))) = _
 rw [show decide ((a : Int) < (b : Int)) = decide (a < b) from by simp]
theorem inc_nat (a : Nat) (k : AV → Option β) (h : a < 9223372036854775807) : pBin .add (.sc (.int .i64 a)) (.sc (.int .i64 1)) k = k (.sc (.int .i64 (a + 1 : Nat))) := by
 show k (.sc (.int .i64 (IntKind.i64.wrap ((a : Int) + 1)))) = _
 have e : IntKind.i64.wrap ((a : Int) + 1) = ((a + 1 : Nat) : Int) := by
  rw [IntKind.wrap_i64, Int.natCast_add]
  simp only [Int.cast_ofNat_Int]
  omega
 rw [e]
theorem cond_b (b : Bool) (x y : Option β) : pCond (.sc (.bool b)) x y = if b then x else y := rfl
theorem len_ro (n : Nat) (cs : List AV) (k : AV → Option β) : pLen (.ro n cs) k = k (.sc (.int .i64 n)) := rfl
theorem wrap64 (n : Int) (h0 : -9223372036854775808 ≤ n) (h1 : n ≤ 9223372036854775807) : IntKind.i64.wrap n = n := by
 rw [IntKind.wrap_i64]; omega
theorem sub64 (a b : Int) (k : AV → Option β) (h0 : -9223372036854775808 ≤ a - b) (h1 : a - b ≤ 9223372036854775807) : pBin .sub (.sc (.int .i64 a)) (.sc (.int .i64 b)) k = k (.sc (.int .i64 (a - b))) := by
 show k (.sc (.int .i64 (IntKind.i64.wrap (a - b)))) = _
 rw [wrap64 _ h0 h1]
theorem lss64 (a b : Int) (k : AV → Option β) : pBin .lss (.sc (.int .i64 a)) (.sc (.int .i64 b)) k = k (.sc (.bool (decide (a < b)))) := rfl
theorem drop_rows {α : Type} {w : Nat} {enc : α → List AV} (hw : ∀ x, (enc x).length = w) (pre r : List α) : ((pre ++ r).map enc).flatten.drop (pre.length * w) = (r.map enc).flatten := by
 have hl : ((pre.map enc).flatten).length = pre.length * w := by
  induction pre with
  | nil => simp
  | cons x pre ih => rw [List.map_cons, List.flatten_cons, List.length_append, ih, hw, List.length_cons, Nat.succ_mul, Nat.add_comm]
 rw [List.map_append, List.flatten_append, List.drop_append_of_le_length (by omega), ← hl, List.drop_length, List.nil_append]
theorem rows_len {α : Type} {w : Nat} {enc : α → List AV} (hw : ∀ x, (enc x).length = w) (l : List α) : ((l.map enc).flatten).length = l.length * w := by
 induction l with
 | nil => simp
 | cons x l ih => rw [List.map_cons, List.flatten_cons, List.length_append, ih, hw, List.length_cons, Nat.succ_mul, Nat.add_comm]
theorem el_ro {α : Type} {w : Nat} {enc : α → List AV} (hw : ∀ x, (enc x).length = w) (h0 : 0 < w) (pre : List α) (x : α) (r : List α) (k : AV → Option β) :
  pIadr w (.ro (pre ++ x :: r).length ((pre ++ x :: r).map enc).flatten) (.sc (.int .i64 pre.length)) k = k (.rp (enc x ++ (r.map enc).flatten)) := by
 have hl := rows_len hw (pre ++ x :: r)
 have h1 : pre.length < (pre ++ x :: r).length := by simp
 rw [iadr_ro w _ _ pre.length k h1 (by rw [hl]; exact Nat.mul_lt_mul_of_pos_right h1 h0), drop_rows hw pre (x :: r), List.map_cons, List.flatten_cons]
theorem to_loop {α : Type} {n te g w : Nat} {cty : List Nat} (enc : α → List AV) (k : AV → Heap → Option β) (z : List AV) (hz : z.length = w) (hw : ∀ x, (enc x).length = w) (hc : cty.length = w) (h0 : 0 < w)
  (hte : ∃ i, ti0 te = some i ∧ i.cty = cty) (hfl : ∀ x, (enc x).all isFl = true) (hh : plainF g = false) (L : Nat → AV → AV → AV → Heap → Option β)
  (hL : ∀ m a o i H, L (m + 1) a o i H = pLen a fun t10 => pBin .lss i t10 fun t11 => pCond t11 (pIadr w a i fun t18 => pLoad true w t18 H fun t19 => (PR n β).call te (.fn g [] []) [t19] H fun t20 H => pIadr w o i fun t21 => pStore w t21 t20 H fun H => pBin .add i (.sc (.int .i64 1)) fun t13 => L m a o t13 H) (k o H))
  (l : List α) (hto : ∀ x ∈ l, tree E0 n te g [.agg (enc x)] = some (.agg (enc x))) (hlen : l.length ≤ 1048576) : ∀ (r pre : List α) (m : Nat), l = pre ++ r → r.length < m →
   L m (.ro l.length (l.map enc).flatten) (.sl 0 0 l.length w) (.sc (.int .i64 pre.length)) (⟨(instL ti0 E0.tp 1 (List.replicate pre.length cty).flatten (pre.map enc).flatten).1 ++ (List.replicate r.length z).flatten, true, true⟩ :: (instL ti0 E0.tp 1 (List.replicate pre.length cty).flatten (pre.map enc).flatten).2)
    = k (.sl 0 0 l.length w) (⟨(instL ti0 E0.tp 1 (List.replicate l.length cty).flatten (l.map enc).flatten).1, true, true⟩ :: (instL ti0 E0.tp 1 (List.replicate l.length cty).flatten (l.map enc).flatten).2)
 | [], pre, m + 1, hl, hm => by
  rw [List.append_nil] at hl
  subst hl
  rw [hL, len_ro, lss_nat, cond_b]
  simp
 | x :: r, pre, m + 1, hl, hm => by
  have hlt : pre.length < l.length := by rw [hl]; simp
  rw [hL, len_ro, lss_nat, cond_b, if_pos (by simpa using hlt)]
  have hel := fun k => el_ro (β := β) hw h0 pre x r k
  rw [← hl] at hel
  rw [hel, ld_rp w _ _ _ _ (hw x)]
  rw [PR_call (vs := [.agg (enc x)]) hh (by rw [List.mapM_cons, (Vw_agg _ (hfl x)).now]; rfl) (hto x (by rw [hl]; simp))]
  rw [iadr_sl w _ _ _ _ _ hlt]
  obtain ⟨i, hi, rfl⟩ := hte
  have hr : (List.replicate pre.length i.cty).flatten.length = ((pre.map enc).flatten).length := by rw [rows_len hw]; simp [hc]
  have hJ := instL_append (ti := ti0) (tp := E0.tp) (List.replicate pre.length i.cty).flatten (pre.map enc).flatten i.cty (enc x) 1 hr
  generalize hP : instL ti0 E0.tp 1 (List.replicate pre.length i.cty).flatten (pre.map enc).flatten = P at hJ ⊢
  have hPl : P.1.length = pre.length * w := by rw [← hP, instL_len, rows_len hw]
  have hN : (⟨P.1 ++ (List.replicate (x :: r).length z).flatten, true, true⟩ :: P.2 : Heap).length = 1 + P.2.length := by simp [Nat.add_comm]
  rw [hN, instT_agg, hi, Option.getD_some]
  simp only
  generalize hQ : instL ti0 E0.tp (1 + P.2.length) i.cty (enc x) = Q at hJ ⊢
  have hQl : Q.1.length = w := by rw [← hQ, instL_len, hw]
  have hcl : cellsA (.agg Q.1) = some Q.1 := by
   show (if Q.1.all isLeaf then some Q.1 else none) = _
   rw [if_pos (by rw [← hQ]; exact instL_leaf _ _ _ (hfl x))]
  rw [List.cons_append, st_at w 0 (0 + pre.length * w) (.agg Q.1) ⟨P.1 ++ (List.replicate (x :: r).length z).flatten, true, true⟩ Q.1 _ _ rfl hcl hQl (by simp [hPl, hz, Nat.succ_mul]) rfl]
  rw [List.set_cons_zero, inc_nat _ _ (by omega)]
  have ih := to_loop enc k z hz hw hc h0 ⟨i, hi, rfl⟩ hfl hh L hL l hto hlen r (pre ++ [x]) m (by rw [hl]; simp) (by simpa using hm)
  have e1 : (List.replicate (pre ++ [x]).length i.cty).flatten = (List.replicate pre.length i.cty).flatten ++ i.cty := by
   rw [List.length_append, List.length_singleton, List.replicate_succ', List.flatten_append]; simp
  have e2 : ((pre ++ [x]).map enc).flatten = (pre.map enc).flatten ++ enc x := by simp
  rw [e1, e2, hJ] at ih
  have e3 : splice (P.1 ++ (List.replicate (x :: r).length z).flatten) (0 + pre.length * w) Q.1 = P.1 ++ Q.1 ++ (List.replicate r.length z).flatten := by
   rw [List.length_cons, List.replicate_succ, List.flatten_cons, Nat.zero_add, ← hPl, splice_mid _ _ _ _ (by rw [hz, hQl]), List.append_assoc]
  simp only [e3]
  rw [List.length_append, List.length_singleton] at ih
  exact ih
theorem to_slice {α : Type} {n te tyS f g w bytes : Nat} {cty : List Nat} (enc : α → List AV) (z : List AV) (hz : z.length = w) (hw : ∀ x, (enc x).length = w) (hc : cty.length = w) (h0 : 0 < w)
  (hty : ∃ i j, ti0 tyS = some i ∧ ti0 i.elem = some j ∧ j.size = w ∧ j.cty = cty) (hte : ∃ i, ti0 te = some i ∧ i.cty = cty) (hfl : ∀ x, (enc x).all isFl = true) (hh : plainF g = false) (L : (AV → Heap → Option AV) → Nat → AV → AV → AV → Heap → Option AV)
  (hL : ∀ k m a o i H, L k (m + 1) a o i H = pLen a fun t10 => pBin .lss i t10 fun t11 => pCond t11 (pIadr w a i fun t18 => pLoad true w t18 H fun t19 => (PR n AV).call te (.fn g [] []) [t19] H fun t20 H => pIadr w o i fun t21 => pStore w t21 t20 H fun H => pBin .add i (.sc (.int .i64 1)) fun t13 => L k m a o t13 H) (k o H))
  (hF : ∀ a H k, evalFn E0 (n + 1) AV f [a] H k = pLen a fun t6 => pMake w bytes z t6 t6 H fun t7 H => L k n a t7 (.sc (.int .i64 0)) H)
  (hby : bytes ≤ 134217728) (l : List α) (hto : ∀ x ∈ l, tree E0 n te g [.agg (enc x)] = some (.agg (enc x))) (hok : ∀ x ∈ l, okLW (okW ti0 E0.tp 7) cty (enc x)) (hlen : l.length ≤ 1048576) (hn : 1048576 < n) :
  tree E0 (n + 1) tyS f [.ro l.length (l.map enc).flatten] = some (.ro l.length (l.map enc).flatten) := by
 rw [tree_def, hF, len_ro]
 have hb : l.length * bytes ≤ 140737488355328 := Nat.le_trans (Nat.mul_le_mul hlen hby) (by decide)
 simp only [pMake, asI, Option.bind_some, if_true, Int.toNat_natCast, hb, Int.natCast_nonneg, pNewSl, List.length_nil, List.nil_append]
 have key := to_loop (n := n) (te := te) (g := g) (cty := cty) enc (fun x H => ownTree ti0 E0.tp tyS H x) z hz hw hc h0 hte hfl hh _ (hL _) l hto hlen l [] n (by simp) (by omega)
 simp only [List.length_nil, List.replicate_zero, List.flatten_nil, List.map_nil, instL, List.nil_append, Int.natCast_zero] at key
 refine key.trans ?_
 obtain ⟨i, j, h1, h2, h3, rfl⟩ := hty
 have hok' : okW ti0 E0.tp 8 tyS (.ro l.length (l.map enc).flatten) := ⟨i, j, h1, h2, by rw [rows_len hw, h3], okLW_rows l hok⟩
 have := own_ret [] tyS _ hok'
 simp only [instT, h1, h2, Option.bind_some, Option.getD_some, List.length_nil, List.nil_append, Nat.zero_add, h3] at this
 exact this
theorem flat_loop {α : Type} {n : Nat} (e : α → Value) (k : AV → Heap → Option β) (z : AV) (hlf : ∀ x, leafV (e x) = true) (L : Nat → AV → AV → AV → Heap → Option β)
  (hL : ∀ m a o i H, L (m + 1) a o i H = pLen a fun t10 => pBin .lss i t10 fun t11 => pCond t11 (pIadr 1 a i fun t18 => pLoad false 1 t18 H fun t19 => pIadr 1 o i fun t21 => pStore 1 t21 t19 H fun H => pBin .add i (.sc (.int .i64 1)) fun t13 => L m a o t13 H) (k o H))
  (l : List α) (hlen : l.length ≤ 1048576) : ∀ (r pre : List α) (m : Nat), l = pre ++ r → r.length < m →
   L m (.ro l.length (l.map fun x => .sc (e x))) (.sl 0 0 l.length 1) (.sc (.int .i64 pre.length)) [⟨(pre.map fun x => .sc (e x)) ++ List.replicate r.length z, true, true⟩]
    = k (.sl 0 0 l.length 1) [⟨l.map fun x => .sc (e x), true, true⟩]
 | [], pre, m + 1, hl, hm => by
  rw [List.append_nil] at hl
  subst hl
  rw [hL, len_ro, lss_nat, cond_b]
  simp
 | x :: r, pre, m + 1, hl, hm => by
  have hlt : pre.length < l.length := by rw [hl]; simp
  rw [hL, len_ro, lss_nat, cond_b, if_pos (by simpa using hlt)]
  rw [iadr_ro 1 _ _ pre.length _ hlt (by simpa using hlt)]
  have hd : (l.map fun x => AV.sc (e x)).drop (pre.length * 1) = .sc (e x) :: r.map fun x => .sc (e x) := by
   rw [Nat.mul_one, hl, List.map_append, List.drop_append_of_le_length (by simp)]
   rw [show pre.length = (pre.map fun x => AV.sc (e x)).length by simp, List.drop_length]
   rfl
  rw [hd, ld1_rp, iadr_sl 1 _ _ _ _ _ hlt]
  have hc : cellsA (.sc (e x)) = some [.sc (e x)] := by
   show cellsA (.sc (e x)) = _
   simp only [cellsA, isLeaf, hlf, if_true]
  rw [st_at 1 0 (0 + pre.length * 1) (.sc (e x)) ⟨(pre.map fun x => .sc (e x)) ++ List.replicate (x :: r).length z, true, true⟩ [.sc (e x)] _ _ rfl hc rfl (by simp) rfl]
  rw [List.set_cons_zero, inc_nat _ _ (by omega)]
  have ih := flat_loop (n := n) e k z hlf L hL l hlen r (pre ++ [x]) m (by rw [hl]; simp) (by simpa using hm)
  have e3 : splice ((pre.map fun x => AV.sc (e x)) ++ List.replicate (x :: r).length z) (0 + pre.length * 1) [.sc (e x)] = ((pre ++ [x]).map fun x => AV.sc (e x)) ++ List.replicate r.length z := by
   have := splice_mid (pre.map fun x => AV.sc (e x)) [z] (List.replicate r.length z) [.sc (e x)] rfl
   rw [List.length_map] at this
   rw [List.length_cons, List.replicate_succ, Nat.zero_add, Nat.mul_one]
   refine this.trans ?_
   simp
  simp only [e3]
  rw [List.length_append, List.length_singleton] at ih
  exact ih
theorem to_flat {α : Type} {n tyS f bytes : Nat} (e : α → Value) (z : AV) (hlf : ∀ x, leafV (e x) = true) (hty : ∃ i j, ti0 tyS = some i ∧ ti0 i.elem = some j ∧ j.size = 1 ∧ j.cty.length = 1) (L : (AV → Heap → Option AV) → Nat → AV → AV → AV → Heap → Option AV)
  (hL : ∀ k m a o i H, L k (m + 1) a o i H = pLen a fun t10 => pBin .lss i t10 fun t11 => pCond t11 (pIadr 1 a i fun t18 => pLoad false 1 t18 H fun t19 => pIadr 1 o i fun t21 => pStore 1 t21 t19 H fun H => pBin .add i (.sc (.int .i64 1)) fun t13 => L k m a o t13 H) (k o H))
  (hF : ∀ a H k, evalFn E0 (n + 1) AV f [a] H k = pLen a fun t6 => pMake 1 bytes [z] t6 t6 H fun t7 H => L k n a t7 (.sc (.int .i64 0)) H)
  (hby : bytes ≤ 134217728) (l : List α) (hlen : l.length ≤ 1048576) (hn : 1048576 < n) :
  tree E0 (n + 1) tyS f [.ro l.length (l.map fun x => .sc (e x))] = some (.ro l.length (l.map fun x => .sc (e x))) := by
 rw [tree_def, hF, len_ro]
 have hb : l.length * bytes ≤ 140737488355328 := Nat.le_trans (Nat.mul_le_mul hlen hby) (by decide)
 have hz : (List.replicate l.length [z]).flatten = List.replicate l.length z := by
  generalize l.length = m
  induction m with
  | zero => rfl
  | succ m ih => rw [List.replicate_succ, List.flatten_cons, ih, List.replicate_succ]; rfl
 simp only [pMake, asI, Option.bind_some, if_true, Int.toNat_natCast, hb, Int.natCast_nonneg, pNewSl, List.length_nil, List.nil_append, hz]
 have key := flat_loop (n := n) e (fun x H => ownTree ti0 E0.tp tyS H x) z hlf _ (hL _) l hlen l [] n (by simp) (by omega)
 simp only [List.length_nil, List.map_nil, List.nil_append, Int.natCast_zero] at key
 refine key.trans ?_
 obtain ⟨i, j, h1, h2, h3, h4⟩ := hty
 have em : (l.map fun x => AV.sc (e x)) = (l.map e).map AV.sc := by rw [List.map_map]; rfl
 have hl1 : (List.replicate l.length j.cty).flatten.length = (l.map e).length := by simp [h4]
 have e3 := ownL_sc (ti := ti0) (tp := E0.tp) (H := [⟨l.map fun x => AV.sc (e x), true, true⟩]) (d := 6) _ _ hl1
 have e2 : rdCells [⟨l.map fun x => AV.sc (e x), true, true⟩] 0 0 (l.length * 1) = some (l.map fun x => AV.sc (e x)) := by
  simp [rdCells, List.take_of_length_le]
 rw [ownTree, ownT_sl]
 simp only [h1, h2, h3, Option.bind_some, if_true, e2, isApp, List.getElem?_cons_zero]
 rw [em] at e3 ⊢
 rw [e3]
 rfl
theorem eq_loop {α : Type} {n tb g w : Nat} (enc : α → List AV) (k : AV → Heap → Option β) (hw : ∀ x, (enc x).length = w) (h0 : 0 < w) (hfl : ∀ x, (enc x).all isFl = true) (hh : plainF g = false) (L : Nat → AV → AV → AV → Heap → Option β)
  (hL : ∀ m a b i H, L (m + 1) a b i H = pLen a fun t13 => pBin .lss i t13 fun t14 => pCond t14 (pIadr w a i fun t19 => pLoad true w t19 H fun t20 => pIadr w b i fun t23 => pLoad true w t23 H fun t24 => (PR n β).call tb (.fn g [] []) [t20, t24] H fun t25 H => pUn .not t25 fun t26 => pCond t26 (k (.sc (.bool false)) H) (pBin .add i (.sc (.int .i64 1)) fun t16 => L m a b t16 H)) (k (.sc (.bool true)) H))
  (l : List α) (heq : ∀ x ∈ l, tree E0 n tb g [.agg (enc x), .agg (enc x)] = some (.sc (.bool true))) (hlen : l.length ≤ 1048576) (H : Heap) : ∀ (r pre : List α) (m : Nat), l = pre ++ r → r.length < m →
   L m (.ro l.length (l.map enc).flatten) (.ro l.length (l.map enc).flatten) (.sc (.int .i64 pre.length)) H = k (.sc (.bool true)) H
 | [], pre, m + 1, hl, hm => by
  rw [List.append_nil] at hl
  subst hl
  rw [hL, len_ro, lss_nat, cond_b]
  simp
 | x :: r, pre, m + 1, hl, hm => by
  have hlt : pre.length < l.length := by rw [hl]; simp
  rw [hL, len_ro, lss_nat, cond_b, if_pos (by simpa using hlt)]
  have hel := fun k => el_ro (β := β) hw h0 pre x r k
  rw [← hl] at hel
  rw [hel, ld_rp w _ _ _ _ (hw x), hel, ld_rp w _ _ _ _ (hw x)]
  rw [PR_call (vs := [.agg (enc x), .agg (enc x)]) hh (by simp only [List.mapM_cons, (Vw_agg _ (hfl x)).now]; rfl) (heq x (by rw [hl]; simp))]
  rw [instT_sc]
  simp only [pUn, Bool.not_true, List.append_nil]
  rw [cond_b, if_neg (by simp), inc_nat _ _ (by omega)]
  have ih := eq_loop enc k hw h0 hfl hh L hL l heq hlen H r (pre ++ [x]) m (by rw [hl]; simp) (by simpa using hm)
  rw [List.length_append, List.length_singleton] at ih
  exact ih
theorem neq_nat (a b : Nat) (k : AV → Option β) : pBin .neq (.sc (.int .i64 a)) (.sc (.int .i64 b)) k = k (.sc (.bool (decide (a ≠ b)))) := by
 show k (.sc (.bool ((a : Int) != (b : Int)))) = _
 congr 3
 by_cases h : a = b
 ·subst h; simp
 ·simp [bne, h]; omega
theorem eq_slice {α : Type} {n tb f g w : Nat} (enc : α → List AV) (hw : ∀ x, (enc x).length = w) (h0 : 0 < w) (hfl : ∀ x, (enc x).all isFl = true) (hh : plainF g = false) (L : (AV → Heap → Option AV) → Nat → AV → AV → AV → Heap → Option AV)
  (hL : ∀ k m a b i H, L k (m + 1) a b i H = pLen a fun t13 => pBin .lss i t13 fun t14 => pCond t14 (pIadr w a i fun t19 => pLoad true w t19 H fun t20 => pIadr w b i fun t23 => pLoad true w t23 H fun t24 => (PR n AV).call tb (.fn g [] []) [t20, t24] H fun t25 H => pUn .not t25 fun t26 => pCond t26 (k (.sc (.bool false)) H) (pBin .add i (.sc (.int .i64 1)) fun t16 => L k m a b t16 H)) (k (.sc (.bool true)) H))
  (hF : ∀ a b H k, evalFn E0 (n + 1) AV f [a, b] H k = pLen a fun t7 => pLen b fun t9 => pBin .neq t7 t9 fun t10 => pCond t10 (k (.sc (.bool false)) H) (L k n a b (.sc (.int .i64 0)) H))
  (l : List α) (heq : ∀ x ∈ l, tree E0 n tb g [.agg (enc x), .agg (enc x)] = some (.sc (.bool true))) (hlen : l.length ≤ 1048576) (hn : 1048576 < n) (tb' : Nat) :
  tree E0 (n + 1) tb' f [.ro l.length (l.map enc).flatten, .ro l.length (l.map enc).flatten] = some (.sc (.bool true)) := by
 rw [tree_def, hF, len_ro, len_ro, neq_nat, cond_b, if_neg (by simp)]
 have key := eq_loop (n := n) (tb := tb) (g := g) enc (fun x H => ownTree ti0 E0.tp tb' H x) hw h0 hfl hh (L fun x H => ownTree ti0 E0.tp tb' H x) (hL fun x H => ownTree ti0 E0.tp tb' H x) l heq hlen [] l [] n (by simp) (by omega)
 simp only [List.length_nil, Int.natCast_zero] at key
 rw [key]
 rfl
theorem eqf_loop {α : Type} {n : Nat} (e : α → Value) (k : AV → Heap → Option β) (hne : ∀ (x : α) (γ : Type) (k : AV → Option γ), pBin .neq (.sc (e x)) (.sc (e x)) k = k (.sc (.bool false))) (L : Nat → AV → AV → AV → Heap → Option β)
  (hL : ∀ m a b i H, L (m + 1) a b i H = pLen a fun t13 => pBin .lss i t13 fun t14 => pCond t14 (pIadr 1 a i fun t19 => pLoad false 1 t19 H fun t20 => pIadr 1 b i fun t23 => pLoad false 1 t23 H fun t24 => pBin .neq t20 t24 fun t25 => pCond t25 (k (.sc (.bool false)) H) (pBin .add i (.sc (.int .i64 1)) fun t16 => L m a b t16 H)) (k (.sc (.bool true)) H))
  (l : List α) (hlen : l.length ≤ 1048576) (H : Heap) : ∀ (r pre : List α) (m : Nat), l = pre ++ r → r.length < m →
   L m (.ro l.length (l.map fun x => .sc (e x))) (.ro l.length (l.map fun x => .sc (e x))) (.sc (.int .i64 pre.length)) H = k (.sc (.bool true)) H
 | [], pre, m + 1, hl, hm => by
  rw [List.append_nil] at hl
  subst hl
  rw [hL, len_ro, lss_nat, cond_b]
  simp
 | x :: r, pre, m + 1, hl, hm => by
  have hlt : pre.length < l.length := by rw [hl]; simp
  rw [hL, len_ro, lss_nat, cond_b, if_pos (by simpa using hlt)]
  have hd : (l.map fun x => AV.sc (e x)).drop (pre.length * 1) = .sc (e x) :: r.map fun x => .sc (e x) := by
   rw [Nat.mul_one, hl, List.map_append, List.drop_append_of_le_length (by simp)]
   rw [show pre.length = (pre.map fun x => AV.sc (e x)).length by simp, List.drop_length]
   rfl
  rw [iadr_ro 1 _ _ pre.length _ hlt (by simpa using hlt), hd, ld1_rp, iadr_ro 1 _ _ pre.length _ hlt (by simpa using hlt), hd, ld1_rp, hne, cond_b, if_neg (by simp), inc_nat _ _ (by omega)]
  have ih := eqf_loop (n := n) e k hne L hL l hlen H r (pre ++ [x]) m (by rw [hl]; simp) (by simpa using hm)
  rw [List.length_append, List.length_singleton] at ih
  exact ih
theorem eq_flat {α : Type} {n f : Nat} (e : α → Value) (hne : ∀ (x : α) (γ : Type) (k : AV → Option γ), pBin .neq (.sc (e x)) (.sc (e x)) k = k (.sc (.bool false))) (L : (AV → Heap → Option AV) → Nat → AV → AV → AV → Heap → Option AV)
  (hL : ∀ k m a b i H, L k (m + 1) a b i H = pLen a fun t13 => pBin .lss i t13 fun t14 => pCond t14 (pIadr 1 a i fun t19 => pLoad false 1 t19 H fun t20 => pIadr 1 b i fun t23 => pLoad false 1 t23 H fun t24 => pBin .neq t20 t24 fun t25 => pCond t25 (k (.sc (.bool false)) H) (pBin .add i (.sc (.int .i64 1)) fun t16 => L k m a b t16 H)) (k (.sc (.bool true)) H))
  (hF : ∀ a b H k, evalFn E0 (n + 1) AV f [a, b] H k = pLen a fun t7 => pLen b fun t9 => pBin .neq t7 t9 fun t10 => pCond t10 (k (.sc (.bool false)) H) (L k n a b (.sc (.int .i64 0)) H))
  (l : List α) (hlen : l.length ≤ 1048576) (hn : 1048576 < n) (tb' : Nat) :
  tree E0 (n + 1) tb' f [.ro l.length (l.map fun x => .sc (e x)), .ro l.length (l.map fun x => .sc (e x))] = some (.sc (.bool true)) := by
 rw [tree_def, hF, len_ro, len_ro, neq_nat, cond_b, if_neg (by simp)]
 have key := eqf_loop (n := n) e (fun x H => ownTree ti0 E0.tp tb' H x) hne (L fun x H => ownTree ti0 E0.tp tb' H x) (hL fun x H => ownTree ti0 E0.tp tb' H x) l hlen [] l [] n (by simp) (by omega)
 simp only [List.length_nil, Int.natCast_zero] at key
 rw [key]
 rfl
def szR (w : Nat) (left : Int) : Int := if left < w then -1 else left - w
def wtL {α : Type} (wt : α → Nat) : List α → Nat
 | [] => 0
 | x :: l => 1 + wt x + wtL wt l
def wtS {α : Type} (wt : α → Nat) : List α → Nat
 | [] => 0
 | x :: l => wt x + wtS wt l
theorem wtL_eq {α : Type} (wt : α → Nat) : ∀ l : List α, wtL wt l = l.length + wtS wt l
 | [] => rfl
 | x :: l => by rw [wtL, wtS, wtL_eq wt l, List.length_cons]; omega
theorem wtS_mem {α : Type} {wt : α → Nat} : ∀ {l : List α} {x : α}, x ∈ l → wt x ≤ wtS wt l
 | y :: l, x, h => by
  rw [wtS]
  rcases List.mem_cons.1 h with rfl | h
  ·omega
  ·have := wtS_mem (wt := wt) h
   omega
theorem sz_loop {α : Type} {n ty g w : Nat} (enc : α → List AV) (wt : α → Nat) (k : AV → Heap → Option β) (hw : ∀ x, (enc x).length = w) (h0 : 0 < w) (hfl : ∀ x, (enc x).all isFl = true) (hh : plainF g = false) (L : Nat → AV → AV → AV → Heap → Option β)
  (hL : ∀ m a l i H, L (m + 1) a l i H = pLen a fun t14 => pBin .lss i t14 fun t15 => pCond t15 (pIadr w a i fun t20 => pLoad true w t20 H fun t21 => (PR n β).call ty (.fn g [] []) [t21, l] H fun t23 H => pBin .lss t23 (.sc (.int .i64 0)) fun t25 => pCond t25 (k (.sc (.int .i64 (-1))) H) (pBin .add i (.sc (.int .i64 1)) fun t17 => L m a t23 t17 H)) (k l H))
  (l : List α) (hsz : ∀ x ∈ l, ∀ left : Int, 0 ≤ left → left ≤ 1048576 → tree E0 n ty g [.agg (enc x), .sc (.int .i64 left)] = some (.sc (.int .i64 (szR (wt x) left)))) (hlen : l.length ≤ 1048576) (H : Heap) : ∀ (r pre : List α) (m : Nat) (left : Int), 0 ≤ left → left ≤ 1048576 → l = pre ++ r → r.length < m →
   L m (.ro l.length (l.map enc).flatten) (.sc (.int .i64 left)) (.sc (.int .i64 pre.length)) H = k (.sc (.int .i64 (szR (wtS wt r) left))) H
 | [], pre, m + 1, left, hl0, hl1, hl, hm => by
  rw [List.append_nil] at hl
  subst hl
  rw [hL, len_ro, lss_nat, cond_b]
  have : szR (wtS wt []) left = left := by simp [szR, wtS]; omega
  rw [this]
  simp
 | x :: r, pre, m + 1, left, hl0, hl1, hl, hm => by
  have hlt : pre.length < l.length := by rw [hl]; simp
  rw [hL, len_ro, lss_nat, cond_b, if_pos (by simpa using hlt)]
  have hel := fun k => el_ro (β := β) hw h0 pre x r k
  rw [← hl] at hel
  rw [hel, ld_rp w _ _ _ _ (hw x)]
  rw [PR_call (vs := [.agg (enc x), .sc (.int .i64 left)]) hh (by simp only [List.mapM_cons, (Vw_agg _ (hfl x)).now]; rfl) (hsz x (by rw [hl]; simp) left hl0 hl1)]
  rw [instT_sc]
  simp only [List.append_nil]
  rw [lss64, cond_b]
  by_cases hs : left < wt x
  ·have e1 : szR (wt x) left = -1 := by simp [szR, hs]
   have e2 : szR (wtS wt (x :: r)) left = -1 := by
    rw [wtS, szR, if_pos]; omega
   rw [e1, e2]
   simp
  ·have e1 : szR (wt x) left = left - wt x := by simp [szR, hs]
   have e2 : szR (wtS wt (x :: r)) left = szR (wtS wt r) (left - wt x) := by
    unfold szR
    rw [wtS]
    by_cases h : left < ((wt x + wtS wt r : Nat) : Int)
    ·rw [if_pos h, if_pos (by omega)]
    ·rw [if_neg h, if_neg (by omega)]; omega
   rw [e1, e2, if_neg (by simp; omega), inc_nat _ _ (by omega)]
   have ih := sz_loop enc wt k hw h0 hfl hh L hL l hsz hlen H r (pre ++ [x]) m (left - wt x) (by omega) (by omega) (by rw [hl]; simp) (by simpa using hm)
   rw [List.length_append, List.length_singleton] at ih
   exact ih
theorem sz_slice {α : Type} {n ty f g w : Nat} (enc : α → List AV) (wt : α → Nat) (hw : ∀ x, (enc x).length = w) (h0 : 0 < w) (hfl : ∀ x, (enc x).all isFl = true) (hh : plainF g = false) (L : (AV → Heap → Option AV) → Nat → AV → AV → AV → Heap → Option AV)
  (hL : ∀ k m a l i H, L k (m + 1) a l i H = pLen a fun t14 => pBin .lss i t14 fun t15 => pCond t15 (pIadr w a i fun t20 => pLoad true w t20 H fun t21 => (PR n AV).call ty (.fn g [] []) [t21, l] H fun t23 H => pBin .lss t23 (.sc (.int .i64 0)) fun t25 => pCond t25 (k (.sc (.int .i64 (-1))) H) (pBin .add i (.sc (.int .i64 1)) fun t17 => L k m a t23 t17 H)) (k l H))
  (hF : ∀ a b H k, evalFn E0 (n + 1) AV f [a, b] H k = pLen a fun t8 => pBin .sub b t8 fun t9 => pBin .lss t9 (.sc (.int .i64 0)) fun t11 => pCond t11 (k (.sc (.int .i64 (-1))) H) (L k n a t9 (.sc (.int .i64 0)) H))
  (l : List α) (hsz : ∀ x ∈ l, ∀ left : Int, 0 ≤ left → left ≤ 1048576 → tree E0 n ty g [.agg (enc x), .sc (.int .i64 left)] = some (.sc (.int .i64 (szR (wt x) left)))) (hmax : l.length ≤ 9223372036854775807) (hn : 1048576 < n) (left : Int) (hl0 : 0 ≤ left) (hl1 : left ≤ 1048576) (ty' : Nat) :
  tree E0 (n + 1) ty' f [.ro l.length (l.map enc).flatten, .sc (.int .i64 left)] = some (.sc (.int .i64 (szR (wtL wt l) left))) := by
 rw [tree_def, hF, len_ro, sub64 _ _ _ (by omega) (by omega), lss64, cond_b]
 by_cases h : left - (l.length : Int) < 0
 ·have e : szR (wtL wt l) left = -1 := by rw [wtL_eq, szR, if_pos]; omega
  rw [if_pos (by simpa using h), e]
  rfl
 ·have e : szR (wtL wt l) left = szR (wtS wt l) (left - l.length) := by
   rw [wtL_eq]
   unfold szR
   by_cases h : left < ((l.length + wtS wt l : Nat) : Int)
   ·rw [if_pos h, if_pos (by omega)]
   ·rw [if_neg h, if_neg (by omega)]; omega
  rw [if_neg (by simpa using h), e]
  have key := sz_loop (n := n) (ty := ty) (g := g) enc wt (fun x H => ownTree ti0 E0.tp ty' H x) hw h0 hfl hh (L fun x H => ownTree ti0 E0.tp ty' H x) (hL fun x H => ownTree ti0 E0.tp ty' H x) l hsz (by omega) [] l [] n (left - l.length) (by omega) (by omega) (by simp) (by omega)
  simp only [List.length_nil, Int.natCast_zero] at key
  rw [key]
  rfl
theorem sz_len {n f : Nat} (hF : ∀ a b H k, evalFn E0 (n + 1) AV f [a, b] H k = pLen a fun t8 => pBin .sub b t8 fun t9 => pBin .lss t9 (.sc (.int .i64 0)) fun t11 => pCond t11 (k (.sc (.int .i64 (-1))) H) (k t9 H))
  (len : Nat) (cells : List AV) (hmax : len ≤ 9223372036854775807) (left : Int) (hl0 : 0 ≤ left) (hl1 : left ≤ 1048576) (ty' : Nat) :
  tree E0 (n + 1) ty' f [.ro len cells, .sc (.int .i64 left)] = some (.sc (.int .i64 (szR len left))) := by
 rw [tree_def, hF, len_ro, sub64 _ _ _ (by omega) (by omega), lss64, cond_b]
 by_cases h : left - (len : Int) < 0
 ·have e : szR len left = -1 := by rw [szR, if_pos]; omega
  rw [if_pos (by simpa using h), e]
  rfl
 ·have e : szR len left = left - len := by rw [szR, if_neg]; omega
  rw [if_neg (by simpa using h), e]
  rfl
end ops
end Go.Proofs.YtdameggfgnpehaaGreatDoor.Abs
set_option linter.unusedVariables false
set_option linter.unusedSimpArgs false
namespace Go.Proofs.YtdameggfgnpehaaGreatDoor.Abs
open Go
variable {β : Type} {n : Nat}
theorem box_fl (cs : List AV) (H : Heap) (k : AV → Heap → Option β) (h : cs.all isFl = true) : pBox (.agg cs) H k = k (.ptr H.length 0) (H ++ [⟨cs, true, true⟩]) := by
 rw [pBox, fl_cells h]
 rfl
theorem ldT {m id off : Nat} {H : Heap} {cs : List AV} (h : rdCells H id off m = some cs) (k : AV → Option β) : pLoad true m (.ptr id off) H k = k (.agg cs) := by
 simp only [pLoad, h, Option.bind_some, if_true]
theorem ldF {id off : Nat} {H : Heap} {c : AV} (h : rdCells H id off 1 = some [c]) (k : AV → Option β) : pLoad false 1 (.ptr id off) H k = k c := by
 simp only [pLoad, h, Option.bind_some, Bool.false_eq_true, if_false, one]
noncomputable def FrB (b0 b1 : Blk) (ts : List Nat) (cs z : List AV) : Heap := b0 :: b1 :: ⟨(instL ti0 E0.tp 3 ts cs).1 ++ z, true, true⟩ :: (instL ti0 E0.tp 3 ts cs).2
theorem fr_put {b0 b1 : Blk} {ts : List Nat} {cs z0 z : List AV} {w o : Nat} {y : AV} {ys : List AV} {B : List Blk} {ts' : List Nat} {cs' : List AV} (hl : ts.length = cs.length) (ho : o = cs.length) (hw : z0.length = w) (hc : cellsA y = some ys) (hy : ys.length = w)
  (hB : instL ti0 E0.tp (3 + (instL ti0 E0.tp 3 ts cs).2.length) ts' cs' = (ys, B)) (K : Heap → Option β) :
  pStore w (.ptr 2 o) y (FrB b0 b1 ts cs (z0 ++ z) ++ B) K = K (FrB b0 b1 (ts ++ ts') (cs ++ cs') z) := by
 have hP : (instL ti0 E0.tp 3 ts cs).1.length = cs.length := instL_len _ _ _
 rw [st_at w 2 o y ⟨(instL ti0 E0.tp 3 ts cs).1 ++ (z0 ++ z), true, true⟩ ys _ _ rfl hc hy (by simp [hP, ho, hw]) rfl]
 congr 1
 have hs : splice ((instL ti0 E0.tp 3 ts cs).1 ++ (z0 ++ z)) o ys = (instL ti0 E0.tp 3 ts cs).1 ++ (ys ++ z) := by
  rw [ho, ← hP]
  exact splice_mid _ _ _ _ (by rw [hw, hy])
 simp only [FrB, List.cons_append, List.set_cons_succ, List.set_cons_zero, hs, instL_append ts cs ts' cs' 3 hl, hB, List.append_assoc]
theorem to_sc {b0 b1 : Blk} {ts : List Nat} {cs z z' : List AV} {o : Nat} {t : Nat} {v : Value} {c : AV} {K : Heap → Option β} {r : Option β} (hr : rdCells (FrB b0 b1 ts cs z) 0 o 1 = some [.sc v]) (hv : leafV v = true) (hl : ts.length = cs.length) (ho : o = cs.length) (hz : z = c :: z')
  (h : K (FrB b0 b1 (ts ++ [t]) (cs ++ [.sc v]) z') = r) :
  (pFadr o (.ptr 0 0) fun t4 => pLoad false 1 t4 (FrB b0 b1 ts cs z) fun t5 => pFadr o (.ptr 2 0) fun t6 => pStore 1 t6 t5 (FrB b0 b1 ts cs z) fun H => K H) = r := by
 subst hz
 simp only [pFadr, Nat.zero_add]
 rw [ldF hr]
 have := fr_put (β := β) (b0 := b0) (b1 := b1) (ts := ts) (cs := cs) (z0 := [c]) (z := z') (w := 1) (o := o) (y := .sc v) (ys := [.sc v]) (B := []) (ts' := [t]) (cs' := [.sc v]) hl ho rfl (by simp only [cellsA, isLeaf, hv, if_true]) rfl (by simp [instL, instT]) K
 rw [List.append_nil] at this
 exact this.trans h
theorem to_ro {b0 b1 : Blk} {ts : List Nat} {cs z z' : List AV} {o t g len : Nat} {c : AV} {cells : List AV} {K : Heap → Option β} {r : Option β} (hr : rdCells (FrB b0 b1 ts cs z) 0 o 1 = some [.ro len cells]) (hh : plainF g = false) (ht : tree E0 n t g [.ro len cells] = some (.ro len cells)) (hl : ts.length = cs.length) (ho : o = cs.length) (hz : z = c :: z')
  (h : K (FrB b0 b1 (ts ++ [t]) (cs ++ [.ro len cells]) z') = r) :
  (pFadr o (.ptr 0 0) fun t4 => pLoad false 1 t4 (FrB b0 b1 ts cs z) fun t5 => (PR n β).call t (.fn g [] []) [t5] (FrB b0 b1 ts cs z) fun t9 H => pFadr o (.ptr 2 0) fun t6 => pStore 1 t6 t9 H fun H => K H) = r := by
 subst hz
 simp only [pFadr, Nat.zero_add]
 rw [ldF hr, PR_call (vs := [.ro len cells]) hh (by simp only [List.mapM_cons, viewV_ro]; rfl) ht]
 have hH : (FrB b0 b1 ts cs (c :: z')).length = 3 + (instL ti0 E0.tp 3 ts cs).2.length := by simp [FrB]; omega
 rw [hH]
 have hi : ∀ N, ∃ s : AV, isLeaf s = true ∧ (instT ti0 E0.tp N t (.ro len cells)).1 = s ∧ cellsA s = some [s] := fun N => by
  refine ⟨_, ?_, rfl, ?_⟩ <;> simp [instT, isLeaf, cellsA]
 obtain ⟨s, _, hs, hc⟩ := hi (3 + (instL ti0 E0.tp 3 ts cs).2.length)
 have := fr_put (β := β) (b0 := b0) (b1 := b1) (ts := ts) (cs := cs) (z0 := [c]) (z := z') (w := 1) (o := o) (y := s) (ys := [s]) (ts' := [t]) (cs' := [.ro len cells]) (B := (instT ti0 E0.tp (3 + (instL ti0 E0.tp 3 ts cs).2.length) t (.ro len cells)).2) hl ho rfl hc rfl (by simp only [instL, List.headD_cons, List.append_nil, hs]) K
 rw [hs]
 exact this.trans h
theorem to_agg {b0 b1 : Blk} {ts cty : List Nat} {cs z z0 z' : List AV} {o t g w : Nat} {cells : List AV} {K : Heap → Option β} {r : Option β} (hr : rdCells (FrB b0 b1 ts cs z) 0 o w = some cells) (hh : plainF g = false) (hfl : cells.all isFl = true) (ht : tree E0 n t g [.agg cells] = some (.agg cells)) (hty : ∃ i, ti0 t = some i ∧ i.cty = cty) (hw : cells.length = w) (hl : ts.length = cs.length) (ho : o = cs.length) (hz : z = z0 ++ z') (hz0 : z0.length = w)
  (h : K (FrB b0 b1 (ts ++ cty) (cs ++ cells) z') = r) :
  (pFadr o (.ptr 0 0) fun t4 => pLoad true w t4 (FrB b0 b1 ts cs z) fun t5 => (PR n β).call t (.fn g [] []) [t5] (FrB b0 b1 ts cs z) fun t9 H => pFadr o (.ptr 2 0) fun t6 => pStore w t6 t9 H fun H => K H) = r := by
 subst hz
 obtain ⟨i, hi, rfl⟩ := hty
 simp only [pFadr, Nat.zero_add]
 rw [ldT hr, PR_call (vs := [.agg cells]) hh (by rw [List.mapM_cons, (Vw_agg _ hfl).now]; rfl) ht]
 have hH : (FrB b0 b1 ts cs (z0 ++ z')).length = 3 + (instL ti0 E0.tp 3 ts cs).2.length := by simp [FrB]; omega
 rw [hH, instT_agg, hi, Option.getD_some]
 have hleaf := instL_leaf (ti := ti0) (tp := E0.tp) cells (3 + (instL ti0 E0.tp 3 ts cs).2.length) i.cty hfl
 have hlen := instL_len (ti := ti0) (tp := E0.tp) (3 + (instL ti0 E0.tp 3 ts cs).2.length) i.cty cells
 have := fr_put (β := β) (b0 := b0) (b1 := b1) (ts := ts) (cs := cs) (z0 := z0) (z := z') (w := w) (o := o) (y := .agg (instL ti0 E0.tp (3 + (instL ti0 E0.tp 3 ts cs).2.length) i.cty cells).1) (ys := (instL ti0 E0.tp (3 + (instL ti0 E0.tp 3 ts cs).2.length) i.cty cells).1) (ts' := i.cty) (cs' := cells) (B := (instL ti0 E0.tp (3 + (instL ti0 E0.tp 3 ts cs).2.length) i.cty cells).2) hl ho hz0 (by
  show (if _ then _ else none) = _
  rw [if_pos hleaf]) (by rw [hlen, hw]) rfl K
 exact this.trans h
theorem to_end {b0 : Blk} {z1 cells : List AV} {cty : List Nat} {w ty : Nat} (hw : cells.length = w) (hz : z1.length = w) (hfl : cells.all isFl = true) (hty : ∃ i, ti0 ty = some i ∧ i.cty = cty) (hok : okLW (okW ti0 E0.tp 7) cty cells) :
  (pLoad true w (.ptr 2 0) (FrB b0 ⟨z1, true, true⟩ cty cells []) fun t14 => pStore w (.ptr 1 0) t14 (FrB b0 ⟨z1, true, true⟩ cty cells []) fun H => pLoad true w (.ptr 1 0) H fun r0 => ownTree ti0 E0.tp ty H r0) = some (.agg cells) := by
 obtain ⟨i, hi, rfl⟩ := hty
 have hlen := instL_len (ti := ti0) (tp := E0.tp) 3 i.cty cells
 have hleaf := instL_leaf (ti := ti0) (tp := E0.tp) cells 3 i.cty hfl
 have h1 : rdCells (FrB b0 ⟨z1, true, true⟩ i.cty cells []) 2 0 w = some (instL ti0 E0.tp 3 i.cty cells).1 := by
  simp [rdCells, FrB, hlen, hw, List.take_of_length_le]
 rw [ldT h1]
 have hc : cellsA (.agg (instL ti0 E0.tp 3 i.cty cells).1) = some (instL ti0 E0.tp 3 i.cty cells).1 := by
  show (if _ then _ else none) = _
  rw [if_pos hleaf]
 rw [st_at w 1 0 _ ⟨z1, true, true⟩ _ _ _ rfl hc (by rw [hlen, hw]) (by simp [hz]) rfl]
 have hs : splice z1 0 (instL ti0 E0.tp 3 i.cty cells).1 = (instL ti0 E0.tp 3 i.cty cells).1 := by
  unfold splice
  rw [List.take_zero, List.nil_append, List.drop_of_length_le (by rw [hlen, hw, hz]; omega), List.append_nil]
 simp only [hs]
 have h2 : rdCells ((FrB b0 ⟨z1, true, true⟩ i.cty cells []).set 1 ⟨(instL ti0 E0.tp 3 i.cty cells).1, true, true⟩) 1 0 w = some (instL ti0 E0.tp 3 i.cty cells).1 := by
  simp [rdCells, FrB, hlen, hw, List.take_of_length_le]
 rw [ldT h2]
 have hok' : okW ti0 E0.tp 8 ty (.agg cells) := ⟨i, hi, hok⟩
 have := own_ret [b0, ⟨(instL ti0 E0.tp 3 i.cty cells).1, true, true⟩, ⟨(instL ti0 E0.tp 3 i.cty cells).1 ++ [], true, true⟩] ty _ hok'
 rw [instT_agg, hi] at this
 exact this
noncomputable def StB (T : List Nat) (C Z : List AV) (o : Nat) : Heap := FrB ⟨C, true, true⟩ ⟨Z, true, true⟩ (T.take o) (C.take o) (Z.drop o)
theorem StB_rd {T : List Nat} {C Z : List AV} {o p w : Nat} {cs : List AV} (h : (C.drop p).take w = cs) (hl : cs.length = w) (hw : 0 < w) : rdCells (StB T C Z o) 0 p w = some cs := by
 have hle : p + w ≤ C.length := by
  have := congrArg List.length h
  rw [hl, List.length_take, List.length_drop] at this
  omega
 show (match (some ⟨C, true, true⟩ : Option Blk) with | some b => if b.live then (if p + w ≤ b.cells.length then some ((b.cells.drop p).take w) else none) else none | none => none) = _
 simp only [if_true, hle, h]
theorem one_of {C : List AV} {o : Nat} {c : AV} (h : C[o]? = some c) : (C.drop o).take 1 = [c] := by
 obtain ⟨hlt, e⟩ := List.getElem?_eq_some_iff.1 h
 rw [List.drop_eq_getElem_cons hlt, e]
 rfl
theorem take_w {α : Type} {T : List α} {o w o' : Nat} {c : List α} (h : (T.drop o).take w = c) (ho : o' = o + w) : T.take o' = T.take o ++ c := by
 rw [ho, List.take_add, h]
theorem st_sc {T : List Nat} {C Z : List AV} {o o' : Nat} {v : Value} {K : Heap → Option β} {r : Option β} (hT : T.length = C.length) (hZ : Z.length = C.length) (hC : C[o]? = some (.sc v)) (hv : leafV v = true) (ho : o' = o + 1) (h : K (StB T C Z o') = r) :
  (pFadr o (.ptr 0 0) fun t4 => pLoad false 1 t4 (StB T C Z o) fun t5 => pFadr o (.ptr 2 0) fun t6 => pStore 1 t6 t5 (StB T C Z o) fun H => K H) = r := by
 obtain ⟨hlt, _⟩ := List.getElem?_eq_some_iff.1 hC
 have hz : Z.drop o = Z[o]'(by omega) :: Z.drop o' := by rw [ho]; exact List.drop_eq_getElem_cons _
 refine to_sc (t := T[o]'(by omega)) (z' := Z.drop o') (StB_rd (one_of hC) rfl (by decide)) hv (by simp [hT]) (by simp; omega) hz ?_
 have e1 : T.take o' = T.take o ++ [T[o]'(by omega)] := take_w (w := 1) (by rw [List.drop_eq_getElem_cons (by omega)]; rfl) ho
 have e2 : C.take o' = C.take o ++ [.sc v] := take_w (one_of hC) ho
 rw [← e1, ← e2]
 exact h
theorem st_ro {T : List Nat} {C Z : List AV} {o o' t g len : Nat} {cells : List AV} {K : Heap → Option β} {r : Option β} (hT : T.length = C.length) (hZ : Z.length = C.length) (hC : C[o]? = some (.ro len cells)) (hTt : T[o]? = some t) (hh : plainF g = false) (ht : tree E0 n t g [.ro len cells] = some (.ro len cells)) (ho : o' = o + 1) (h : K (StB T C Z o') = r) :
  (pFadr o (.ptr 0 0) fun t4 => pLoad false 1 t4 (StB T C Z o) fun t5 => (PR n β).call t (.fn g [] []) [t5] (StB T C Z o) fun t9 H => pFadr o (.ptr 2 0) fun t6 => pStore 1 t6 t9 H fun H => K H) = r := by
 obtain ⟨hlt, _⟩ := List.getElem?_eq_some_iff.1 hC
 obtain ⟨hlt2, hTe⟩ := List.getElem?_eq_some_iff.1 hTt
 have hz : Z.drop o = Z[o]'(by omega) :: Z.drop o' := by rw [ho]; exact List.drop_eq_getElem_cons _
 refine to_ro (z' := Z.drop o') (StB_rd (one_of hC) rfl (by decide)) hh ht (by simp [hT]) (by simp; omega) hz ?_
 have e1 : T.take o' = T.take o ++ [t] := take_w (w := 1) (by rw [List.drop_eq_getElem_cons hlt2, hTe]; rfl) ho
 have e2 : C.take o' = C.take o ++ [.ro len cells] := take_w (one_of hC) ho
 rw [← e1, ← e2]
 exact h
theorem st_agg {T cty : List Nat} {C Z : List AV} {o o' t g w : Nat} {cells : List AV} {K : Heap → Option β} {r : Option β} (hT : T.length = C.length) (hZ : Z.length = C.length) (hC : (C.drop o).take w = cells) (hTt : (T.drop o).take w = cty) (hh : plainF g = false) (hfl : cells.all isFl = true) (ht : tree E0 n t g [.agg cells] = some (.agg cells)) (hty : ∃ i, ti0 t = some i ∧ i.cty = cty) (hw : cells.length = w) (hw0 : 0 < w) (ho : o' = o + w) (h : K (StB T C Z o') = r) :
  (pFadr o (.ptr 0 0) fun t4 => pLoad true w t4 (StB T C Z o) fun t5 => (PR n β).call t (.fn g [] []) [t5] (StB T C Z o) fun t9 H => pFadr o (.ptr 2 0) fun t6 => pStore w t6 t9 H fun H => K H) = r := by
 have hle : o + w ≤ C.length := by
  have := congrArg List.length hC
  rw [hw, List.length_take, List.length_drop] at this
  omega
 have hz : Z.drop o = (Z.drop o).take w ++ Z.drop o' := by
  rw [ho]
  conv => lhs; rw [← List.take_append_drop w (Z.drop o)]
  rw [List.drop_drop]
 refine to_agg (z0 := (Z.drop o).take w) (z' := Z.drop o') (StB_rd hC hw hw0) hh hfl ht hty hw (by simp [hT]) (by simp; omega) hz (by simp; omega) ?_
 have e1 : T.take o' = T.take o ++ cty := take_w hTt ho
 have e2 : C.take o' = C.take o ++ cells := take_w hC ho
 rw [← e1, ← e2]
 exact h
theorem st_end {T : List Nat} {C Z : List AV} {w ty : Nat} (hT : T.length = C.length) (hZ : Z.length = C.length) (hw : C.length = w) (hfl : C.all isFl = true) (hty : ∃ i, ti0 ty = some i ∧ i.cty = T) (hok : okLW (okW ti0 E0.tp 7) T C) :
  (pLoad true w (.ptr 2 0) (StB T C Z w) fun t14 => pStore w (.ptr 1 0) t14 (StB T C Z w) fun H => pLoad true w (.ptr 1 0) H fun r0 => ownTree ti0 E0.tp ty H r0) = some (.agg C) := by
 have e : StB T C Z w = FrB ⟨C, true, true⟩ ⟨Z, true, true⟩ T C [] := by
  unfold StB
  rw [List.take_of_length_le (by omega), List.take_of_length_le (by omega), List.drop_of_length_le (by omega)]
 rw [e]
 exact to_end hw (by omega) hfl hty hok
theorem eq_sc {o : Nat} {H : Heap} {v : Value} {A K r : Option β} (h0 : rdCells H 0 o 1 = some [.sc v]) (h1 : rdCells H 1 o 1 = some [.sc v]) (hv : ∀ k : AV → Option β, pBin .neq (.sc v) (.sc v) k = k (.sc (.bool false))) (h : K = r) :
  (pFadr o (.ptr 0 0) fun t5 => pLoad false 1 t5 H fun t6 => pFadr o (.ptr 1 0) fun t7 => pLoad false 1 t7 H fun t8 => pBin .neq t6 t8 fun t9 => pCond t9 A K) = r := by
 simp only [pFadr, Nat.zero_add]
 rw [ldF h0, ldF h1, hv, cond_b]
 exact h
theorem eq_b {o : Nat} {H : Heap} {b : Bool} {A K r : Option β} (h0 : rdCells H 0 o 1 = some [.sc (.bool b)]) (h1 : rdCells H 1 o 1 = some [.sc (.bool b)]) (h : K = r) :
  (pFadr o (.ptr 0 0) fun t5 => pLoad false 1 t5 H fun t6 => pFadr o (.ptr 1 0) fun t7 => pLoad false 1 t7 H fun t8 => pBinB .neq t6 t8 fun t9 => pCond t9 A K) = r := by
 simp only [pFadr, Nat.zero_add]
 rw [ldF h0, ldF h1]
 simp only [pBinB, asB, Option.bind_some, binB, beq_self_eq_true, Bool.not_true]
 exact h
theorem eq_ro {o tb g : Nat} {H : Heap} {len : Nat} {cells : List AV} {A : Heap → Option β} {K : Heap → Option β} {r : Option β} (h0 : rdCells H 0 o 1 = some [.ro len cells]) (h1 : rdCells H 1 o 1 = some [.ro len cells]) (hh : plainF g = false) (ht : tree E0 n tb g [.ro len cells, .ro len cells] = some (.sc (.bool true))) (h : K H = r) :
  (pFadr o (.ptr 0 0) fun t5 => pLoad false 1 t5 H fun t6 => pFadr o (.ptr 1 0) fun t7 => pLoad false 1 t7 H fun t8 => (PR n β).call tb (.fn g [] []) [t6, t8] H fun t H => pUn .not t fun t9 => pCond t9 (A H) (K H)) = r := by
 simp only [pFadr, Nat.zero_add]
 rw [ldF h0, ldF h1, PR_call (vs := [.ro len cells, .ro len cells]) hh (by simp only [List.mapM_cons, viewV_ro]; rfl) ht, instT_sc, List.append_nil]
 exact h
theorem eq_agg {o tb g w : Nat} {H : Heap} {cells : List AV} {A : Heap → Option β} {K : Heap → Option β} {r : Option β} (h0 : rdCells H 0 o w = some cells) (h1 : rdCells H 1 o w = some cells) (hh : plainF g = false) (hfl : cells.all isFl = true) (ht : tree E0 n tb g [.agg cells, .agg cells] = some (.sc (.bool true))) (h : K H = r) :
  (pFadr o (.ptr 0 0) fun t5 => pLoad true w t5 H fun t6 => pFadr o (.ptr 1 0) fun t7 => pLoad true w t7 H fun t8 => (PR n β).call tb (.fn g [] []) [t6, t8] H fun t H => pUn .not t fun t9 => pCond t9 (A H) (K H)) = r := by
 simp only [pFadr, Nat.zero_add]
 rw [ldT h0, ldT h1, PR_call (vs := [.agg cells, .agg cells]) hh (by simp only [List.mapM_cons, (Vw_agg _ hfl).now]; rfl) ht, instT_sc, List.append_nil]
 exact h
theorem ne_int (z : Int) (k : AV → Option β) : pBin .neq (.sc (.int .i64 z)) (.sc (.int .i64 z)) k = k (.sc (.bool false)) := by
 show k (.sc (.bool (z != z))) = _
 rw [bne_self_eq_false]
theorem ne_str (s : ByteArray) (k : AV → Option β) : pBin .neq (.sc (.string s)) (.sc (.string s)) k = k (.sc (.bool false)) := by
 show k (.sc (.bool (!(s.toList == s.toList)))) = _
 rw [beq_self_eq_true, Bool.not_true]
theorem ne_u8 (z : Int) (k : AV → Option β) : pBin .neq (.sc (.int .u8 z)) (.sc (.int .u8 z)) k = k (.sc (.bool false)) := by
 show k (.sc (.bool (z != z))) = _
 rw [bne_self_eq_false]
def szA (W : Nat) (left : Int) : Option AV := some (.sc (.int .i64 (szR W left)))
theorem szR_cut {s W : Nat} {left : Int} (h : left < s) : szR (s + W) left = -1 := by rw [szR, if_pos]; omega
theorem szR_go {s W : Nat} {left : Int} (h : ¬ left < s) : szR (s + W) left = szR W (left - s) := by
 unfold szR
 by_cases h2 : left < ((s + W : Nat) : Int)
 ·rw [if_pos h2, if_pos (by omega)]
 ·rw [if_neg h2, if_neg (by omega)]; omega
theorem sz_str {o : Nat} {H : Heap} {s : ByteArray} {W : Nat} {left : Int} {A : Option AV} {K : AV → Option AV} (hr : rdCells H 0 o 1 = some [.sc (.string s)]) (h0 : 0 ≤ left) (h1 : left ≤ 1048576) (hs : s.size ≤ 9223372036854775807) (hA : A = some (.sc (.int .i64 (-1)))) (hK : 0 ≤ left - s.size → left - s.size ≤ 1048576 → K (.sc (.int .i64 (left - s.size))) = szA W (left - s.size)) :
  (pFadr o (.ptr 0 0) fun t6 => pLoad false 1 t6 H fun t7 => pLenS t7 fun t8 => pBin .sub (.sc (.int .i64 left)) t8 fun t9 => pBin .lss t9 (.sc (.int .i64 0)) fun t11 => pCond t11 A (K t9)) = szA (s.size + W) left := by
 simp only [pFadr, Nat.zero_add]
 rw [ldF hr]
 simp only [pLenS, asS, Option.bind_some]
 rw [sub64 _ _ _ (by omega) (by omega), lss64, cond_b]
 by_cases h : left < s.size
 ·rw [if_pos (by simpa using (show left - (s.size : Int) < 0 by omega)), hA, szA, szR_cut h]
 ·rw [if_neg (by simpa using (show ¬ left - (s.size : Int) < 0 by omega)), hK (by omega) (by omega), szA, szA, szR_go h]
theorem sz_ro {o ty g : Nat} {H : Heap} {len : Nat} {cells : List AV} {w W : Nat} {left : Int} {A : Heap → Option AV} {K : AV → Heap → Option AV} (hr : rdCells H 0 o 1 = some [.ro len cells]) (h0 : 0 ≤ left) (h1 : left ≤ 1048576) (hh : plainF g = false) (ht : tree E0 n ty g [.ro len cells, .sc (.int .i64 left)] = some (.sc (.int .i64 (szR w left)))) (hA : A H = some (.sc (.int .i64 (-1)))) (hK : 0 ≤ left - w → left - w ≤ 1048576 → K (.sc (.int .i64 (left - w))) H = szA W (left - w)) :
  (pFadr o (.ptr 0 0) fun t6 => pLoad false 1 t6 H fun t7 => (PR n AV).call ty (.fn g [] []) [t7, .sc (.int .i64 left)] H fun t15 H => pBin .lss t15 (.sc (.int .i64 0)) fun t11 => pCond t11 (A H) (K t15 H)) = szA (w + W) left := by
 simp only [pFadr, Nat.zero_add]
 rw [ldF hr, PR_call (vs := [.ro len cells, .sc (.int .i64 left)]) hh (by simp only [List.mapM_cons, viewV_ro, viewV_sc]; rfl) ht, instT_sc, List.append_nil]
 simp only
 rw [lss64, cond_b]
 by_cases h : left < w
 ·have e : szR w left = -1 := by rw [szR, if_pos h]
  rw [e, if_pos (by decide), hA, szA, szR_cut h]
 ·have e : szR w left = left - w := by rw [szR, if_neg h]
  rw [e, if_neg (by simpa using (show ¬ left - (w : Int) < 0 by omega)), hK (by omega) (by omega), szA, szA, szR_go h]
theorem sz_agg {o ty g wd : Nat} {H : Heap} {cells : List AV} {w W : Nat} {left : Int} {A : Heap → Option AV} {K : AV → Heap → Option AV} (hr : rdCells H 0 o wd = some cells) (h0 : 0 ≤ left) (h1 : left ≤ 1048576) (hh : plainF g = false) (hfl : cells.all isFl = true) (ht : tree E0 n ty g [.agg cells, .sc (.int .i64 left)] = some (.sc (.int .i64 (szR w left)))) (hA : A H = some (.sc (.int .i64 (-1)))) (hK : 0 ≤ left - w → left - w ≤ 1048576 → K (.sc (.int .i64 (left - w))) H = szA W (left - w)) :
  (pFadr o (.ptr 0 0) fun t6 => pLoad true wd t6 H fun t7 => (PR n AV).call ty (.fn g [] []) [t7, .sc (.int .i64 left)] H fun t15 H => pBin .lss t15 (.sc (.int .i64 0)) fun t11 => pCond t11 (A H) (K t15 H)) = szA (w + W) left := by
 simp only [pFadr, Nat.zero_add]
 rw [ldT hr, PR_call (vs := [.agg cells, .sc (.int .i64 left)]) hh (by simp only [List.mapM_cons, (Vw_agg _ hfl).now, viewV_sc]; rfl) ht, instT_sc, List.append_nil]
 simp only
 rw [lss64, cond_b]
 by_cases h : left < w
 ·have e : szR w left = -1 := by rw [szR, if_pos h]
  rw [e, if_pos (by decide), hA, szA, szR_cut h]
 ·have e : szR w left = left - w := by rw [szR, if_neg h]
  rw [e, if_neg (by simpa using (show ¬ left - (w : Int) < 0 by omega)), hK (by omega) (by omega), szA, szA, szR_go h]
theorem sz_end {left : Int} (h0 : 0 ≤ left) : some (AV.sc (.int .i64 left)) = szA 0 left := by
 rw [szA, szR, if_neg (by omega)]
 simp
abbrev bytesC (s : ByteArray) : AV := .ro s.size (bytesAV s)
abbrev intsC (l : List Int) : AV := .ro l.length (l.map fun z => .sc (.int .i64 z))
abbrev strsC (l : List ByteArray) : AV := .ro l.length (l.map fun s => .sc (.string s))
abbrev rowsC {α : Type} (enc : α → List AV) (l : List α) : AV := .ro l.length (l.map enc).flatten
def okI (z : Int) : Prop := -9223372036854775808 ≤ z ∧ z ≤ 9223372036854775807
def okS (s : ByteArray) : Prop := s.size ≤ 9223372036854775807
theorem okLW_flat {f : Nat → AV → Prop} {α : Type} (e : α → Value) (hf : ∀ t v, f t (.sc v)) : ∀ (ts : List Nat) (l : List α), ts.length = l.length → okLW f ts (l.map fun x => .sc (e x))
 | [], [], _ => trivial
 | t :: ts, x :: l, h => ⟨hf _ _, okLW_flat e hf ts l (by simpa using h)⟩
 | [], _ :: _, h => by simp at h
 | _ :: _, [], h => by simp at h
theorem okW_flat {α : Type} {ty d : Nat} (e : α → Value) (hty : ∃ i j, ti0 ty = some i ∧ ti0 i.elem = some j ∧ j.size = 1 ∧ j.cty.length = 1) (l : List α) : okW ti0 E0.tp (d + 2) ty (.ro l.length (l.map fun x => .sc (e x))) := by
 obtain ⟨i, j, h1, h2, h3, h4⟩ := hty
 exact ⟨i, j, h1, h2, by simp [h3], okLW_flat e (fun _ _ => trivial) _ l (by simp [h4])⟩
theorem okW_bytes {d ty : Nat} (hty : ∃ i j, ti0 ty = some i ∧ ti0 i.elem = some j ∧ j.size = 1 ∧ j.cty.length = 1) (s : ByteArray) : okW ti0 E0.tp (d + 2) ty (bytesC s) := by
 have := okW_flat (d := d) (fun b : UInt8 => .int .u8 b.toNat) hty s.data.toList
 have e : s.data.toList.length = s.size := by simp
 rw [e] at this
 exact this
theorem okW_rows {α : Type} {ty d w : Nat} {cty : List Nat} {enc : α → List AV} (hw : ∀ x, (enc x).length = w) (hty : ∃ i j, ti0 ty = some i ∧ ti0 i.elem = some j ∧ j.size = w ∧ j.cty = cty) (he : ∀ x, okLW (okW ti0 E0.tp d) cty (enc x)) (l : List α) : okW ti0 E0.tp (d + 1) ty (rowsC enc l) := by
 obtain ⟨i, j, h1, h2, h3, rfl⟩ := hty
 exact ⟨i, j, h1, h2, by rw [rows_len hw, h3], okLW_rows l fun x _ => he x⟩
theorem okT_rows {α : Type} {enc : α → List AV} {ok : α → Prop} {n t e : Nat} {cs : List AV} (hi : ∃ i, ti0 t = some i ∧ i.isB = false ∧ i.ik = none ∧ i.isStr = false ∧ i.sl = true ∧ i.elem = e) (hel : ∀ n cs, okT ti0 n e cs → ∃ x, cs = enc x ∧ ok x) (h : okT ti0 n t cs) :
  ∃ l : List α, cs = [rowsC enc l] ∧ l.length ≤ 9223372036854775807 ∧ ∀ x ∈ l, ok x := by
 cases n with
 | zero => cases h
 | succ n =>
  obtain ⟨i, h1, h2, h3, h4, h5, rfl⟩ := hi
  obtain ⟨i', hi', h⟩ := h
  rw [h1] at hi'
  obtain rfl := Option.some.inj hi'
  simp only [h2, h3, h4, h5] at h
  obtain ⟨rows, rfl, hl, hr⟩ := h
  have hm : maxLen = 9223372036854775807 := by decide
  rw [hm] at hl
  have key : ∀ rows : List (List AV), (∀ r ∈ rows, okT ti0 n i.elem r) → ∃ l : List α, rows = l.map enc ∧ ∀ x ∈ l, ok x := by
   intro rows
   induction rows with
   | nil => intro _; exact ⟨[], rfl, fun x h => by cases h⟩
   | cons r rows ih =>
    intro h
    obtain ⟨l, h1, h2⟩ := ih fun r hr => h r (List.mem_cons_of_mem _ hr)
    obtain ⟨x, hx, hox⟩ := hel n r (h r List.mem_cons_self)
    exact ⟨x :: l, by rw [h1, hx]; rfl, fun y hy => by rcases List.mem_cons.1 hy with rfl | hy; exact hox; exact h2 y hy⟩
  obtain ⟨l, rfl, h2⟩ := key rows hr
  exact ⟨l, by simp, by simpa using hl, h2⟩
theorem okT_str' {n : Nat} {cs : List AV} (h : okT ti0 n 9 cs) : ∃ s : ByteArray, cs = [.sc (.string s)] ∧ okS s := by
 cases n with
 | zero => cases h
 | succ n =>
  obtain ⟨i, hi, h⟩ := h
  obtain rfl := Option.some.inj (show some _ = some i from hi)
  have hm : maxLen = 9223372036854775807 := by decide
  obtain ⟨s, h1, h2⟩ := (show ∃ s : ByteArray, cs = [.sc (.string s)] ∧ s.size ≤ maxLen from h)
  exact ⟨s, h1, by rw [hm] at h2; exact h2⟩
theorem okT_int' {n : Nat} {cs : List AV} (h : okT ti0 n 3 cs) : ∃ z : Int, cs = [.sc (.int .i64 z)] ∧ okI z := by
 cases n with
 | zero => cases h
 | succ n =>
  obtain ⟨i, hi, h⟩ := h
  obtain rfl := Option.some.inj (show some _ = some i from hi)
  obtain ⟨z, h1, h2⟩ := (show ∃ z, cs = [.sc (.int .i64 z)] ∧ (Lit.int .i64 z).wf = true from h)
  refine ⟨z, h1, ?_⟩
  have hw' : IntKind.i64.min ≤ z ∧ z ≤ IntKind.i64.max := by simpa [Lit.wf] using h2
  have e1 : IntKind.i64.min = -9223372036854775808 := by decide
  have e2 : IntKind.i64.max = 9223372036854775807 := by decide
  rw [e1, e2] at hw'
  exact hw'
theorem okT_bool' {n : Nat} {cs : List AV} (h : okT ti0 n 4 cs) : ∃ b : Bool, cs = [.sc (.bool b)] := by
 cases n with
 | zero => cases h
 | succ n =>
  obtain ⟨i, hi, h⟩ := h
  obtain rfl := Option.some.inj (show some _ = some i from hi)
  exact h
theorem okT_byte' {n : Nat} {cs : List AV} (h : okT ti0 n 5 cs) : ∃ b : UInt8, cs = [.sc (.int .u8 b.toNat)] := by
 cases n with
 | zero => cases h
 | succ n =>
  obtain ⟨i, hi, h⟩ := h
  obtain rfl := Option.some.inj (show some _ = some i from hi)
  obtain ⟨z, rfl, hw⟩ := (show ∃ z, cs = [.sc (.int .u8 z)] ∧ (Lit.int .u8 z).wf = true from h)
  have hz : 0 ≤ z ∧ z < 256 := by
   have hw' : IntKind.u8.min ≤ z ∧ z ≤ IntKind.u8.max := by simpa [Lit.wf] using hw
   have e1 : IntKind.u8.min = 0 := by decide
   have e2 : IntKind.u8.max = 255 := by decide
   rw [e1, e2] at hw'
   omega
  refine ⟨UInt8.ofNat z.toNat, ?_⟩
  have : (UInt8.ofNat z.toNat).toNat = z.toNat := by simp [UInt8.toNat_ofNat']; omega
  rw [this, Int.toNat_of_nonneg hz.1]
theorem flat_one {α : Type} (e : α → AV) (l : List α) : (l.map fun x => [e x]).flatten = l.map e := by
 induction l with
 | nil => rfl
 | cons x l ih => rw [List.map_cons, List.flatten_cons, ih]; rfl
theorem okT_bytes' {n t : Nat} {cs : List AV} (hi : ∃ i, ti0 t = some i ∧ i.isB = false ∧ i.ik = none ∧ i.isStr = false ∧ i.sl = true ∧ i.elem = 5) (h : okT ti0 n t cs) : ∃ s : ByteArray, cs = [bytesC s] ∧ okS s := by
 obtain ⟨l, rfl, h1, _⟩ := okT_rows (α := UInt8) (enc := fun b => [.sc (.int .u8 b.toNat)]) (ok := fun _ => True) hi (fun n cs h => by obtain ⟨b, h⟩ := okT_byte' h; exact ⟨b, h, trivial⟩) h
 refine ⟨⟨l.toArray⟩, ?_, ?_⟩
 ·rw [rowsC, flat_one]
  simp [bytesC, bytesAV]
  rfl
 ·exact h1
theorem okT_ints' {n t : Nat} {cs : List AV} (hi : ∃ i, ti0 t = some i ∧ i.isB = false ∧ i.ik = none ∧ i.isStr = false ∧ i.sl = true ∧ i.elem = 3) (h : okT ti0 n t cs) : ∃ l : List Int, cs = [intsC l] ∧ l.length ≤ 9223372036854775807 ∧ ∀ z ∈ l, okI z := by
 obtain ⟨l, rfl, h1, h2⟩ := okT_rows (α := Int) (enc := fun z => [.sc (.int .i64 z)]) (ok := okI) hi (fun n cs h => okT_int' h) h
 exact ⟨l, by rw [rowsC, flat_one], h1, h2⟩
theorem okT_strs' {n t : Nat} {cs : List AV} (hi : ∃ i, ti0 t = some i ∧ i.isB = false ∧ i.ik = none ∧ i.isStr = false ∧ i.sl = true ∧ i.elem = 9) (h : okT ti0 n t cs) : ∃ l : List ByteArray, cs = [strsC l] ∧ l.length ≤ 9223372036854775807 ∧ ∀ s ∈ l, okS s := by
 obtain ⟨l, rfl, h1, h2⟩ := okT_rows (α := ByteArray) (enc := fun s => [.sc (.string s)]) (ok := okS) hi (fun n cs h => okT_str' h) h
 exact ⟨l, by rw [rowsC, flat_one], h1, h2⟩
theorem okT_struct {n t : Nat} {cs : List AV} {fs : List (Nat × Nat)} (hi : ∃ i, ti0 t = some i ∧ i.isB = false ∧ i.ik = none ∧ i.isStr = false ∧ i.sl = false ∧ i.isAgg = true ∧ i.fields = fs) (h : okT ti0 n t cs) : ∃ m, okFs (okT ti0 m) fs cs := by
 cases n with
 | zero => cases h
 | succ n =>
  obtain ⟨i, h1, h2, h3, h4, h5, h6, rfl⟩ := hi
  obtain ⟨i', hi', h⟩ := h
  rw [h1] at hi'
  obtain rfl := Option.some.inj hi'
  simp only [h2, h3, h4, h5, h6] at h
  exact ⟨n, h⟩
end Go.Proofs.YtdameggfgnpehaaGreatDoor.Abs
set_option linter.unusedVariables false
set_option linter.unusedSimpArgs false
set_option maxRecDepth 100000
namespace Go.Proofs.YtdameggfgnpehaaGreatDoor.Abs
open Go
theorem tyByteS : ∃ i j, ti0 43 = some i ∧ ti0 i.elem = some j ∧ j.size = 1 ∧ j.cty.length = 1 := ⟨_, _, rfl, rfl, rfl, rfl⟩
theorem toF_ByteS (n : Nat) (hn : 1048576 < n) (s : ByteArray) (h : s.size ≤ 1048576) : tree E0 (n + 1) 43 69 [bytesC s] = some (bytesC s) := by
 have e : s.data.toList.length = s.size := by simp
 have h0 := to_flat (n := n) (bytes := 1) (fun b : UInt8 => .int .u8 b.toNat) (.sc (.int .u8 0)) (fun _ => rfl) tyByteS (fun k => f69_l0 (PR n AV) n k) (fun k m a o i H => rfl) (fun a H k => f69_eq n a H k) (by decide) s.data.toList (by rw [e]; exact h) hn
 rw [e] at h0
 exact h0
theorem eqF_ByteS (n : Nat) (hn : 1048576 < n) (tb : Nat) (s : ByteArray) (h : s.size ≤ 1048576) : tree E0 (n + 1) tb 71 [bytesC s, bytesC s] = some (.sc (.bool true)) := by
 have e : s.data.toList.length = s.size := by simp
 have h0 := eq_flat (n := n) (fun b : UInt8 => .int .u8 b.toNat) (fun x γ k => ne_u8 _ k) (fun k => f71_l0 (PR n AV) n k) (fun k m a b i H => rfl) (fun a b H k => f71_eq n a b H k) s.data.toList (by rw [e]; exact h) hn tb
 rw [e] at h0
 exact h0
theorem szF_ByteS (n : Nat) (ty : Nat) (s : ByteArray) (hmax : s.size ≤ 9223372036854775807) (left : Int) (h0 : 0 ≤ left) (h1 : left ≤ 1048576) : tree E0 (n + 1) ty 67 [bytesC s, .sc (.int .i64 left)] = some (.sc (.int .i64 (szR s.size left))) :=
 sz_len (n := n) (fun a b H k => f67_eq n a b H k) s.size _ hmax left h0 h1 ty
theorem tyIntS : ∃ i j, ti0 26 = some i ∧ ti0 i.elem = some j ∧ j.size = 1 ∧ j.cty.length = 1 := ⟨_, _, rfl, rfl, rfl, rfl⟩
theorem eqF_IntS (n : Nat) (hn : 1048576 < n) (tb : Nat) (s : List Int) (h : s.length ≤ 1048576) : tree E0 (n + 1) tb 63 [intsC s, intsC s] = some (.sc (.bool true)) :=
 eq_flat (n := n) (fun z : Int => .int .i64 z) (fun x γ k => ne_int _ k) (fun k => f63_l0 (PR n AV) n k) (fun k m a b i H => rfl) (fun a b H k => f63_eq n a b H k) s h hn tb
theorem tyStringS : ∃ i j, ti0 73 = some i ∧ ti0 i.elem = some j ∧ j.size = 1 ∧ j.cty.length = 1 := ⟨_, _, rfl, rfl, rfl, rfl⟩
theorem eqF_StringS (n : Nat) (hn : 1048576 < n) (tb : Nat) (s : List ByteArray) (h : s.length ≤ 1048576) : tree E0 (n + 1) tb 113 [strsC s, strsC s] = some (.sc (.bool true)) :=
 eq_flat (n := n) (fun s : ByteArray => .string s) (fun x γ k => ne_str _ k) (fun k => f113_l0 (PR n AV) n k) (fun k m a b i H => rfl) (fun a b H k => f113_eq n a b H k) s h hn tb
structure MsgV where
 fTopic : ByteArray
 fBody : ByteArray
 fQos : Int
 fRetain : Bool
def encMsg (x : MsgV) : List AV := .sc (.string x.fTopic) :: bytesC x.fBody :: .sc (.int .i64 x.fQos) :: .sc (.bool x.fRetain) :: []
def wtMsg (x : MsgV) : Nat := x.fTopic.size + (x.fBody.size + 0)
def okMsg (x : MsgV) : Prop := okS x.fTopic ∧ okS x.fBody ∧ okI x.fQos ∧ True
theorem lenMsg (x : MsgV) : (encMsg x).length = 4 := rfl
theorem flMsg (x : MsgV) : (encMsg x).all isFl = true := rfl
def ctyMsg : List Nat := [9, 43, 3, 4]
theorem tyMsg : ∃ i, ti0 49 = some i ∧ i.cty = ctyMsg := ⟨_, rfl, rfl⟩
theorem okWMsg (d : Nat) (x : MsgV) : okLW (okW ti0 E0.tp (d + 2)) ctyMsg (encMsg x) := ⟨trivial, ⟨okW_bytes (d := d + 0) tyByteS x.fBody, ⟨trivial, ⟨trivial, trivial⟩⟩⟩⟩
theorem okT_Msg {n : Nat} {cs : List AV} (h : okT ti0 n 45 cs) : ∃ x : MsgV, cs = encMsg x ∧ okMsg x := by
 obtain ⟨m, hf⟩ := okT_struct (fs := [(0, 9), (1, 43), (2, 3), (3, 4)]) ⟨_, rfl, rfl, rfl, rfl, rfl, rfl, rfl⟩ h
 obtain ⟨a0, b0, rfl, h0, hf⟩ := hf
 obtain ⟨v0, rfl, k0⟩ := okT_str' h0
 obtain ⟨a1, b1, rfl, h1, hf⟩ := hf
 obtain ⟨v1, rfl, k1⟩ := okT_bytes' ⟨_, rfl, rfl, rfl, rfl, rfl, rfl⟩ h1
 obtain ⟨a2, b2, rfl, h2, hf⟩ := hf
 obtain ⟨v2, rfl, k2⟩ := okT_int' h2
 obtain ⟨a3, b3, rfl, h3, hf⟩ := hf
 obtain ⟨v3, rfl⟩ := okT_bool' h3
 subst hf
 exact ⟨⟨v0, v1, v2, v3⟩, rfl, k0, k1, k2, trivial⟩
def zzMsg : List AV := [(.sc (.string ⟨#[]⟩)), .nl, (.sc (.int .i64 0)), (.sc (.bool false))]
theorem toF_Msg (n : Nat) (hn : 1048576 < n) (x : MsgV) (h : wtMsg x ≤ 1048576) : tree E0 (n + 2) 49 22 [.agg (encMsg x)] = some (.agg (encMsg x)) := by
 rw [tree_def, f22_eq, f22]
 simp only [PR_box, PR_new, PR_fadr, PR_load, PR_store, pNew]
 rw [box_fl _ _ _ (flMsg x)]
 simp only [List.length_nil, List.nil_append, List.length_cons, List.cons_append, Nat.zero_add, Nat.reduceAdd]
 refine st_sc (T := ctyMsg) (C := encMsg x) (Z := zzMsg) (v := .string x.fTopic) (o' := 1) rfl rfl rfl rfl rfl ?_
 refine st_ro (o' := 2) rfl rfl rfl rfl rfl (toF_ByteS (n + 0) (by omega) x.fBody (by unfold wtMsg at h; omega)) rfl ?_
 refine st_sc (v := .int .i64 x.fQos) (o' := 3) rfl rfl rfl rfl rfl ?_
 refine st_sc (v := .bool x.fRetain) (o' := 4) rfl rfl rfl rfl rfl ?_
 exact st_end rfl rfl rfl (flMsg x) tyMsg (okWMsg 5 x)
theorem eqF_Msg (n : Nat) (hn : 1048576 < n) (tb : Nat) (x : MsgV) (h : wtMsg x ≤ 1048576) : tree E0 (n + 2) tb 24 [.agg (encMsg x), .agg (encMsg x)] = some (.sc (.bool true)) := by
 rw [tree_def, f24_eq, f24]
 simp only [PR_box, PR_fadr, PR_load, PR_bin, PR_binB, PR_un, PR_cond]
 rw [box_fl _ _ _ (flMsg x), box_fl _ _ _ (flMsg x)]
 simp only [List.length_nil, List.nil_append, List.length_cons, List.cons_append, Nat.zero_add, Nat.reduceAdd]
 refine eq_sc (v := .string x.fTopic) rfl rfl (fun k => ne_str _ k) ?_
 refine eq_ro rfl rfl rfl (eqF_ByteS (n + 0) (by omega) _ x.fBody (by unfold wtMsg at h; omega)) ?_
 refine eq_sc (v := .int .i64 x.fQos) rfl rfl (fun k => ne_int _ k) ?_
 refine eq_b (b := x.fRetain) rfl rfl ?_
 rfl
theorem szF_Msg (n : Nat) (hn : 1048576 < n) (ty : Nat) (x : MsgV) (hx : okMsg x) (left : Int) (h0 : 0 ≤ left) (h1 : left ≤ 1048576) : tree E0 (n + 2) ty 20 [.agg (encMsg x), .sc (.int .i64 left)] = szA (wtMsg x) left := by
 obtain ⟨k0, k1, _, _⟩ := hx
 unfold wtMsg
 rw [tree_def, f20_eq, f20]
 simp only [PR_box, PR_fadr, PR_load, PR_lenS, PR_bin, PR_cond]
 rw [box_fl _ _ _ (flMsg x)]
 simp only [List.length_nil, List.nil_append, List.length_cons, List.cons_append, Nat.zero_add, Nat.reduceAdd]
 refine sz_str (s := x.fTopic) rfl h0 h1 k0 rfl fun h0 h1 => ?_
 refine sz_ro rfl h0 h1 rfl (szF_ByteS (n + 0) _ x.fBody k1 _ h0 h1) rfl fun h0 h1 => ?_
 exact sz_end h0
theorem tyMsgS : ∃ i j, ti0 31 = some i ∧ ti0 i.elem = some j ∧ j.size = 4 ∧ j.cty = ctyMsg := ⟨_, _, rfl, rfl, rfl, rfl⟩
theorem toF_MsgS (n : Nat) (hn : 1048576 < n) (l : List MsgV) (h : wtL wtMsg l ≤ 1048576) : tree E0 (n + 3) 31 91 [rowsC encMsg l] = some (rowsC encMsg l) := by
 have e := wtL_eq wtMsg l
 exact to_slice (n := n + 2) (w := 4) (bytes := 56) (cty := ctyMsg) encMsg [(.sc (.string ⟨#[]⟩)), .nl, (.sc (.int .i64 0)), (.sc (.bool false))] rfl lenMsg rfl (by decide) tyMsgS tyMsg flMsg rfl (fun k => f91_l0 (PR (n + 2) AV) (n + 2) k) (fun k m a o i H => rfl) (fun a H k => f91_eq (n + 2) a H k) (by decide) l (fun x hx => toF_Msg n hn x (by have := wtS_mem (wt := wtMsg) hx; omega)) (fun x _ => okWMsg 5 x) (by omega) (by omega)
theorem eqF_MsgS (n : Nat) (hn : 1048576 < n) (tb : Nat) (l : List MsgV) (h : wtL wtMsg l ≤ 1048576) : tree E0 (n + 3) tb 95 [rowsC encMsg l, rowsC encMsg l] = some (.sc (.bool true)) := by
 have e := wtL_eq wtMsg l
 exact eq_slice (n := n + 2) encMsg lenMsg (by decide) flMsg rfl (fun k => f95_l0 (PR (n + 2) AV) (n + 2) k) (fun k m a b i H => rfl) (fun a b H k => f95_eq (n + 2) a b H k) l (fun x hx => eqF_Msg n hn _ x (by have := wtS_mem (wt := wtMsg) hx; omega)) (by omega) (by omega) tb
theorem szF_MsgS (n : Nat) (hn : 1048576 < n) (ty : Nat) (l : List MsgV) (hmax : l.length ≤ 9223372036854775807) (hok : ∀ x ∈ l, okMsg x) (left : Int) (h0 : 0 ≤ left) (h1 : left ≤ 1048576) : tree E0 (n + 3) ty 87 [rowsC encMsg l, .sc (.int .i64 left)] = some (.sc (.int .i64 (szR (wtL wtMsg l) left))) :=
 sz_slice (n := n + 2) encMsg wtMsg lenMsg (by decide) flMsg rfl (fun k => f87_l0 (PR (n + 2) AV) (n + 2) k) (fun k m a l i H => rfl) (fun a b H k => f87_eq (n + 2) a b H k) l (fun x hx left h0 h1 => szF_Msg n hn _ x (hok x hx) left h0 h1) hmax (by omega) left h0 h1 ty
structure FlightV where
 fId : Int
 fM : MsgV
 fSt : Int
def encFlight (x : FlightV) : List AV := .sc (.int .i64 x.fId) :: (encMsg x.fM ++ .sc (.int .i64 x.fSt) :: [])
def wtFlight (x : FlightV) : Nat := wtMsg x.fM + 0
def okFlight (x : FlightV) : Prop := okI x.fId ∧ okMsg x.fM ∧ okI x.fSt
theorem lenFlight (x : FlightV) : (encFlight x).length = 6 := rfl
theorem flFlight (x : FlightV) : (encFlight x).all isFl = true := rfl
def ctyFlight : List Nat := [3, 9, 43, 3, 4, 3]
theorem tyFlight : ∃ i, ti0 116 = some i ∧ i.cty = ctyFlight := ⟨_, rfl, rfl⟩
theorem okWFlight (d : Nat) (x : FlightV) : okLW (okW ti0 E0.tp (d + 2)) ctyFlight (encFlight x) := ⟨trivial, okLW_append (ts := ctyMsg) (ts' := [3]) (okWMsg (d + 0) x.fM) ⟨trivial, trivial⟩⟩
theorem okT_Flight {n : Nat} {cs : List AV} (h : okT ti0 n 159 cs) : ∃ x : FlightV, cs = encFlight x ∧ okFlight x := by
 obtain ⟨m, hf⟩ := okT_struct (fs := [(0, 3), (1, 45), (5, 3)]) ⟨_, rfl, rfl, rfl, rfl, rfl, rfl, rfl⟩ h
 obtain ⟨a0, b0, rfl, h0, hf⟩ := hf
 obtain ⟨v0, rfl, k0⟩ := okT_int' h0
 obtain ⟨a1, b1, rfl, h1, hf⟩ := hf
 obtain ⟨v1, rfl, k1⟩ := okT_Msg h1
 obtain ⟨a2, b2, rfl, h2, hf⟩ := hf
 obtain ⟨v2, rfl, k2⟩ := okT_int' h2
 subst hf
 exact ⟨⟨v0, v1, v2⟩, rfl, k0, k1, k2⟩
def zzFlight : List AV := [(.sc (.int .i64 0)), (.sc (.string ⟨#[]⟩)), .nl, (.sc (.int .i64 0)), (.sc (.bool false)), (.sc (.int .i64 0))]
theorem toF_Flight (n : Nat) (hn : 1048576 < n) (x : FlightV) (h : wtFlight x ≤ 1048576) : tree E0 (n + 3) 116 147 [.agg (encFlight x)] = some (.agg (encFlight x)) := by
 rw [tree_def, f147_eq, f147]
 simp only [PR_box, PR_new, PR_fadr, PR_load, PR_store, pNew]
 rw [box_fl _ _ _ (flFlight x)]
 simp only [List.length_nil, List.nil_append, List.length_cons, List.cons_append, Nat.zero_add, Nat.reduceAdd]
 refine st_sc (T := ctyFlight) (C := encFlight x) (Z := zzFlight) (v := .int .i64 x.fId) (o' := 1) rfl rfl rfl rfl rfl ?_
 refine st_agg (cty := ctyMsg) (cells := encMsg x.fM) (o' := 5) rfl rfl rfl rfl rfl (flMsg _) (toF_Msg (n + 0) (by omega) x.fM (by unfold wtFlight at h; omega)) tyMsg rfl (by decide) rfl ?_
 refine st_sc (v := .int .i64 x.fSt) (o' := 6) rfl rfl rfl rfl rfl ?_
 exact st_end rfl rfl rfl (flFlight x) tyFlight (okWFlight 5 x)
theorem eqF_Flight (n : Nat) (hn : 1048576 < n) (tb : Nat) (x : FlightV) (h : wtFlight x ≤ 1048576) : tree E0 (n + 3) tb 150 [.agg (encFlight x), .agg (encFlight x)] = some (.sc (.bool true)) := by
 rw [tree_def, f150_eq, f150]
 simp only [PR_box, PR_fadr, PR_load, PR_bin, PR_binB, PR_un, PR_cond]
 rw [box_fl _ _ _ (flFlight x), box_fl _ _ _ (flFlight x)]
 simp only [List.length_nil, List.nil_append, List.length_cons, List.cons_append, Nat.zero_add, Nat.reduceAdd]
 refine eq_sc (v := .int .i64 x.fId) rfl rfl (fun k => ne_int _ k) ?_
 refine eq_agg (cells := encMsg x.fM) rfl rfl rfl (flMsg _) (eqF_Msg (n + 0) (by omega) _ x.fM (by unfold wtFlight at h; omega)) ?_
 refine eq_sc (v := .int .i64 x.fSt) rfl rfl (fun k => ne_int _ k) ?_
 rfl
theorem szF_Flight (n : Nat) (hn : 1048576 < n) (ty : Nat) (x : FlightV) (hx : okFlight x) (left : Int) (h0 : 0 ≤ left) (h1 : left ≤ 1048576) : tree E0 (n + 3) ty 145 [.agg (encFlight x), .sc (.int .i64 left)] = szA (wtFlight x) left := by
 obtain ⟨_, k1, _⟩ := hx
 unfold wtFlight
 rw [tree_def, f145_eq, f145]
 simp only [PR_box, PR_fadr, PR_load, PR_lenS, PR_bin, PR_cond]
 rw [box_fl _ _ _ (flFlight x)]
 simp only [List.length_nil, List.nil_append, List.length_cons, List.cons_append, Nat.zero_add, Nat.reduceAdd]
 refine sz_agg (cells := encMsg x.fM) rfl h0 h1 rfl (flMsg _) (szF_Msg (n + 0) (by omega) _ x.fM k1 _ h0 h1) rfl fun h0 h1 => ?_
 exact sz_end h0
theorem tyFlightS : ∃ i j, ti0 30 = some i ∧ ti0 i.elem = some j ∧ j.size = 6 ∧ j.cty = ctyFlight := ⟨_, _, rfl, rfl, rfl, rfl⟩
theorem toF_FlightS (n : Nat) (hn : 1048576 < n) (l : List FlightV) (h : wtL wtFlight l ≤ 1048576) : tree E0 (n + 4) 30 90 [rowsC encFlight l] = some (rowsC encFlight l) := by
 have e := wtL_eq wtFlight l
 exact to_slice (n := n + 3) (w := 6) (bytes := 72) (cty := ctyFlight) encFlight [(.sc (.int .i64 0)), (.sc (.string ⟨#[]⟩)), .nl, (.sc (.int .i64 0)), (.sc (.bool false)), (.sc (.int .i64 0))] rfl lenFlight rfl (by decide) tyFlightS tyFlight flFlight rfl (fun k => f90_l0 (PR (n + 3) AV) (n + 3) k) (fun k m a o i H => rfl) (fun a H k => f90_eq (n + 3) a H k) (by decide) l (fun x hx => toF_Flight n hn x (by have := wtS_mem (wt := wtFlight) hx; omega)) (fun x _ => okWFlight 5 x) (by omega) (by omega)
theorem eqF_FlightS (n : Nat) (hn : 1048576 < n) (tb : Nat) (l : List FlightV) (h : wtL wtFlight l ≤ 1048576) : tree E0 (n + 4) tb 94 [rowsC encFlight l, rowsC encFlight l] = some (.sc (.bool true)) := by
 have e := wtL_eq wtFlight l
 exact eq_slice (n := n + 3) encFlight lenFlight (by decide) flFlight rfl (fun k => f94_l0 (PR (n + 3) AV) (n + 3) k) (fun k m a b i H => rfl) (fun a b H k => f94_eq (n + 3) a b H k) l (fun x hx => eqF_Flight n hn _ x (by have := wtS_mem (wt := wtFlight) hx; omega)) (by omega) (by omega) tb
theorem szF_FlightS (n : Nat) (hn : 1048576 < n) (ty : Nat) (l : List FlightV) (hmax : l.length ≤ 9223372036854775807) (hok : ∀ x ∈ l, okFlight x) (left : Int) (h0 : 0 ≤ left) (h1 : left ≤ 1048576) : tree E0 (n + 4) ty 86 [rowsC encFlight l, .sc (.int .i64 left)] = some (.sc (.int .i64 (szR (wtL wtFlight l) left))) :=
 sz_slice (n := n + 3) encFlight wtFlight lenFlight (by decide) flFlight rfl (fun k => f86_l0 (PR (n + 3) AV) (n + 3) k) (fun k m a l i H => rfl) (fun a b H k => f86_eq (n + 3) a b H k) l (fun x hx left h0 h1 => szF_Flight n hn _ x (hok x hx) left h0 h1) hmax (by omega) left h0 h1 ty
structure OutV where
 fLast : Int
 fFl : List FlightV
 fQ : List MsgV
def encOut (x : OutV) : List AV := .sc (.int .i64 x.fLast) :: rowsC encFlight x.fFl :: rowsC encMsg x.fQ :: []
def wtOut (x : OutV) : Nat := wtL wtFlight x.fFl + (wtL wtMsg x.fQ + 0)
def okOut (x : OutV) : Prop := okI x.fLast ∧ (x.fFl.length ≤ 9223372036854775807 ∧ ∀ z ∈ x.fFl, okFlight z) ∧ (x.fQ.length ≤ 9223372036854775807 ∧ ∀ z ∈ x.fQ, okMsg z)
theorem lenOut (x : OutV) : (encOut x).length = 3 := rfl
theorem flOut (x : OutV) : (encOut x).all isFl = true := rfl
def ctyOut : List Nat := [3, 30, 31]
theorem tyOut : ∃ i, ti0 33 = some i ∧ i.cty = ctyOut := ⟨_, rfl, rfl⟩
theorem okWOut (d : Nat) (x : OutV) : okLW (okW ti0 E0.tp (d + 3)) ctyOut (encOut x) := ⟨trivial, ⟨okW_rows (d := d + 2) lenFlight tyFlightS (okWFlight (d + 0)) x.fFl, ⟨okW_rows (d := d + 2) lenMsg tyMsgS (okWMsg (d + 0)) x.fQ, trivial⟩⟩⟩
theorem okT_Out {n : Nat} {cs : List AV} (h : okT ti0 n 25 cs) : ∃ x : OutV, cs = encOut x ∧ okOut x := by
 obtain ⟨m, hf⟩ := okT_struct (fs := [(0, 3), (1, 22), (2, 23)]) ⟨_, rfl, rfl, rfl, rfl, rfl, rfl, rfl⟩ h
 obtain ⟨a0, b0, rfl, h0, hf⟩ := hf
 obtain ⟨v0, rfl, k0⟩ := okT_int' h0
 obtain ⟨a1, b1, rfl, h1, hf⟩ := hf
 obtain ⟨v1, rfl, k1⟩ := okT_rows (ok := okFlight) ⟨_, rfl, rfl, rfl, rfl, rfl, rfl⟩ (fun n cs h => okT_Flight h) h1
 obtain ⟨a2, b2, rfl, h2, hf⟩ := hf
 obtain ⟨v2, rfl, k2⟩ := okT_rows (ok := okMsg) ⟨_, rfl, rfl, rfl, rfl, rfl, rfl⟩ (fun n cs h => okT_Msg h) h2
 subst hf
 exact ⟨⟨v0, v1, v2⟩, rfl, k0, k1, k2⟩
def zzOut : List AV := [(.sc (.int .i64 0)), .nl, .nl]
theorem toF_Out (n : Nat) (hn : 1048576 < n) (x : OutV) (h : wtOut x ≤ 1048576) : tree E0 (n + 5) 33 37 [.agg (encOut x)] = some (.agg (encOut x)) := by
 rw [tree_def, f37_eq, f37]
 simp only [PR_box, PR_new, PR_fadr, PR_load, PR_store, pNew]
 rw [box_fl _ _ _ (flOut x)]
 simp only [List.length_nil, List.nil_append, List.length_cons, List.cons_append, Nat.zero_add, Nat.reduceAdd]
 refine st_sc (T := ctyOut) (C := encOut x) (Z := zzOut) (v := .int .i64 x.fLast) (o' := 1) rfl rfl rfl rfl rfl ?_
 refine st_ro (o' := 2) rfl rfl rfl rfl rfl (toF_FlightS (n + 0) (by omega) x.fFl (by unfold wtOut at h; omega)) rfl ?_
 refine st_ro (o' := 3) rfl rfl rfl rfl rfl (toF_MsgS (n + 1) (by omega) x.fQ (by unfold wtOut at h; omega)) rfl ?_
 exact st_end rfl rfl rfl (flOut x) tyOut (okWOut 4 x)
theorem eqF_Out (n : Nat) (hn : 1048576 < n) (tb : Nat) (x : OutV) (h : wtOut x ≤ 1048576) : tree E0 (n + 5) tb 40 [.agg (encOut x), .agg (encOut x)] = some (.sc (.bool true)) := by
 rw [tree_def, f40_eq, f40]
 simp only [PR_box, PR_fadr, PR_load, PR_bin, PR_binB, PR_un, PR_cond]
 rw [box_fl _ _ _ (flOut x), box_fl _ _ _ (flOut x)]
 simp only [List.length_nil, List.nil_append, List.length_cons, List.cons_append, Nat.zero_add, Nat.reduceAdd]
 refine eq_sc (v := .int .i64 x.fLast) rfl rfl (fun k => ne_int _ k) ?_
 refine eq_ro rfl rfl rfl (eqF_FlightS (n + 0) (by omega) _ x.fFl (by unfold wtOut at h; omega)) ?_
 refine eq_ro rfl rfl rfl (eqF_MsgS (n + 1) (by omega) _ x.fQ (by unfold wtOut at h; omega)) ?_
 rfl
theorem szF_Out (n : Nat) (hn : 1048576 < n) (ty : Nat) (x : OutV) (hx : okOut x) (left : Int) (h0 : 0 ≤ left) (h1 : left ≤ 1048576) : tree E0 (n + 5) ty 35 [.agg (encOut x), .sc (.int .i64 left)] = szA (wtOut x) left := by
 obtain ⟨_, k1, k2⟩ := hx
 unfold wtOut
 rw [tree_def, f35_eq, f35]
 simp only [PR_box, PR_fadr, PR_load, PR_lenS, PR_bin, PR_cond]
 rw [box_fl _ _ _ (flOut x)]
 simp only [List.length_nil, List.nil_append, List.length_cons, List.cons_append, Nat.zero_add, Nat.reduceAdd]
 refine sz_ro rfl h0 h1 rfl (szF_FlightS (n + 0) (by omega) _ x.fFl k1.1 k1.2 _ h0 h1) rfl fun h0 h1 => ?_
 refine sz_ro rfl h0 h1 rfl (szF_MsgS (n + 1) (by omega) _ x.fQ k2.1 k2.2 _ h0 h1) rfl fun h0 h1 => ?_
 exact sz_end h0
structure WantV where
 fFilter : ByteArray
 fQos : Int
def encWant (x : WantV) : List AV := .sc (.string x.fFilter) :: .sc (.int .i64 x.fQos) :: []
def wtWant (x : WantV) : Nat := x.fFilter.size + 0
def okWant (x : WantV) : Prop := okS x.fFilter ∧ okI x.fQos
theorem lenWant (x : WantV) : (encWant x).length = 2 := rfl
theorem flWant (x : WantV) : (encWant x).all isFl = true := rfl
def ctyWant : List Nat := [9, 3]
theorem tyWant : ∃ i, ti0 165 = some i ∧ i.cty = ctyWant := ⟨_, rfl, rfl⟩
theorem okWWant (d : Nat) (x : WantV) : okLW (okW ti0 E0.tp (d + 1)) ctyWant (encWant x) := ⟨trivial, ⟨trivial, trivial⟩⟩
theorem eqF_Want (n : Nat) (hn : 1048576 < n) (tb : Nat) (x : WantV) (h : wtWant x ≤ 1048576) : tree E0 (n + 1) tb 156 [.agg (encWant x), .agg (encWant x)] = some (.sc (.bool true)) := by
 rw [tree_def, f156_eq, f156]
 simp only [PR_box, PR_fadr, PR_load, PR_bin, PR_binB, PR_un, PR_cond]
 rw [box_fl _ _ _ (flWant x), box_fl _ _ _ (flWant x)]
 simp only [List.length_nil, List.nil_append, List.length_cons, List.cons_append, Nat.zero_add, Nat.reduceAdd]
 refine eq_sc (v := .string x.fFilter) rfl rfl (fun k => ne_str _ k) ?_
 refine eq_sc (v := .int .i64 x.fQos) rfl rfl (fun k => ne_int _ k) ?_
 rfl
theorem tyWantS : ∃ i j, ti0 72 = some i ∧ ti0 i.elem = some j ∧ j.size = 2 ∧ j.cty = ctyWant := ⟨_, _, rfl, rfl, rfl, rfl⟩
theorem eqF_WantS (n : Nat) (hn : 1048576 < n) (tb : Nat) (l : List WantV) (h : wtL wtWant l ≤ 1048576) : tree E0 (n + 2) tb 112 [rowsC encWant l, rowsC encWant l] = some (.sc (.bool true)) := by
 have e := wtL_eq wtWant l
 exact eq_slice (n := n + 1) encWant lenWant (by decide) flWant rfl (fun k => f112_l0 (PR (n + 1) AV) (n + 1) k) (fun k m a b i H => rfl) (fun a b H k => f112_eq (n + 1) a b H k) l (fun x hx => eqF_Want n hn _ x (by have := wtS_mem (wt := wtWant) hx; omega)) (by omega) (by omega) tb
structure PacketV where
 fType : Int
 fDup : Bool
 fQos : Int
 fRetain : Bool
 fId : Int
 fTopic : ByteArray
 fBody : ByteArray
 fClient : ByteArray
 fLevel : Int
 fClean : Bool
 fKeep : Int
 fHasWill : Bool
 fWTopic : ByteArray
 fWBody : ByteArray
 fWQos : Int
 fWRetain : Bool
 fHasUser : Bool
 fUser : ByteArray
 fHasPass : Bool
 fPass : ByteArray
 fCode : Int
 fPresent : Bool
 fWants : List WantV
 fNames : List ByteArray
 fCodes : List Int
def encPacket (x : PacketV) : List AV := .sc (.int .i64 x.fType) :: .sc (.bool x.fDup) :: .sc (.int .i64 x.fQos) :: .sc (.bool x.fRetain) :: .sc (.int .i64 x.fId) :: .sc (.string x.fTopic) :: bytesC x.fBody :: .sc (.string x.fClient) :: .sc (.int .i64 x.fLevel) :: .sc (.bool x.fClean) :: .sc (.int .i64 x.fKeep) :: .sc (.bool x.fHasWill) :: .sc (.string x.fWTopic) :: bytesC x.fWBody :: .sc (.int .i64 x.fWQos) :: .sc (.bool x.fWRetain) :: .sc (.bool x.fHasUser) :: .sc (.string x.fUser) :: .sc (.bool x.fHasPass) :: bytesC x.fPass :: .sc (.int .i64 x.fCode) :: .sc (.bool x.fPresent) :: rowsC encWant x.fWants :: strsC x.fNames :: intsC x.fCodes :: []
def wtPacket (x : PacketV) : Nat := x.fTopic.size + (x.fBody.size + (x.fClient.size + (x.fWTopic.size + (x.fWBody.size + (x.fUser.size + (x.fPass.size + (wtL wtWant x.fWants + (wtL ByteArray.size x.fNames + (x.fCodes.length + 0)))))))))
def okPacket (x : PacketV) : Prop := okI x.fType ∧ True ∧ okI x.fQos ∧ True ∧ okI x.fId ∧ okS x.fTopic ∧ okS x.fBody ∧ okS x.fClient ∧ okI x.fLevel ∧ True ∧ okI x.fKeep ∧ True ∧ okS x.fWTopic ∧ okS x.fWBody ∧ okI x.fWQos ∧ True ∧ True ∧ okS x.fUser ∧ True ∧ okS x.fPass ∧ okI x.fCode ∧ True ∧ (x.fWants.length ≤ 9223372036854775807 ∧ ∀ z ∈ x.fWants, okWant z) ∧ (x.fNames.length ≤ 9223372036854775807 ∧ ∀ z ∈ x.fNames, okS z) ∧ (x.fCodes.length ≤ 9223372036854775807 ∧ ∀ z ∈ x.fCodes, okI z)
theorem lenPacket (x : PacketV) : (encPacket x).length = 25 := rfl
theorem flPacket (x : PacketV) : (encPacket x).all isFl = true := rfl
def ctyPacket : List Nat := [3, 4, 3, 4, 3, 9, 43, 9, 3, 4, 3, 4, 9, 43, 3, 4, 4, 9, 4, 43, 3, 4, 72, 73, 26]
theorem tyPacket : ∃ i, ti0 75 = some i ∧ i.cty = ctyPacket := ⟨_, rfl, rfl⟩
theorem okWPacket (d : Nat) (x : PacketV) : okLW (okW ti0 E0.tp (d + 2)) ctyPacket (encPacket x) := ⟨trivial, ⟨trivial, ⟨trivial, ⟨trivial, ⟨trivial, ⟨trivial, ⟨okW_bytes (d := d + 0) tyByteS x.fBody, ⟨trivial, ⟨trivial, ⟨trivial, ⟨trivial, ⟨trivial, ⟨trivial, ⟨okW_bytes (d := d + 0) tyByteS x.fWBody, ⟨trivial, ⟨trivial, ⟨trivial, ⟨trivial, ⟨trivial, ⟨okW_bytes (d := d + 0) tyByteS x.fPass, ⟨trivial, ⟨trivial, ⟨okW_rows (d := d + 1) lenWant tyWantS (okWWant (d + 0)) x.fWants, ⟨okW_flat (d := d + 0) (fun s : ByteArray => .string s) tyStringS x.fNames, ⟨okW_flat (d := d + 0) (fun z : Int => .int .i64 z) tyIntS x.fCodes, trivial⟩⟩⟩⟩⟩⟩⟩⟩⟩⟩⟩⟩⟩⟩⟩⟩⟩⟩⟩⟩⟩⟩⟩⟩⟩
theorem eqF_Packet (n : Nat) (hn : 1048576 < n) (tb : Nat) (x : PacketV) (h : wtPacket x ≤ 1048576) : tree E0 (n + 3) tb 46 [.agg (encPacket x), .agg (encPacket x)] = some (.sc (.bool true)) := by
 rw [tree_def, f46_eq, f46]
 simp only [PR_box, PR_fadr, PR_load, PR_bin, PR_binB, PR_un, PR_cond]
 rw [box_fl _ _ _ (flPacket x), box_fl _ _ _ (flPacket x)]
 simp only [List.length_nil, List.nil_append, List.length_cons, List.cons_append, Nat.zero_add, Nat.reduceAdd]
 refine eq_sc (v := .int .i64 x.fType) rfl rfl (fun k => ne_int _ k) ?_
 refine eq_b (b := x.fDup) rfl rfl ?_
 refine eq_sc (v := .int .i64 x.fQos) rfl rfl (fun k => ne_int _ k) ?_
 refine eq_b (b := x.fRetain) rfl rfl ?_
 refine eq_sc (v := .int .i64 x.fId) rfl rfl (fun k => ne_int _ k) ?_
 refine eq_sc (v := .string x.fTopic) rfl rfl (fun k => ne_str _ k) ?_
 refine eq_ro rfl rfl rfl (eqF_ByteS (n + 1) (by omega) _ x.fBody (by unfold wtPacket at h; omega)) ?_
 refine eq_sc (v := .string x.fClient) rfl rfl (fun k => ne_str _ k) ?_
 refine eq_sc (v := .int .i64 x.fLevel) rfl rfl (fun k => ne_int _ k) ?_
 refine eq_b (b := x.fClean) rfl rfl ?_
 refine eq_sc (v := .int .i64 x.fKeep) rfl rfl (fun k => ne_int _ k) ?_
 refine eq_b (b := x.fHasWill) rfl rfl ?_
 refine eq_sc (v := .string x.fWTopic) rfl rfl (fun k => ne_str _ k) ?_
 refine eq_ro rfl rfl rfl (eqF_ByteS (n + 1) (by omega) _ x.fWBody (by unfold wtPacket at h; omega)) ?_
 refine eq_sc (v := .int .i64 x.fWQos) rfl rfl (fun k => ne_int _ k) ?_
 refine eq_b (b := x.fWRetain) rfl rfl ?_
 refine eq_b (b := x.fHasUser) rfl rfl ?_
 refine eq_sc (v := .string x.fUser) rfl rfl (fun k => ne_str _ k) ?_
 refine eq_b (b := x.fHasPass) rfl rfl ?_
 refine eq_ro rfl rfl rfl (eqF_ByteS (n + 1) (by omega) _ x.fPass (by unfold wtPacket at h; omega)) ?_
 refine eq_sc (v := .int .i64 x.fCode) rfl rfl (fun k => ne_int _ k) ?_
 refine eq_b (b := x.fPresent) rfl rfl ?_
 refine eq_ro rfl rfl rfl (eqF_WantS (n + 0) (by omega) _ x.fWants (by unfold wtPacket at h; omega)) ?_
 refine eq_ro rfl rfl rfl (eqF_StringS (n + 1) (by omega) _ x.fNames (by unfold wtPacket at h; have := wtL_eq ByteArray.size x.fNames; omega)) ?_
 refine eq_ro rfl rfl rfl (eqF_IntS (n + 1) (by omega) _ x.fCodes (by unfold wtPacket at h; omega)) ?_
 rfl
end Go.Proofs.YtdameggfgnpehaaGreatDoor.Abs
set_option linter.unusedVariables false
set_option linter.unusedSimpArgs false
namespace Go.Proofs.YtdameggfgnpehaaGreatDoor.Abs
open Go
variable {β : Type} {n : Nat} {H : Heap} {r : Option β}
theorem vnil : ([] : List AV).mapM (viewV H 8) = some [] := rfl
theorem vcons {x v : AV} {xs vs : List AV} (h : Vw H x v) (hs : xs.mapM (viewV H 8) = some vs) : (x :: xs).mapM (viewV H 8) = some (v :: vs) := by
 simp only [List.mapM_cons, h.now, hs, Option.pure_def, Option.bind_eq_bind, Option.bind_some]
theorem blk_grow {i : Nat} {b : Blk} (h : H[i]? = some b) (X : List Blk) : (H ++ X)[i]? = some b := by
 rw [List.getElem?_append_left (List.getElem?_eq_some_iff.1 h).1]
 exact h
theorem lw_box {cs : List AV} {K : AV → Heap → Option β} (hf : cs.all isFl = true) (h : ∀ i, (H ++ [⟨cs, true, true⟩])[i]? = some ⟨cs, true, true⟩ → K (.ptr i 0) (H ++ [⟨cs, true, true⟩]) = r) : pBox (.agg cs) H (fun x H => K x H) = r := by
 rw [box_fl cs H _ hf]
 exact h _ (by rw [List.getElem?_append_right (Nat.le_refl _), Nat.sub_self]; rfl)
theorem lw_ld {i w : Nat} {cs : List AV} {K : AV → Option β} (hi : H[i]? = some ⟨cs, true, true⟩) (hw : cs.length = w) (h : K (.agg cs) = r) : pLoad true w (.ptr i 0) H (fun x => K x) = r := by
 have e : rdCells H i 0 w = some cs := by
  simp only [rdCells, hi, if_true, List.drop_zero, Nat.zero_add, ← hw, Nat.le_refl, List.take_length]
 rw [ldT e]
 exact h
theorem lw_sc {ty f : Nat} {args vs : List AV} {v : Value} {K : AV → Heap → Option β} (hh : plainF f = false) (hv : args.mapM (viewV H 8) = some vs) (ht : tree E0 n ty f vs = some (.sc v)) (h : K (.sc v) H = r) : (PR n β).call ty (.fn f [] []) args H (fun x H => K x H) = r := by
 rw [PR_call hh hv ht, instT_sc, List.append_nil]
 exact h
theorem lw_tree {ty f : Nat} {args vs : List AV} {t : AV} {K : AV → Heap → Option β} (hh : plainF f = false) (hv : args.mapM (viewV H 8) = some vs) (ht : tree E0 n ty f vs = some t) (hok : okW ti0 E0.tp 8 ty t) (h : ∀ X y, Vw (H ++ X) y t → K y (H ++ X) = r) : (PR n β).call ty (.fn f [] []) args H (fun x H => K x H) = r := by
 rw [PR_call hh hv ht]
 exact h _ _ (Vw_inst H ty t hok)
theorem lw_agg {ty f : Nat} {args vs cs : List AV} {K : AV → Heap → Option β} (hh : plainF f = false) (hv : args.mapM (viewV H 8) = some vs) (ht : tree E0 n ty f vs = some (.agg cs)) (hf : cs.all isFl = true) (hok : okW ti0 E0.tp 8 ty (.agg cs)) (h : ∀ X (ys : List AV), ys.length = cs.length → ys.all isLeaf = true → Vw (H ++ X) (.agg ys) (.agg cs) → K (.agg ys) (H ++ X) = r) : (PR n β).call ty (.fn f [] []) args H (fun x H => K x H) = r := by
 rw [PR_call hh hv ht, instT_agg]
 refine h _ _ (instL_len _ _ _) (instL_leaf _ _ _ hf) ?_
 have := Vw_inst H ty (.agg cs) hok
 rwa [instT_agg] at this
theorem lw_put {w : Nat} {z ys : List AV} {K : AV → Heap → Option β} (hz : z.length = w) (hy : ys.length = w) (hl : ys.all isLeaf = true) (h : ∀ i, (H ++ [⟨ys, true, true⟩])[i]? = some ⟨ys, true, true⟩ → K (.ptr i 0) (H ++ [⟨ys, true, true⟩]) = r) :
  pNew z H (fun t H => pStore w t (.agg ys) H fun H => K t H) = r := by
 have hg : (H ++ [(⟨z, true, true⟩ : Blk)])[H.length]? = some ⟨z, true, true⟩ := by rw [List.getElem?_append_right (Nat.le_refl _), Nat.sub_self]; rfl
 have hc : cellsA (.agg ys) = some ys := by
  show (if ys.all isLeaf then some ys else none) = _
  rw [if_pos hl]
 show pStore w (.ptr H.length 0) (.agg ys) (H ++ [⟨z, true, true⟩]) _ = r
 rw [st_at w H.length 0 _ ⟨z, true, true⟩ ys _ _ hg hc hy (by rw [hz]; omega) rfl]
 have hs : splice z 0 ys = ys := by
  unfold splice
  rw [List.take_zero, List.nil_append, List.drop_of_length_le (by rw [hz, hy]; omega), List.append_nil]
 have e : (H ++ [(⟨z, true, true⟩ : Blk)]).set H.length ⟨ys, true, true⟩ = H ++ [⟨ys, true, true⟩] := by
  rw [List.set_append_right _ _ (Nat.le_refl _), Nat.sub_self]
  rfl
 simp only [hs, e]
 exact h _ (by rw [List.getElem?_append_right (Nat.le_refl _), Nat.sub_self]; rfl)
theorem lw_sz {ty f W : Nat} {args vs : List AV} {left : Int} {A : Heap → Option β} {K : AV → Heap → Option β} (hh : plainF f = false) (hv : args.mapM (viewV H 8) = some vs) (ht : tree E0 n ty f vs = some (.sc (.int .i64 (szR W left)))) (h0 : 0 ≤ left) (hA : A H = r) (h : (W : Int) ≤ left → K (.sc (.int .i64 (left - W))) H = r) :
  (PR n β).call ty (.fn f [] []) args H (fun t H => pBin .lss t (.sc (.int .i64 0)) fun t' => pCond t' (A H) (K t H)) = r := by
 rw [PR_call hh hv ht, instT_sc, List.append_nil]
 simp only
 rw [lss64, cond_b]
 by_cases hw : left < W
 ·have e : szR W left = -1 := by rw [szR, if_pos hw]
  rw [e, if_pos (by decide)]
  exact hA
 ·have e : szR W left = left - W := by rw [szR, if_neg hw]
  rw [e, if_neg (by simpa using (show ¬ left - (W : Int) < 0 by omega))]
  exact h (by omega)
theorem lw_str {s : ByteArray} {A K : Option β} (hA : A = r) (h : s.size ≤ 1048576 → K = r) : (pLenS (.sc (.string s)) fun t => pBin .gtr t (.sc (.int .i64 1048576)) fun t' => pCond t' A K) = r := by
 simp only [pLenS, asS, Option.bind_some]
 show pCond (.sc (.bool (decide ((s.size : Int) > 1048576)))) A K = r
 rw [cond_b]
 by_cases hs : s.size ≤ 1048576
 ·rw [if_neg (by simp; omega)]
  exact h hs
 ·rw [if_pos (by simp; omega)]
  exact hA
theorem lw_neb {b : Bool} {A K : Option β} (h : K = r) : (pBinB .neq (.sc (.bool b)) (.sc (.bool b)) fun t => pCond t A K) = r := by
 simp only [pBinB, asB, Option.bind_some, binB, beq_self_eq_true, Bool.not_true]
 exact h
theorem lw_nei {z : Int} {A K : Option β} (h : K = r) : (pBin .neq (.sc (.int .i64 z)) (.sc (.int .i64 z)) fun t => pCond t A K) = r := by
 rw [ne_int, cond_b]
 exact h
theorem lw_eq {ty f : Nat} {args vs : List AV} {A : Heap → Option β} {K : Heap → Option β} (hh : plainF f = false) (hv : args.mapM (viewV H 8) = some vs) (ht : tree E0 n ty f vs = some (.sc (.bool true))) (h : K H = r) : (PR n β).call ty (.fn f [] []) args H (fun t H => pUn .not t fun t' => pCond t' (A H) (K H)) = r := by
 rw [PR_call hh hv ht, instT_sc, List.append_nil]
 exact h
theorem eql64 (a b : Int) (k : AV → Option β) : pBin .eql (.sc (.int .i64 a)) (.sc (.int .i64 b)) k = k (.sc (.bool (a == b))) := rfl
theorem neq64 (a b : Int) (k : AV → Option β) : pBin .neq (.sc (.int .i64 a)) (.sc (.int .i64 b)) k = k (.sc (.bool (a != b))) := rfl
theorem leq64 (a b : Int) (k : AV → Option β) : pBin .leq (.sc (.int .i64 a)) (.sc (.int .i64 b)) k = k (.sc (.bool (decide (a ≤ b)))) := rfl
theorem gtr64 (a b : Int) (k : AV → Option β) : pBin .gtr (.sc (.int .i64 a)) (.sc (.int .i64 b)) k = k (.sc (.bool (decide (a > b)))) := rfl
theorem geq64 (a b : Int) (k : AV → Option β) : pBin .geq (.sc (.int .i64 a)) (.sc (.int .i64 b)) k = k (.sc (.bool (decide (a ≥ b)))) := rfl
theorem add64 (a b : Int) (k : AV → Option β) : pBin .add (.sc (.int .i64 a)) (.sc (.int .i64 b)) k = k (.sc (.int .i64 (IntKind.i64.wrap (a + b)))) := rfl
theorem sub64w (a b : Int) (k : AV → Option β) : pBin .sub (.sc (.int .i64 a)) (.sc (.int .i64 b)) k = k (.sc (.int .i64 (IntKind.i64.wrap (a - b)))) := rfl
theorem mul64 (a b : Int) (k : AV → Option β) : pBin .mul (.sc (.int .i64 a)) (.sc (.int .i64 b)) k = k (.sc (.int .i64 (IntKind.i64.wrap (a * b)))) := rfl
theorem eqlS (a b : ByteArray) (k : AV → Option β) : pBin .eql (.sc (.string a)) (.sc (.string b)) k = k (.sc (.bool (a.toList == b.toList))) := rfl
theorem neqS (a b : ByteArray) (k : AV → Option β) : pBin .neq (.sc (.string a)) (.sc (.string b)) k = k (.sc (.bool (!(a.toList == b.toList)))) := rfl
theorem eqlB (a b : Bool) (k : AV → Option β) : pBinB .eql (.sc (.bool a)) (.sc (.bool b)) k = k (.sc (.bool (a == b))) := rfl
theorem neqB (a b : Bool) (k : AV → Option β) : pBinB .neq (.sc (.bool a)) (.sc (.bool b)) k = k (.sc (.bool (!(a == b)))) := rfl
theorem notB (a : Bool) (k : AV → Option β) : pUn .not (.sc (.bool a)) k = k (.sc (.bool (!a))) := rfl
theorem gdT (m : (AV → Heap → Option β) → Option β) (k : AV → Heap → Option β) : pGuard (.sc (.bool true)) true H m k = m k := rfl
theorem gdF (m : (AV → Heap → Option β) → Option β) (k : AV → Heap → Option β) : pGuard (.sc (.bool false)) true H m k = k (.sc undef) H := rfl
theorem gfT (m : (AV → Heap → Option β) → Option β) (k : AV → Heap → Option β) : pGuard (.sc (.bool true)) false H m k = k (.sc undef) H := rfl
theorem gfF (m : (AV → Heap → Option β) → Option β) (k : AV → Heap → Option β) : pGuard (.sc (.bool false)) false H m k = m k := rfl
theorem pkT (a b : Value) (k : AV → Option β) : pPick (.sc (.bool true)) (.sc a) (.sc b) k = k (.sc a) := rfl
theorem pkF (a b : Value) (k : AV → Option β) : pPick (.sc (.bool false)) (.sc a) (.sc b) k = k (.sc b) := rfl
theorem fadr_p (o id off : Nat) (k : AV → Option β) : pFadr o (.ptr id off) k = k (.ptr id (off + o)) := rfl
theorem lenSc (s : ByteArray) (k : AV → Option β) : pLenS (.sc (.string s)) k = k (.sc (.int .i64 s.size)) := rfl
theorem own_v (ty : Nat) (H : Heap) (v : Value) : ownTree ti0 E0.tp ty H (.sc v) = some (.sc v) := rfl
theorem okW_agg {ty : Nat} {cty : List Nat} {cs : List AV} (hty : ∃ i, ti0 ty = some i ∧ i.cty = cty) (h : okLW (okW ti0 E0.tp 7) cty cs) : okW ti0 E0.tp 8 ty (.agg cs) := by
 obtain ⟨i, hi, rfl⟩ := hty
 exact ⟨i, hi, h⟩
end Go.Proofs.YtdameggfgnpehaaGreatDoor.Abs
set_option linter.unusedVariables false
set_option linter.unusedSimpArgs false
namespace Go.Proofs.YtdameggfgnpehaaGreatDoor.Abs
open Go
section
variable {β : Type} {n : Nat} {H : Heap} {r : Option β} {K : AV → Option β} {KH : AV → Heap → Option β}
theorem w_box {cs : List AV} (hf : cs.all isFl = true) (h : ∀ i, i = H.length → (H ++ [⟨cs, true, true⟩])[i]? = some ⟨cs, true, true⟩ → KH (.ptr i 0) (H ++ [⟨cs, true, true⟩]) = r) : pBox (.agg cs) H (fun x H => KH x H) = r := by
 rw [box_fl cs H _ hf]
 exact h _ rfl (by rw [List.getElem?_append_right (Nat.le_refl _), Nat.sub_self]; rfl)
theorem w_new {cs : List AV} (h : ∀ i, i = H.length → (H ++ [⟨cs, true, true⟩])[i]? = some ⟨cs, true, true⟩ → KH (.ptr i 0) (H ++ [⟨cs, true, true⟩]) = r) : pNew cs H (fun x H => KH x H) = r :=
 h _ rfl (by rw [List.getElem?_append_right (Nat.le_refl _), Nat.sub_self]; rfl)
theorem w_newSl {len sz : Nat} {cs : List AV} (h : ∀ i, i = H.length → (H ++ [⟨cs, true, true⟩])[i]? = some ⟨cs, true, true⟩ → KH (.sl i 0 len sz) (H ++ [⟨cs, true, true⟩]) = r) : pNewSl len sz cs true H (fun x H => KH x H) = r :=
 h _ rfl (by rw [List.getElem?_append_right (Nat.le_refl _), Nat.sub_self]; rfl)
theorem w_fill {zs cs : List AV} {ps : List (Nat × Nat × AV)} {KL : List AV → Option β} (hf : fillA zs ps = some cs) (h : KL cs = r) : ((fillA zs ps).bind fun c => KL c) = r := by
 rw [hf]
 exact h
theorem w_fadr {o id off : Nat} (h : K (.ptr id (off + o)) = r) : pFadr o (.ptr id off) (fun x => K x) = r := h
theorem w_fadr_rp {o : Nat} {cells : List AV} (h : K (.rp (cells.drop o)) = r) : pFadr o (.rp cells) (fun x => K x) = r := h
theorem w_ld {i off : Nat} {cs : List AV} {c : AV} (hi : H[i]? = some ⟨cs, true, true⟩) (hl : off < cs.length) (hc : (cs.drop off).take 1 = [c]) (h : K c = r) : pLoad false 1 (.ptr i off) H (fun x => K x) = r := by
 have e : rdCells H i off 1 = some [c] := by
  simp only [rdCells, hi, if_true]
  rw [if_pos (by omega), hc]
 rw [ldF e]
 exact h
theorem w_ldA {i off w : Nat} {cs ds : List AV} (hi : H[i]? = some ⟨cs, true, true⟩) (hl : off + w ≤ cs.length) (hc : (cs.drop off).take w = ds) (h : K (.agg ds) = r) : pLoad true w (.ptr i off) H (fun x => K x) = r := by
 have e : rdCells H i off w = some ds := by
  simp only [rdCells, hi, if_true]
  rw [if_pos hl, hc]
 rw [ldT e]
 exact h
theorem w_ld_rp {cells : List AV} {c : AV} (hc : cells.take 1 = [c]) (h : K c = r) : pLoad false 1 (.rp cells) H (fun x => K x) = r := by
 cases cells with
 | nil => cases hc
 | cons x xs =>
  obtain rfl : x = c := by simpa using hc
  rw [ld1_rp]
  exact h
theorem w_ldA_rp {w : Nat} {cells ds : List AV} (hl : w ≤ cells.length) (hc : cells.take w = ds) (h : K (.agg ds) = r) : pLoad true w (.rp cells) H (fun x => K x) = r := by
 simp only [pLoad, hl, if_true, hc]
 exact h
theorem w_bin {op : BinOp} {x y v : AV} (e : ∀ k : AV → Option β, pBin op x y k = k v) (h : K v = r) : pBin op x y (fun t => K t) = r := (e _).trans h
theorem w_binB {op : BinOp} {x y v : AV} (e : ∀ k : AV → Option β, pBinB op x y k = k v) (h : K v = r) : pBinB op x y (fun t => K t) = r := (e _).trans h
theorem w_binA {op : BinOp} {qs : List Nat} {x y v : AV} (e : ∀ k : AV → Option β, pBinA op qs x y k = k v) (h : K v = r) : pBinA op qs x y (fun t => K t) = r := (e _).trans h
theorem w_not {b : Bool} (h : K (.sc (.bool (!b))) = r) : pUn .not (.sc (.bool b)) (fun t => K t) = r := h
theorem w_lenS {s : ByteArray} (h : K (.sc (.int .i64 s.size)) = r) : pLenS (.sc (.string s)) (fun t => K t) = r := h
theorem w_len {m : Nat} {cs : List AV} (h : K (.sc (.int .i64 m)) = r) : pLen (.ro m cs) (fun t => K t) = r := h
theorem w_split {g : Prop} (b : Bool) (ht : b = true → g) (hf : b = false → g) : g := by
 cases h : b
 ·exact hf h
 ·exact ht h
theorem w_cT {b : Bool} {x y : Option β} (hb : b = true) (h : x = r) : pCond (.sc (.bool b)) x y = r := by subst hb; exact h
theorem w_cF {b : Bool} {x y : Option β} (hb : b = false) (h : y = r) : pCond (.sc (.bool b)) x y = r := by subst hb; exact h
theorem w_gT {b : Bool} {m : (AV → Heap → Option β) → Option β} (hb : b = true) (h : m (fun x H => KH x H) = r) : pGuard (.sc (.bool b)) true H m (fun x H => KH x H) = r := by subst hb; exact h
theorem w_gF {b : Bool} {m : (AV → Heap → Option β) → Option β} (hb : b = false) (h : KH (.sc undef) H = r) : pGuard (.sc (.bool b)) true H m (fun x H => KH x H) = r := by subst hb; exact h
theorem w_hT {b : Bool} {m : (AV → Heap → Option β) → Option β} (hb : b = false) (h : m (fun x H => KH x H) = r) : pGuard (.sc (.bool b)) false H m (fun x H => KH x H) = r := by subst hb; exact h
theorem w_hF {b : Bool} {m : (AV → Heap → Option β) → Option β} (hb : b = true) (h : KH (.sc undef) H = r) : pGuard (.sc (.bool b)) false H m (fun x H => KH x H) = r := by subst hb; exact h
theorem w_u {t : Bool} {m : (AV → Heap → Option β) → Option β} (h : KH (.sc undef) H = r) : pGuard (.sc undef) t H m (fun x H => KH x H) = r := h
theorem w_pT {b : Bool} {x y : AV} (hb : b = true) (h : K x = r) : pPick (.sc (.bool b)) x y (fun t => K t) = r := by
 subst hb
 cases x <;> cases y <;> exact h
theorem w_pF {b : Bool} {x y : AV} (hb : b = false) (h : K y = r) : pPick (.sc (.bool b)) x y (fun t => K t) = r := by
 subst hb
 cases x <;> cases y <;> exact h
def all2 {α : Type} (p : α → α → Bool) : List α → List α → Bool
 | x :: a, y :: b => if p x y then all2 p a b else false
 | _, _ => true
theorem eqv_loop {α : Type} {w : Nat} (enc : α → List AV) (hw : ∀ x, (enc x).length = w) (h0 : 0 < w) (pk : α → AV) (LOAD : AV → (AV → Option β) → Option β) (hld : ∀ x rest k, LOAD (.rp (enc x ++ rest)) k = k (pk x)) (NE : AV → AV → (AV → Option β) → Option β) (pr : α → α → Bool) (hne : ∀ x y k, NE (pk x) (pk y) k = k (.sc (.bool (!(pr x y)))))
  (l q : List α) (hlq : l.length = q.length) (hlen : l.length ≤ 1048576) (L : Nat → AV → Option β) (KF KT : Option β)
  (hL : ∀ m i, L (m + 1) i = pBin .lss i (.sc (.int .i64 l.length)) fun t14 => pCond t14 (pIadr w (rowsC enc l) i fun t19 => LOAD t19 fun t20 => pIadr w (rowsC enc q) i fun t23 => LOAD t23 fun t24 => NE t20 t24 fun t25 => pCond t25 KF (pBin .add i (.sc (.int .i64 1)) fun t16 => L m t16)) KT) :
  ∀ (s t pl pq : List α) (m : Nat), l = pl ++ s → q = pq ++ t → pl.length = pq.length → s.length < m → L m (.sc (.int .i64 pl.length)) = if all2 pr s t then KT else KF
 | [], t, pl, pq, m + 1, hl, hq, hpp, hm => by
  rw [List.append_nil] at hl
  subst hl
  rw [hL, lss_nat, cond_b]
  cases t <;> simp [all2]
 | x :: s, [], pl, pq, m + 1, hl, hq, hpp, hm => by
  have h1 := congrArg List.length hl
  have h2 := congrArg List.length hq
  simp only [List.length_append, List.length_cons, List.length_nil] at h1 h2
  omega
 | x :: s, y :: t, pl, pq, m + 1, hl, hq, hpp, hm => by
  have hlt : pl.length < l.length := by rw [hl]; simp
  rw [hL, lss_nat, cond_b, if_pos (by simpa using hlt)]
  have hel := fun k => el_ro (β := β) hw h0 pl x s k
  rw [← hl] at hel
  have heq := fun k => el_ro (β := β) hw h0 pq y t k
  rw [← hq, ← hpp] at heq
  rw [hel, hld, heq, hld, hne, cond_b, all2]
  cases hpx : pr x y
  ·simp
  ·simp only [Bool.not_true, Bool.false_eq_true, if_false, if_true]
   rw [inc_nat _ _ (by omega)]
   have ih := eqv_loop enc hw h0 pk LOAD hld NE pr hne l q hlq hlen L KF KT hL s t (pl ++ [x]) (pq ++ [y]) m (by rw [hl]; simp) (by rw [hq]; simp) (by simp [hpp]) (by simpa using hm)
   rw [List.length_append, List.length_singleton] at ih
   exact ih
def encI (z : Int) : List AV := [.sc (.int .i64 z)]
def encS (s : ByteArray) : List AV := [.sc (.string s)]
theorem ints_rows (l : List Int) : intsC l = rowsC encI l := by
 rw [rowsC, show (encI) = fun z => [AV.sc (.int .i64 z)] from rfl, flat_one]
theorem strs_rows (l : List ByteArray) : strsC l = rowsC encS l := by
 rw [rowsC, show (encS) = fun z => [AV.sc (.string z)] from rfl, flat_one]
theorem ldI (z : Int) (rest : List AV) (H : Heap) (k : AV → Option β) : pLoad false 1 (.rp (encI z ++ rest)) H k = k (.sc (.int .i64 z)) := ld1_rp _ _ _ _
theorem ldS (z : ByteArray) (rest : List AV) (H : Heap) (k : AV → Option β) : pLoad false 1 (.rp (encS z ++ rest)) H k = k (.sc (.string z)) := ld1_rp _ _ _ _
def eqI (x y : Int) : Bool := x == y
def eqSt (x y : ByteArray) : Bool := x.toList == y.toList
def eqList {α : Type} (p : α → α → Bool) (a b : List α) : Bool := if a.length = b.length then all2 p a b else false
theorem neI (x y : Int) (k : AV → Option β) : pBin .neq (.sc (.int .i64 x)) (.sc (.int .i64 y)) k = k (.sc (.bool (!(eqI x y)))) := rfl
theorem neS (x y : ByteArray) (k : AV → Option β) : pBin .neq (.sc (.string x)) (.sc (.string y)) k = k (.sc (.bool (!(eqSt x y)))) := rfl
theorem binA_ne (qs : List Nat) (cs ds : List AV) (b : Bool) (h : eqCells qs cs ds = some b) (k : AV → Option β) : pBinA .neq qs (.agg cs) (.agg ds) k = k (.sc (.bool (!b))) := by
 simp only [pBinA, h, Option.bind_some]
theorem w_merge {X : Option β} (e : Bool) {K : Bool → Option β} (h1 : ∀ b, b = e → X = K b) (h2 : ∀ b, b = e → K b = r) : X = r := (h1 e rfl).trans (h2 e rfl)
theorem w_pTb {c v b : Bool} {y : AV} (hc : c = true) (hv : v = b) (h : K (.sc (.bool b)) = r) : pPick (.sc (.bool c)) (.sc (.bool v)) y (fun t => K t) = r := by
 subst hc
 subst hv
 cases y <;> exact h
theorem w_pFb {c v b : Bool} {x : AV} (hc : c = false) (hv : v = b) (h : K (.sc (.bool b)) = r) : pPick (.sc (.bool c)) x (.sc (.bool v)) (fun t => K t) = r := by
 subst hc
 subst hv
 cases x <;> exact h
theorem mAT {b c v : Bool} (hb : b = (c && v)) (h : c = true) : v = b := by rw [hb, h]; rfl
theorem mAF {b c v : Bool} (hb : b = (c && v)) (h : c = false) : false = b := by rw [hb, h]; rfl
theorem mOT {b c v : Bool} (hb : b = (c || v)) (h : c = true) : true = b := by rw [hb, h]; rfl
theorem mOF {b c v : Bool} (hb : b = (c || v)) (h : c = false) : v = b := by rw [hb, h]; rfl
theorem w_letJ {α : Sort _} {γ : Type} {x : α} {f : α → Option γ} {r : Option γ} (h : f x = r) : letJ x f = r := h
theorem w_endB {ty : Nat} {b b' : Bool} (h : b = b') : ownTree ti0 E0.tp ty H (.sc (.bool b)) = some (.sc (.bool b')) := by subst h; rfl
theorem w_endI {ty : Nat} {b b' : Int} (h : b = b') : ownTree ti0 E0.tp ty H (.sc (.int .i64 b)) = some (.sc (.int .i64 b')) := by subst h; rfl
theorem w_iadr0 {α : Type} {w : Nat} {enc : α → List AV} {l : List α} (hw : ∀ x, (enc x).length = w) (h0 : 0 < w) (hl : 0 < l.length) (h : ∀ x t, l = x :: t → K (.rp (enc x ++ (t.map enc).flatten)) = r) : pIadr w (rowsC enc l) (.sc (.int .i64 0)) (fun t => K t) = r := by
 cases l with
 | nil => simp at hl
 | cons x t =>
  have := el_ro (β := β) hw h0 [] x t (fun t => K t)
  simp only [List.nil_append, List.length_nil, Int.natCast_zero] at this
  rw [this]
  exact h x t rfl
theorem PR_callC {ty : Nat} {f : FuncId} {caps args vs : List AV} {t : AV} {k : AV → Heap → Option β} (hh : plainF f = false) (hv : (args ++ caps).mapM (viewV H 8) = some vs) (ht : tree E0 n ty f vs = some t) :
  (PR n β).call ty (.fn f [] caps) args H k = k (instT ti0 E0.tp H.length ty t).1 (H ++ (instT ti0 E0.tp H.length ty t).2) := by
 show callF E0 (evalFn E0 n) ty f ([] ++ args ++ caps) H k = _
 simp only [callF, plain_ext hh, plain_hm hh, List.nil_append, Bool.false_eq_true, if_false, callT, hv, Option.bind_some]
 have ht : treeOf E0 (evalFn E0 n) ty f vs = some t := ht
 rw [ht]
 rfl
theorem Vw_rp (H : Heap) (cs : List AV) : Vw H (.rp cs) (.rp cs) := fun _ => rfl
def idxOf {α : Type} (p : α → Bool) : List α → Nat → Int
 | [], _ => -1
 | x :: l, i => if p x then i else idxOf p l (i + 1)
theorem index_loop {α : Type} {tb g w : Nat} {caps : List AV} (enc : α → List AV) (pr : α → Bool) (k : AV → Heap → Option β) (hw : ∀ x, (enc x).length = w) (h0 : 0 < w) (hfl : ∀ x, (enc x).all isFl = true) (hh : plainF g = false) (hcv : ∀ H, caps.mapM (viewV H 8) = some caps) (L : Nat → AV → AV → AV → AV → Heap → Option β)
  (hL : ∀ m a b c i H, L (m + 1) a b c i H = pBin .lss i c fun t9 => pCond t9 (pIadr w a i fun t14 => pLoad true w t14 H fun t15 => (PR n β).call tb b [t15] H fun t16 H => pCond t16 (k i H) (pBin .add i (.sc (.int .i64 1)) fun t18 => L m a b c t18 H)) (k (.sc (.int .i64 (-1))) H))
  (l : List α) (hp : ∀ x ∈ l, tree E0 n tb g (.agg (enc x) :: caps) = some (.sc (.bool (pr x)))) (hlen : l.length ≤ 1048576) (H : Heap) : ∀ (t pre : List α) (m : Nat), l = pre ++ t → t.length < m →
   L m (rowsC enc l) (.fn g [] caps) (.sc (.int .i64 l.length)) (.sc (.int .i64 pre.length)) H = k (.sc (.int .i64 (idxOf pr t pre.length))) H
 | [], pre, m + 1, hl, hm => by
  rw [List.append_nil] at hl
  subst hl
  rw [hL, lss_nat, cond_b]
  simp [idxOf]
 | x :: t, pre, m + 1, hl, hm => by
  have hlt : pre.length < l.length := by rw [hl]; simp
  rw [hL, lss_nat, cond_b, if_pos (by simpa using hlt)]
  have hel := fun k => el_ro (β := β) hw h0 pre x t k
  rw [← hl] at hel
  rw [hel, ld_rp w _ _ _ _ (hw x)]
  rw [PR_callC (vs := .agg (enc x) :: caps) hh (by simp only [List.cons_append, List.nil_append, List.mapM_cons, (Vw_agg _ (hfl x)).now, hcv]; rfl) (hp x (by rw [hl]; simp)), instT_sc, List.append_nil]
  simp only
  rw [cond_b, idxOf]
  cases hpx : pr x
  ·simp only [Bool.false_eq_true, if_false]
   rw [inc_nat _ _ (by omega)]
   have ih := index_loop enc pr k hw h0 hfl hh hcv L hL l hp hlen H t (pre ++ [x]) m (by rw [hl]; simp) (by simpa using hm)
   rw [List.length_append, List.length_singleton] at ih
   exact ih
  ·simp only [if_true]
theorem Vw_fn1 {i g : Nat} {cs : List AV} (hi : H[i]? = some ⟨cs, true, true⟩) (hfl : cs.all isFl = true) : Vw H (.fn g [] [.ptr i 0]) (.fn g [] [.rp cs]) := fun X => by
 have hg : (H ++ X)[i]? = some ⟨cs, true, true⟩ := blk_grow hi X
 have hr : rdCells (H ++ X) i 0 (cs.length - 0) = some cs := by
  simp only [rdCells, hg, if_true, Nat.sub_zero, Nat.zero_add, Nat.le_refl, List.drop_zero, List.take_length]
 have hp : viewV (H ++ X) 7 (.ptr i 0) = some (.rp cs) := by
  show ((H ++ X)[i]?).bind (fun b => (rdCells (H ++ X) i 0 (b.cells.length - 0)).bind fun cs => (cs.mapM (viewV (H ++ X) 6)).bind fun vs => some (AV.rp vs)) = _
  rw [hg, Option.bind_some]
  show (rdCells (H ++ X) i 0 (cs.length - 0)).bind _ = _
  rw [hr, Option.bind_some, fl_view hfl]
  rfl
 show (([] : List AV).mapM (viewV (H ++ X) 7)).bind (fun us => ([AV.ptr i 0].mapM (viewV (H ++ X) 7)).bind fun cs => some (AV.fn g us cs)) = _
 simp only [List.mapM_cons, List.mapM_nil, hp, Option.pure_def, Option.bind_eq_bind, Option.bind_some]
theorem w_boxS {v : Value} (hv : leafV v = true) (h : ∀ i, i = H.length → (H ++ [⟨[.sc v], true, true⟩])[i]? = some ⟨[.sc v], true, true⟩ → KH (.ptr i 0) (H ++ [⟨[.sc v], true, true⟩]) = r) : pBox (.sc v) H (fun x H => KH x H) = r := by
 have e : cellsA (.sc v) = some [.sc v] := by simp only [cellsA, isLeaf, hv, if_true]
 show (cellsA (.sc v)).bind _ = r
 rw [e]
 exact h _ rfl (by rw [List.getElem?_append_right (Nat.le_refl _), Nat.sub_self]; rfl)
theorem idx_s (s : ByteArray) (i : Nat) (b : UInt8) (k : AV → Option β) (h : s.data.toList[i]? = some b) : pIdx (.sc (.string s)) (.sc (.int .i64 i)) k = k (.sc (.int .u8 b.toNat)) := by
 have hlt : i < s.size := by
  have := (List.getElem?_eq_some_iff.1 h).1
  simpa using this
 have hb : s[i]'hlt = b := by
  have := (List.getElem?_eq_some_iff.1 h).2
  simp only [Array.getElem_toList] at this
  exact this
 simp only [pIdx, asI, asS, Option.bind_some, Int.toNat_natCast]
 rw [dif_pos ⟨by omega, hlt⟩, hb]
theorem slice_rows {α : Type} {w : Nat} {enc : α → List AV} (hw : ∀ x, (enc x).length = w) (l : List α) (d : Nat) (hd : d ≤ l.length) (k : AV → Option β) : pSlice w (rowsC enc l) (some (.sc (.int .i64 d))) none k = k (rowsC enc (l.drop d)) := by
 simp only [pSlice, lenA, bound, asI, Option.bind_some]
 rw [if_pos (by omega)]
 have h1 : ((l.length : Int) - d).toNat = (l.drop d).length := by rw [List.length_drop]; omega
 have h2 : ((l.map enc).flatten.drop (d * w)) = ((l.drop d).map enc).flatten := by
  have := drop_rows hw (l.take d) (l.drop d)
  rw [List.take_append_drop, List.length_take, Nat.min_eq_left hd] at this
  exact this
 rw [h1, Int.toNat_natCast, h2, ← rows_len hw, List.take_length]
theorem eqfunc_loop {α : Type} {tb g w : Nat} (enc : α → List AV) (pr : α → α → Bool) (k : AV → Heap → Option β) (hk : ∀ v H H', k (.sc v) H = k (.sc v) H') (z : List AV) (hz : z.length = w) (hw : ∀ x, (enc x).length = w) (h0 : 0 < w) (hfl : ∀ x, (enc x).all isFl = true) (hh : plainF g = false) (L : Nat → AV → AV → AV → AV → AV → Heap → Option β)
  (hL : ∀ m b f a c i H, L (m + 1) b f a c i H = pBin .lss i c fun t18 => pCond t18 (pIadr w a i fun t20 => pLoad true w t20 H fun t21 => pNew z H fun t8 H => pStore w t8 t21 H fun H => pIadr w b i fun t24 => pLoad true w t24 H fun t25 => pNew z H fun t9 H => pStore w t9 t25 H fun H => pLoad true w t8 H fun t27 => pLoad true w t9 H fun t28 => (PR n β).call tb f [t27, t28] H fun t29 H => pUn .not t29 fun t30 => pCond t30 (k (.sc (.bool false)) H) (pBin .add i (.sc (.int .i64 1)) fun t31 => L m b f a c t31 H)) (k (.sc (.bool true)) H))
  (l q : List α) (hp : ∀ x y, x ∈ l → y ∈ q → tree E0 n tb g [.agg (enc x), .agg (enc y)] = some (.sc (.bool (pr x y)))) (hlq : l.length = q.length) (hlen : l.length ≤ 1048576) : ∀ (s t pl pq : List α) (m : Nat) (H : Heap), l = pl ++ s → q = pq ++ t → pl.length = pq.length → s.length < m →
   L m (rowsC enc q) (.fn g [] []) (rowsC enc l) (.sc (.int .i64 l.length)) (.sc (.int .i64 pl.length)) H = k (.sc (.bool (all2 pr s t))) []
 | [], t, pl, pq, m + 1, H, hl, hq, hpp, hm => by
  have ht : t = [] := by
   have h1 := congrArg List.length hl
   have h2 := congrArg List.length hq
   simp only [List.length_append, List.length_nil] at h1 h2
   exact List.eq_nil_of_length_eq_zero (by omega)
  subst ht
  rw [List.append_nil] at hl
  subst hl
  rw [hL, lss_nat, cond_b]
  simp only [Nat.lt_irrefl, decide_false, Bool.false_eq_true, if_false, all2]
  exact hk _ _ _
 | x :: s, [], pl, pq, m + 1, H, hl, hq, hpp, hm => by
  have h1 := congrArg List.length hl
  have h2 := congrArg List.length hq
  simp only [List.length_append, List.length_cons, List.length_nil] at h1 h2
  omega
 | x :: s, y :: t, pl, pq, m + 1, H, hl, hq, hpp, hm => by
  have hlt : pl.length < l.length := by rw [hl]; simp
  rw [hL, lss_nat, cond_b, if_pos (by simpa using hlt)]
  have hel := fun k => el_ro (β := β) hw h0 pl x s k
  rw [← hl] at hel
  have heq := fun k => el_ro (β := β) hw h0 pq y t k
  rw [← hq, ← hpp] at heq
  rw [hel, ld_rp w _ _ _ _ (hw x)]
  refine lw_put hz (hw x) (fl_leaf (hfl x)) fun i hi => ?_
  rw [heq, ld_rp w _ _ _ _ (hw y)]
  refine lw_put hz (hw y) (fl_leaf (hfl y)) fun j hj => ?_
  replace hi := blk_grow hi [⟨enc y, true, true⟩]
  refine lw_ld hi (hw x) ?_
  refine lw_ld hj (hw y) ?_
  refine lw_sc hh (vcons (Vw_agg _ (hfl x)) (vcons (Vw_agg _ (hfl y)) vnil)) (hp x y (by rw [hl]; simp) (by rw [hq]; simp)) ?_
  rw [notB, cond_b, all2]
  cases hpx : pr x y
  ·simp only [Bool.not_false, if_true, Bool.false_eq_true, if_false]
   exact hk _ _ _
  ·simp only [Bool.not_true, Bool.false_eq_true, if_false, if_true]
   rw [inc_nat _ _ (by omega)]
   have ih := eqfunc_loop enc pr k hk z hz hw h0 hfl hh L hL l q hp hlq hlen s t (pl ++ [x]) (pq ++ [y]) m ((H ++ [⟨enc x, true, true⟩]) ++ [⟨enc y, true, true⟩]) (by rw [hl]; simp) (by rw [hq]; simp) (by simp [hpp]) (by simpa using hm)
   rw [List.length_append, List.length_singleton] at ih
   exact ih
theorem ends_loop {α : Type} {tb g w : Nat} (enc : α → List AV) (pr : α → α → Bool) (k : AV → Heap → Option β) (hw : ∀ x, (enc x).length = w) (h0 : 0 < w) (hfl : ∀ x, (enc x).all isFl = true) (hh : plainF g = false) (L : Nat → AV → AV → AV → Heap → Option β)
  (hL : ∀ m a b i H, L (m + 1) a b i H = pLen b fun t13 => pBin .lss i t13 fun t14 => pCond t14 (pLen a fun t19 => pLen b fun t21 => pBin .sub t19 t21 fun t22 => pBin .add t22 i fun t24 => pIadr w a t24 fun t25 => pLoad true w t25 H fun t26 => pIadr w b i fun t29 => pLoad true w t29 H fun t30 => (PR n β).call tb (.fn g [] []) [t26, t30] H fun t31 H => pUn .not t31 fun t32 => pCond t32 (k (.sc (.bool false)) H) (pBin .add i (.sc (.int .i64 1)) fun t16 => L m a b t16 H)) (k (.sc (.bool true)) H))
  (l q : List α) (hp : ∀ x y, x ∈ l → y ∈ q → tree E0 n tb g [.agg (enc x), .agg (enc y)] = some (.sc (.bool (pr x y)))) (hlq : q.length ≤ l.length) (hlen : l.length ≤ 1048576) (H : Heap) : ∀ (t s pq pl : List α) (m : Nat), l = pl ++ s → q = pq ++ t → pl.length = l.length - q.length + pq.length → t.length < m →
   L m (rowsC enc l) (rowsC enc q) (.sc (.int .i64 pq.length)) H = k (.sc (.bool (all2 pr s t))) H
 | [], s, pq, pl, m + 1, hl, hq, hpp, hm => by
  rw [List.append_nil] at hq
  subst hq
  have e : all2 pr s [] = true := by cases s <;> rfl
  rw [hL, len_ro, lss_nat, cond_b, e]
  simp
 | y :: t, [], pq, pl, m + 1, hl, hq, hpp, hm => by
  have h1 := congrArg List.length hl
  have h2 := congrArg List.length hq
  simp only [List.length_append, List.length_cons, List.length_nil] at h1 h2
  omega
 | y :: t, x :: s, pq, pl, m + 1, hl, hq, hpp, hm => by
  have hlt : pq.length < q.length := by rw [hq]; simp
  rw [hL, len_ro, lss_nat, cond_b, if_pos (by simpa using hlt)]
  have hel := fun k => el_ro (β := β) hw h0 pl x s k
  rw [← hl] at hel
  have heq := fun k => el_ro (β := β) hw h0 pq y t k
  rw [← hq] at heq
  have hi : ((l.length : Int) - (q.length : Int)) = ((l.length - q.length : Nat) : Int) := by omega
  have ha : (((l.length - q.length : Nat) : Int) + (pq.length : Int)) = (pl.length : Int) := by omega
  rw [len_ro, len_ro, sub64 _ _ _ (by omega) (by omega), hi, add64, ha, wrap64 _ (by omega) (by omega)]
  rw [hel, ld_rp w _ _ _ _ (hw x), heq, ld_rp w _ _ _ _ (hw y)]
  refine lw_sc hh (vcons (Vw_agg _ (hfl x)) (vcons (Vw_agg _ (hfl y)) vnil)) (hp x y (by rw [hl]; simp) (by rw [hq]; simp)) ?_
  rw [notB, cond_b, all2]
  cases hpx : pr x y
  ·simp only [Bool.not_false, if_true, Bool.false_eq_true, if_false]
  ·simp only [Bool.not_true, Bool.false_eq_true, if_false, if_true]
   rw [inc_nat _ _ (by omega)]
   have ih := ends_loop enc pr k hw h0 hfl hh L hL l q hp hlq hlen H t s (pq ++ [y]) (pl ++ [x]) m (by rw [hl]; simp) (by rw [hq]; simp) (by simp [hpp]; omega) (by simpa using hm)
   rw [List.length_append, List.length_singleton] at ih
   exact ih
theorem nT {b : Bool} (h : b = false) : (!b) = true := by rw [h]; rfl
theorem nF {b : Bool} (h : b = true) : (!b) = false := by rw [h]; rfl
end
end Go.Proofs.YtdameggfgnpehaaGreatDoor.Abs
set_option linter.unusedVariables false
set_option linter.unusedSimpArgs false
set_option maxRecDepth 100000
namespace Go.Proofs.YtdameggfgnpehaaGreatDoor.Abs
open Go
def vIn (x lo hi : Int) : Bool := decide (lo ≤ x) && decide (x ≤ hi)
theorem l1InF (n : Nat) (ty : Nat) (x : Int) (lo : Int) (hi : Int) : tree E0 (n + 1) ty 83 [.sc (.int .i64 x), .sc (.int .i64 lo), .sc (.int .i64 hi)] = some (.sc (.bool (vIn x lo hi))) := by
 rw [tree_def, f83_eq, f83]
 try simp only [PR_box, PR_new, PR_fadr, PR_load, PR_store, PR_bin, PR_binB, PR_binA, PR_un, PR_cond, PR_guard, PR_pick, PR_len, PR_lenS, PR_iadr, PR_idx, PR_slice, PR_sliceS, PR_newSl, PR_fill, PR_make, PR_app, PR_cvI, PR_cvBS]
 refine w_bin (v := .sc (.bool (decide (x ≥ lo)))) (fun k => rfl) ?_
 apply w_merge ((decide (x ≥ lo)) && (decide (x ≤ hi)))
 ·intro b1 q1
  refine w_split ((decide (x ≥ lo))) (fun h1 => ?_) (fun h1 => ?_)
  ·refine w_gT h1 ?_
   refine w_gT h1 ?_
   refine w_gT h1 ?_
   refine w_bin (v := .sc (.bool (decide (x ≤ hi)))) (fun k => rfl) ?_
   refine w_pTb h1 (mAT q1 h1) ?_
   exact rfl
  ·refine w_gF h1 ?_
   refine w_gF h1 ?_
   refine w_gF h1 ?_
   refine w_pFb h1 (mAF q1 h1) ?_
   exact rfl
 intro b1 q1
 exact w_endB (by first | (simp_all [vIn]; done) | (rw [Bool.eq_iff_iff]; simp [vIn] at *; omega))
theorem withinF (n : Nat) (ty : Nat) (x : Int) (lo : Int) (hi : Int) : tree E0 (n + 1) ty 128 [.sc (.int .i64 x), .sc (.int .i64 lo), .sc (.int .i64 hi)] = some (.sc (.bool (vIn x lo hi))) := by
 rw [tree_def, f128_eq, f128]
 try simp only [PR_box, PR_new, PR_fadr, PR_load, PR_store, PR_bin, PR_binB, PR_binA, PR_un, PR_cond, PR_guard, PR_pick, PR_len, PR_lenS, PR_iadr, PR_idx, PR_slice, PR_sliceS, PR_newSl, PR_fill, PR_make, PR_app, PR_cvI, PR_cvBS]
 refine w_bin (v := .sc (.bool (decide (x ≥ lo)))) (fun k => rfl) ?_
 apply w_merge ((decide (x ≥ lo)) && (decide (x ≤ hi)))
 ·intro b1 q1
  refine w_split ((decide (x ≥ lo))) (fun h1 => ?_) (fun h1 => ?_)
  ·refine w_gT h1 ?_
   refine w_gT h1 ?_
   refine w_gT h1 ?_
   refine w_bin (v := .sc (.bool (decide (x ≤ hi)))) (fun k => rfl) ?_
   refine w_pTb h1 (mAT q1 h1) ?_
   exact rfl
  ·refine w_gF h1 ?_
   refine w_gF h1 ?_
   refine w_gF h1 ?_
   refine w_pFb h1 (mAF q1 h1) ?_
   exact rfl
 intro b1 q1
 exact w_endB (by first | (simp_all [vIn]; done) | (rw [Bool.eq_iff_iff]; simp [vIn] at *; omega))
end Go.Proofs.YtdameggfgnpehaaGreatDoor.Abs
