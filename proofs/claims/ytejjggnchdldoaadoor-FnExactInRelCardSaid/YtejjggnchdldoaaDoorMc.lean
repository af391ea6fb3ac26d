/- What the proof needs, part 3: a sound evaluator over trees, the program's functions on it, and what they come to. -/
import Derived.Test.YtejjggnchdldoaaDoorMb
import Derived.Shelf.Strings.IndexAnyAll
import Derived.Shelf.Small.Utf8
import Derived.Lib.TrimUEq
import Derived.Lib.QuoteLoop
import Derived.Laws.RangeAny
import Derived.Laws.Runes
import Derived.WalkKit
import Derived.WalkMore
import Derived.Below
import Derived.LoopTactic
import Derived.Shelf.RegionOpenPlain
import Derived.Test.YtejjggnchdldoaaDoorChecked
import Derived.Shelf.Unicode.ValidAny
import Derived.Shelf.Strings.Split
import Derived.Shelf.Vars
import Derived.Lib.ValidLaws
import Derived.Lib.MapLaws
set_option linter.unusedVariables false
set_option linter.unusedSimpArgs false
set_option maxRecDepth 100000
namespace Go.Proofs.YtejjggnchdldoaaDoor.Abs
open Go
variable {β : Type}
noncomputable def f60 (p : Pr β) (n : Nat) (a0 : AV) (H : Heap) (k : AV → Heap → Option β) : Option β :=
 p.box a0 H fun t1 H =>
 p.fadr 0 t1 fun t3 =>
 p.load false 1 t3 H fun t4 =>
 p.call 4 (.fn 59 [] []) [t4, (.sc (.int .i64 1)), (.sc (.int .i64 14))] H fun t5 H =>
 p.un .not t5 fun t6 =>
 p.guard t6 false H (fun k' => p.load true 25 t1 H fun t' => k' t' H) fun t9 H =>
 p.both
 (p.guard t6 false H (fun k' => p.load true 25 t1 H fun t' => k' t' H) fun t8 H =>
 p.guard t6 false H (fun k' => p.call 27 (.fn 82 [] []) [t9] H fun t' H => k' t' H) fun t10 H =>
 p.guard t6 false H (fun k' => p.call 4 (.fn 81 [] []) [t8, t10] H fun t' H => k' t' H) fun t11 H =>
 p.guard t6 false H (fun k' => p.un .not t11 fun t' => k' t' H) fun t12 H =>
 p.pick t6 (.sc (.bool true)) t12 fun t13 =>
 p.cond t13
 (k (.sc (.bool false)) H)
 (p.fadr 0 t1 fun t14 =>
 p.load false 1 t14 H fun t15 =>
 p.bin .eql t15 (.sc (.int .i64 1)) fun t17 =>
 p.cond t17
 (p.load true 25 t1 H fun t18 =>
 p.call 4 (.fn 83 [] []) [t18] H fun t19 H =>
 k t19 H)
 (p.bin .eql t15 (.sc (.int .i64 2)) fun t21 =>
 p.cond t21
 (p.fadr 20 t1 fun t22 =>
 p.load false 1 t22 H fun t23 =>
 p.call 4 (.fn 59 [] []) [t23, (.sc (.int .i64 0)), (.sc (.int .i64 5))] H fun t24 H =>
 p.guard t24 true H (fun k' => p.fadr 21 t1 fun t' => k' t' H) fun t26 H =>
 p.guard t24 true H (fun k' => p.load false 1 t26 H fun t' => k' t' H) fun t27 H =>
 p.guard t24 true H (fun k' => p.un .not t27 fun t' => k' t' H) fun t28 H =>
 p.guard t24 true H (fun k' => k' t28 H) fun t29 H =>
 p.guard t29 false H (fun k' => p.fadr 20 t1 fun t' => k' t' H) fun t30 H =>
 p.guard t29 false H (fun k' => p.load false 1 t30 H fun t' => k' t' H) fun t31 H =>
 p.guard t29 false H (fun k' => p.bin .eql t31 (.sc (.int .i64 0)) fun t' => k' t' H) fun t32 H =>
 p.guard t24 true H (fun k' => p.pick t29 (.sc (.bool true)) t32 fun t' => k' t' H) fun t33 H =>
 p.pick t24 t33 (.sc (.bool false)) fun t34 =>
 k t34 H)
 (p.bin .eql t15 (.sc (.int .i64 3)) fun t36 =>
 p.cond t36
 (p.fadr 2 t1 fun t37 =>
 p.load false 1 t37 H fun t38 =>
 p.call 4 (.fn 51 [] []) [t38] H fun t39 H =>
 p.guard t39 true H (fun k' => p.fadr 5 t1 fun t' => k' t' H) fun t41 H =>
 p.guard t39 true H (fun k' => p.load false 1 t41 H fun t' => k' t' H) fun t42 H =>
 p.guard t39 true H (fun k' => p.call 4 (.fn 50 [] []) [t42] H fun t' H => k' t' H) fun t43 H =>
 p.pick t39 t43 (.sc (.bool false)) fun t44 =>
 p.guard t44 true H (fun k' => p.fadr 6 t1 fun t' => k' t' H) fun t46 H =>
 p.guard t44 true H (fun k' => p.load false 1 t46 H fun t' => k' t' H) fun t47 H =>
 p.guard t44 true H (fun k' => p.len t47 fun t' => k' t' H) fun t48 H =>
 p.guard t44 true H (fun k' => p.bin .leq t48 (.sc (.int .i64 40)) fun t' => k' t' H) fun t49 H =>
 p.pick t44 t49 (.sc (.bool false)) fun t50 =>
 p.guard t50 true H (fun k' => p.fadr 2 t1 fun t' => k' t' H) fun t52 H =>
 p.guard t50 true H (fun k' => p.load false 1 t52 H fun t' => k' t' H) fun t53 H =>
 p.guard t50 true H (fun k' => p.bin .eql t53 (.sc (.int .i64 0)) fun t' => k' t' H) fun t54 H =>
 p.guard t50 true H (fun k' => k' t54 H) fun t55 H =>
 p.guard t55 false H (fun k' => p.fadr 4 t1 fun t' => k' t' H) fun t56 H =>
 p.guard t55 false H (fun k' => p.load false 1 t56 H fun t' => k' t' H) fun t57 H =>
 p.guard t55 false H (fun k' => p.call 4 (.fn 57 [] []) [t57] H fun t' H => k' t' H) fun t58 H =>
 p.guard t50 true H (fun k' => p.pick t55 (.sc (.bool true)) t58 fun t' => k' t' H) fun t59 H =>
 p.pick t50 t59 (.sc (.bool false)) fun t60 =>
 k t60 H)
 (p.bin .eql t15 (.sc (.int .i64 4)) fun t62 =>
 letJ (fun (t1 t15 t61 : AV) (H : Heap) => p.cond t61
 (p.fadr 4 t1 fun t67 =>
 p.load false 1 t67 H fun t68 =>
 p.call 4 (.fn 57 [] []) [t68] H fun t69 H =>
 k t69 H)
 (p.bin .eql t15 (.sc (.int .i64 8)) fun t71 =>
 letJ (fun (t1 t70 : AV) (H : Heap) => p.cond t70
 (p.fadr 4 t1 fun t74 =>
 p.load false 1 t74 H fun t75 =>
 p.call 4 (.fn 57 [] []) [t75] H fun t76 H =>
 p.guard t76 true H (fun k' => p.load true 25 t1 H fun t' => k' t' H) fun t78 H =>
 p.guard t76 true H (fun k' => p.call 4 (.fn 84 [] []) [t78] H fun t' H => k' t' H) fun t79 H =>
 p.pick t76 t79 (.sc (.bool false)) fun t80 =>
 k t80 H)
 (k (.sc (.bool true)) H)) fun j2 =>
 p.cond t71
 (j2 t1 t71 H)
 (p.bin .eql t15 (.sc (.int .i64 9)) fun t72 =>
 p.cond t72
 (j2 t1 t72 H)
 (p.bin .eql t15 (.sc (.int .i64 10)) fun t73 =>
 j2 t1 t73 H)))) fun j1 =>
 p.cond t62
 (j1 t1 t15 t62 H)
 (p.bin .eql t15 (.sc (.int .i64 5)) fun t63 =>
 p.cond t63
 (j1 t1 t15 t63 H)
 (p.bin .eql t15 (.sc (.int .i64 6)) fun t64 =>
 p.cond t64
 (j1 t1 t15 t64 H)
 (p.bin .eql t15 (.sc (.int .i64 7)) fun t65 =>
 p.cond t65
 (j1 t1 t15 t65 H)
 (p.bin .eql t15 (.sc (.int .i64 11)) fun t66 =>
 j1 t1 t15 t66 H)))))))))
 (p.guard t6 false H (fun k' => p.call 27 (.fn 82 [] []) [t9] H fun t' H => k' t' H) fun t10 H =>
 p.guard t6 false H (fun k' => p.load true 25 t1 H fun t' => k' t' H) fun t8 H =>
 p.guard t6 false H (fun k' => p.call 4 (.fn 81 [] []) [t8, t10] H fun t' H => k' t' H) fun t11 H =>
 p.guard t6 false H (fun k' => p.un .not t11 fun t' => k' t' H) fun t12 H =>
 p.pick t6 (.sc (.bool true)) t12 fun t13 =>
 p.cond t13
 (k (.sc (.bool false)) H)
 (p.fadr 0 t1 fun t14 =>
 p.load false 1 t14 H fun t15 =>
 p.bin .eql t15 (.sc (.int .i64 1)) fun t17 =>
 p.cond t17
 (p.load true 25 t1 H fun t18 =>
 p.call 4 (.fn 83 [] []) [t18] H fun t19 H =>
 k t19 H)
 (p.bin .eql t15 (.sc (.int .i64 2)) fun t21 =>
 p.cond t21
 (p.fadr 20 t1 fun t22 =>
 p.load false 1 t22 H fun t23 =>
 p.call 4 (.fn 59 [] []) [t23, (.sc (.int .i64 0)), (.sc (.int .i64 5))] H fun t24 H =>
 p.guard t24 true H (fun k' => p.fadr 21 t1 fun t' => k' t' H) fun t26 H =>
 p.guard t24 true H (fun k' => p.load false 1 t26 H fun t' => k' t' H) fun t27 H =>
 p.guard t24 true H (fun k' => p.un .not t27 fun t' => k' t' H) fun t28 H =>
 p.guard t24 true H (fun k' => k' t28 H) fun t29 H =>
 p.guard t29 false H (fun k' => p.fadr 20 t1 fun t' => k' t' H) fun t30 H =>
 p.guard t29 false H (fun k' => p.load false 1 t30 H fun t' => k' t' H) fun t31 H =>
 p.guard t29 false H (fun k' => p.bin .eql t31 (.sc (.int .i64 0)) fun t' => k' t' H) fun t32 H =>
 p.guard t24 true H (fun k' => p.pick t29 (.sc (.bool true)) t32 fun t' => k' t' H) fun t33 H =>
 p.pick t24 t33 (.sc (.bool false)) fun t34 =>
 k t34 H)
 (p.bin .eql t15 (.sc (.int .i64 3)) fun t36 =>
 p.cond t36
 (p.fadr 2 t1 fun t37 =>
 p.load false 1 t37 H fun t38 =>
 p.call 4 (.fn 51 [] []) [t38] H fun t39 H =>
 p.guard t39 true H (fun k' => p.fadr 5 t1 fun t' => k' t' H) fun t41 H =>
 p.guard t39 true H (fun k' => p.load false 1 t41 H fun t' => k' t' H) fun t42 H =>
 p.guard t39 true H (fun k' => p.call 4 (.fn 50 [] []) [t42] H fun t' H => k' t' H) fun t43 H =>
 p.pick t39 t43 (.sc (.bool false)) fun t44 =>
 p.guard t44 true H (fun k' => p.fadr 6 t1 fun t' => k' t' H) fun t46 H =>
 p.guard t44 true H (fun k' => p.load false 1 t46 H fun t' => k' t' H) fun t47 H =>
 p.guard t44 true H (fun k' => p.len t47 fun t' => k' t' H) fun t48 H =>
 p.guard t44 true H (fun k' => p.bin .leq t48 (.sc (.int .i64 40)) fun t' => k' t' H) fun t49 H =>
 p.pick t44 t49 (.sc (.bool false)) fun t50 =>
 p.guard t50 true H (fun k' => p.fadr 2 t1 fun t' => k' t' H) fun t52 H =>
 p.guard t50 true H (fun k' => p.load false 1 t52 H fun t' => k' t' H) fun t53 H =>
 p.guard t50 true H (fun k' => p.bin .eql t53 (.sc (.int .i64 0)) fun t' => k' t' H) fun t54 H =>
 p.guard t50 true H (fun k' => k' t54 H) fun t55 H =>
 p.guard t55 false H (fun k' => p.fadr 4 t1 fun t' => k' t' H) fun t56 H =>
 p.guard t55 false H (fun k' => p.load false 1 t56 H fun t' => k' t' H) fun t57 H =>
 p.guard t55 false H (fun k' => p.call 4 (.fn 57 [] []) [t57] H fun t' H => k' t' H) fun t58 H =>
 p.guard t50 true H (fun k' => p.pick t55 (.sc (.bool true)) t58 fun t' => k' t' H) fun t59 H =>
 p.pick t50 t59 (.sc (.bool false)) fun t60 =>
 k t60 H)
 (p.bin .eql t15 (.sc (.int .i64 4)) fun t62 =>
 letJ (fun (t1 t15 t61 : AV) (H : Heap) => p.cond t61
 (p.fadr 4 t1 fun t67 =>
 p.load false 1 t67 H fun t68 =>
 p.call 4 (.fn 57 [] []) [t68] H fun t69 H =>
 k t69 H)
 (p.bin .eql t15 (.sc (.int .i64 8)) fun t71 =>
 letJ (fun (t1 t70 : AV) (H : Heap) => p.cond t70
 (p.fadr 4 t1 fun t74 =>
 p.load false 1 t74 H fun t75 =>
 p.call 4 (.fn 57 [] []) [t75] H fun t76 H =>
 p.guard t76 true H (fun k' => p.load true 25 t1 H fun t' => k' t' H) fun t78 H =>
 p.guard t76 true H (fun k' => p.call 4 (.fn 84 [] []) [t78] H fun t' H => k' t' H) fun t79 H =>
 p.pick t76 t79 (.sc (.bool false)) fun t80 =>
 k t80 H)
 (k (.sc (.bool true)) H)) fun j4 =>
 p.cond t71
 (j4 t1 t71 H)
 (p.bin .eql t15 (.sc (.int .i64 9)) fun t72 =>
 p.cond t72
 (j4 t1 t72 H)
 (p.bin .eql t15 (.sc (.int .i64 10)) fun t73 =>
 j4 t1 t73 H)))) fun j3 =>
 p.cond t62
 (j3 t1 t15 t62 H)
 (p.bin .eql t15 (.sc (.int .i64 5)) fun t63 =>
 p.cond t63
 (j3 t1 t15 t63 H)
 (p.bin .eql t15 (.sc (.int .i64 6)) fun t64 =>
 p.cond t64
 (j3 t1 t15 t64 H)
 (p.bin .eql t15 (.sc (.int .i64 7)) fun t65 =>
 p.cond t65
 (j3 t1 t15 t65 H)
 (p.bin .eql t15 (.sc (.int .i64 11)) fun t66 =>
 j3 t1 t15 t66 H)))))))))
theorem f60_body (p : Pr β) (n : Nat) (a0 : AV) (H : Heap) (k : AV → Heap → Option β) : evalBody ti0 p n ⟨c60, 81, Go.Proofs.Tryd.f60.results.toList, o60⟩ [a0] H k = f60 p n a0 H k := by kernel_rfl
noncomputable def f32 (p : Pr β) (n : Nat) (a0 a1 : AV) (H : Heap) (k : AV → Heap → Option β) : Option β :=
 p.new [(.sc (.int .i64 0)), (.sc (.bool false)), (.sc (.int .i64 0)), (.sc (.bool false)), (.sc (.int .i64 0)), (.sc (.string ⟨#[]⟩)), .nl, (.sc (.string ⟨#[]⟩)), (.sc (.int .i64 0)), (.sc (.bool false)), (.sc (.int .i64 0)), (.sc (.bool false)), (.sc (.string ⟨#[]⟩)), .nl, (.sc (.int .i64 0)), (.sc (.bool false)), (.sc (.bool false)), (.sc (.string ⟨#[]⟩)), (.sc (.bool false)), .nl, (.sc (.int .i64 0)), (.sc (.bool false)), .nl, .nl, .nl] H fun t4 H =>
 p.fill [(.sc (.int .i64 0)), (.sc (.bool false)), (.sc (.int .i64 0)), (.sc (.bool false)), (.sc (.int .i64 0)), (.sc (.string ⟨#[]⟩)), .nl, (.sc (.string ⟨#[]⟩)), (.sc (.int .i64 0)), (.sc (.bool false)), (.sc (.int .i64 0)), (.sc (.bool false)), (.sc (.string ⟨#[]⟩)), .nl, (.sc (.int .i64 0)), (.sc (.bool false)), (.sc (.bool false)), (.sc (.string ⟨#[]⟩)), (.sc (.bool false)), .nl, (.sc (.int .i64 0)), (.sc (.bool false)), .nl, .nl, .nl] [(0, 1, a0), (4, 1, a1)] fun ct8 =>
 p.new [(.sc (.int .i64 0)), (.sc (.bool false)), (.sc (.int .i64 0)), (.sc (.bool false)), (.sc (.int .i64 0)), (.sc (.string ⟨#[]⟩)), .nl, (.sc (.string ⟨#[]⟩)), (.sc (.int .i64 0)), (.sc (.bool false)), (.sc (.int .i64 0)), (.sc (.bool false)), (.sc (.string ⟨#[]⟩)), .nl, (.sc (.int .i64 0)), (.sc (.bool false)), (.sc (.bool false)), (.sc (.string ⟨#[]⟩)), (.sc (.bool false)), .nl, (.sc (.int .i64 0)), (.sc (.bool false)), .nl, .nl, .nl] H fun t5 H =>
 p.store 25 t5 (.agg ct8) H fun H =>
 p.call 4 (.fn 59 [] []) [a0, (.sc (.int .i64 4)), (.sc (.int .i64 7))] H fun t10 H =>
 p.un .not t10 fun t11 =>
 p.guard t11 true H (fun k' => k' a0 H) fun t13 H =>
 p.guard t11 true H (fun k' => p.bin .neq t13 (.sc (.int .i64 11)) fun t' => k' t' H) fun t14 H =>
 p.pick t11 t14 (.sc (.bool false)) fun t15 =>
 p.guard t15 false H (fun k' => p.load true 25 t5 H fun t' => k' t' H) fun t17 H =>
 p.guard t15 false H (fun k' => p.call 4 (.fn 60 [] []) [t17] H fun t' H => k' t' H) fun t18 H =>
 p.guard t15 false H (fun k' => p.un .not t18 fun t' => k' t' H) fun t19 H =>
 p.pick t15 (.sc (.bool true)) t19 fun t20 =>
 p.cond t20
 (p.fill [(.sc (.int .i64 0)), (.sc (.bool false)), (.sc (.int .i64 0)), (.sc (.bool false)), (.sc (.int .i64 0)), (.sc (.string ⟨#[]⟩)), .nl, (.sc (.string ⟨#[]⟩)), (.sc (.int .i64 0)), (.sc (.bool false)), (.sc (.int .i64 0)), (.sc (.bool false)), (.sc (.string ⟨#[]⟩)), .nl, (.sc (.int .i64 0)), (.sc (.bool false)), (.sc (.bool false)), (.sc (.string ⟨#[]⟩)), (.sc (.bool false)), .nl, (.sc (.int .i64 0)), (.sc (.bool false)), .nl, .nl, .nl] [] fun ct21 =>
 p.store 25 t4 (.agg ct21) H fun H =>
 p.load true 25 t4 H fun r0 =>
 k r0 H)
 (p.load true 25 t5 H fun t22 =>
 p.store 25 t4 t22 H fun H =>
 p.load true 25 t4 H fun r0 =>
 k r0 H)
theorem f32_body (p : Pr β) (n : Nat) (a0 a1 : AV) (H : Heap) (k : AV → Heap → Option β) : evalBody ti0 p n ⟨c32, 23, Go.Proofs.Tryd.f32.results.toList, o32⟩ [a0, a1] H k = f32 p n a0 a1 H k := by kernel_rfl
noncomputable def f7 (p : Pr β) (n : Nat) (a0 a1 : AV) (H : Heap) (k : AV → Heap → Option β) : Option β :=
 p.box a1 H fun t3 H =>
 p.new [(.sc (.int .i64 0)), (.sc (.bool false)), (.sc (.int .i64 0)), (.sc (.bool false)), (.sc (.int .i64 0)), (.sc (.string ⟨#[]⟩)), .nl, (.sc (.string ⟨#[]⟩)), (.sc (.int .i64 0)), (.sc (.bool false)), (.sc (.int .i64 0)), (.sc (.bool false)), (.sc (.string ⟨#[]⟩)), .nl, (.sc (.int .i64 0)), (.sc (.bool false)), (.sc (.bool false)), (.sc (.string ⟨#[]⟩)), (.sc (.bool false)), .nl, (.sc (.int .i64 0)), (.sc (.bool false)), .nl, .nl, .nl] H fun t5 H =>
 p.call 22 (.fn 28 [] []) [a0] H fun t8 H =>
 p.call 4 (.fn 29 [] []) [a0] H fun t10 H =>
 letJ (fun (t3 t5 t6 : AV) (H : Heap) => p.load false 1 t3 H fun t15 =>
 p.call 27 (.fn 32 [] []) [(.sc (.int .i64 7)), t15] H fun t16 H =>
 p.store 25 t5 t16 H fun H =>
 p.load true 25 t5 H fun r1 =>
 k (packA [t6, r1]) H) fun j1 =>
 p.cond t10
 (p.call 22 (.fn 30 [] []) [t8, (.fn 31 [] [t3])] H fun t13 H =>
 j1 t3 t5 t13 H)
 (j1 t3 t5 t8 H)
theorem f7_body (p : Pr β) (n : Nat) (a0 a1 : AV) (H : Heap) (k : AV → Heap → Option β) : evalBody ti0 p n ⟨c7, 17, Go.Proofs.Tryd.f7.results.toList, o7⟩ [a0, a1] H k = f7 p n a0 a1 H k := by kernel_rfl
noncomputable def f8_l0 (p : Pr β) (n : Nat)  (k : AV → Heap → Option β) : Nat → AV → AV → AV → Heap → Option β
 | 0, _, _, _, _ => none
 | m + 1, t0, t1, t5, H => p.len t0 fun t13 =>
   p.bin .lss t5 t13 fun t14 =>
   p.cond t14
   (p.iadr 1 t0 t5 fun t19 =>
   p.load false 1 t19 H fun t20 =>
   p.iadr 1 t1 t5 fun t23 =>
   p.load false 1 t23 H fun t24 =>
   p.bin .neq t20 t24 fun t25 =>
   p.cond t25
   (k (.sc (.bool false)) H)
   (p.bin .add t5 (.sc (.int .i64 1)) fun t16 =>
   f8_l0 p n  k m t0 t1 t16 H))
   (k (.sc (.bool true)) H)
noncomputable def f8 (p : Pr β) (n : Nat) (a0 a1 : AV) (H : Heap) (k : AV → Heap → Option β) : Option β :=
 p.len a0 fun t7 =>
 p.len a1 fun t9 =>
 p.bin .neq t7 t9 fun t10 =>
 p.cond t10
 (k (.sc (.bool false)) H)
 (f8_l0 p n  k n a0 a1 (.sc (.int .i64 0)) H)
noncomputable def f8_L0 (p : Pr β) (n : Nat)  (k : AV → Heap → Option β) (m : Nat) (tm : Tm) (H : Heap) : Option β :=
 iterC 26 (fun tm H k => evalCode ti0 p o8 26 n (cd c8 [1, 1, 0, 1, 0, 0]) tm H k) (blkK 0 (seqK (fun tm H => evalCode ti0 p o8 26 n (cd c8 [1, 1, 1]) tm H (endK ti0 p Go.Proofs.Tryd.f8.results.toList k)) (endK ti0 p Go.Proofs.Tryd.f8.results.toList k))) m tm H
theorem f8_L0_step (p : Pr β) (n : Nat)  (k : AV → Heap → Option β) (m0 : Nat) (t : Nat → AV) (H : Heap) : f8_L0 p n  k (m0 + 1) (tf 26 0 t) H =
 p.len (t 0) fun t13 =>
 p.bin .lss (t 5) t13 fun t14 =>
 p.cond t14
 (p.iadr 1 (t 0) (t 5) fun t19 =>
 p.load false 1 t19 H fun t20 =>
 p.iadr 1 (t 1) (t 5) fun t23 =>
 p.load false 1 t23 H fun t24 =>
 p.bin .neq t20 t24 fun t25 =>
 p.cond t25
 (k (.sc (.bool false)) H)
 (p.bin .add (t 5) (.sc (.int .i64 1)) fun t16 =>
 f8_L0 p n  k m0 (tf 26 0 (ud [(5, t16), (11, (t 5)), (12, (t 0)), (13, t13), (14, t14), (15, (t 5)), (16, t16), (17, (t 0)), (18, (t 5)), (19, t19), (20, t20), (21, (t 1)), (22, (t 5)), (23, t23), (24, t24), (25, t25)] t)) H))
 (k (.sc (.bool true)) H) := by kernel_rfl
theorem f8_l0_eq (p : Pr β) (n : Nat)  (k : AV → Heap → Option β)   (m0 : Nat) : ∀ (t : Nat → AV) (H : Heap), f8_L0 p n  k m0 (tf 26 0 t) H = f8_l0 p n  k m0 (t 0) (t 1) (t 5) H := by
 induction m0 with
 | zero => intros; rfl
 | succ m0 ih =>
  intro t H
  rw [f8_L0_step]
  simp only [ih]
  kernel_rfl
theorem f8_raw (p : Pr β) (n : Nat) (a0 a1 : AV) (H : Heap) (k : AV → Heap → Option β) : evalBody ti0 p n ⟨c8, 26, Go.Proofs.Tryd.f8.results.toList, o8⟩ [a0, a1] H k =
 p.len a0 fun t7 =>
 p.len a1 fun t9 =>
 p.bin .neq t7 t9 fun t10 =>
 p.cond t10
 (k (.sc (.bool false)) H)
 (f8_L0 p n  k n (tf 26 0 (ud [(0, a0), (1, a1), (4, (.sc (.bool false))), (5, (.sc (.int .i64 0))), (6, a0), (7, t7), (8, a1), (9, t9), (10, t10)] ut)) H) := by kernel_rfl
theorem f8_body (p : Pr β) (n : Nat) (a0 a1 : AV) (H : Heap) (k : AV → Heap → Option β) : evalBody ti0 p n ⟨c8, 26, Go.Proofs.Tryd.f8.results.toList, o8⟩ [a0, a1] H k = f8 p n a0 a1 H k := by
 rw [f8_raw]
 simp only [f8_l0_eq]
 kernel_rfl
noncomputable def f33_l0 (p : Pr β) (n : Nat)  (k : AV → Heap → Option β) : Nat → AV → AV → AV → Heap → Option β
 | 0, _, _, _, _ => none
 | m + 1, t0, t1, t5, H => p.len t0 fun t13 =>
   p.bin .lss t5 t13 fun t14 =>
   p.cond t14
   (p.iadr 1 t0 t5 fun t19 =>
   p.load false 1 t19 H fun t20 =>
   p.iadr 1 t1 t5 fun t23 =>
   p.load false 1 t23 H fun t24 =>
   p.bin .neq t20 t24 fun t25 =>
   p.cond t25
   (k (.sc (.bool false)) H)
   (p.bin .add t5 (.sc (.int .i64 1)) fun t16 =>
   f33_l0 p n  k m t0 t1 t16 H))
   (k (.sc (.bool true)) H)
noncomputable def f33 (p : Pr β) (n : Nat) (a0 a1 : AV) (H : Heap) (k : AV → Heap → Option β) : Option β :=
 p.len a0 fun t7 =>
 p.len a1 fun t9 =>
 p.bin .neq t7 t9 fun t10 =>
 p.cond t10
 (k (.sc (.bool false)) H)
 (f33_l0 p n  k n a0 a1 (.sc (.int .i64 0)) H)
noncomputable def f33_L0 (p : Pr β) (n : Nat)  (k : AV → Heap → Option β) (m : Nat) (tm : Tm) (H : Heap) : Option β :=
 iterC 26 (fun tm H k => evalCode ti0 p o33 26 n (cd c33 [1, 1, 0, 1, 0, 0]) tm H k) (blkK 0 (seqK (fun tm H => evalCode ti0 p o33 26 n (cd c33 [1, 1, 1]) tm H (endK ti0 p Go.Proofs.Tryd.f33.results.toList k)) (endK ti0 p Go.Proofs.Tryd.f33.results.toList k))) m tm H
theorem f33_L0_step (p : Pr β) (n : Nat)  (k : AV → Heap → Option β) (m0 : Nat) (t : Nat → AV) (H : Heap) : f33_L0 p n  k (m0 + 1) (tf 26 0 t) H =
 p.len (t 0) fun t13 =>
 p.bin .lss (t 5) t13 fun t14 =>
 p.cond t14
 (p.iadr 1 (t 0) (t 5) fun t19 =>
 p.load false 1 t19 H fun t20 =>
 p.iadr 1 (t 1) (t 5) fun t23 =>
 p.load false 1 t23 H fun t24 =>
 p.bin .neq t20 t24 fun t25 =>
 p.cond t25
 (k (.sc (.bool false)) H)
 (p.bin .add (t 5) (.sc (.int .i64 1)) fun t16 =>
 f33_L0 p n  k m0 (tf 26 0 (ud [(5, t16), (11, (t 5)), (12, (t 0)), (13, t13), (14, t14), (15, (t 5)), (16, t16), (17, (t 0)), (18, (t 5)), (19, t19), (20, t20), (21, (t 1)), (22, (t 5)), (23, t23), (24, t24), (25, t25)] t)) H))
 (k (.sc (.bool true)) H) := by kernel_rfl
theorem f33_l0_eq (p : Pr β) (n : Nat)  (k : AV → Heap → Option β)   (m0 : Nat) : ∀ (t : Nat → AV) (H : Heap), f33_L0 p n  k m0 (tf 26 0 t) H = f33_l0 p n  k m0 (t 0) (t 1) (t 5) H := by
 induction m0 with
 | zero => intros; rfl
 | succ m0 ih =>
  intro t H
  rw [f33_L0_step]
  simp only [ih]
  kernel_rfl
theorem f33_raw (p : Pr β) (n : Nat) (a0 a1 : AV) (H : Heap) (k : AV → Heap → Option β) : evalBody ti0 p n ⟨c33, 26, Go.Proofs.Tryd.f33.results.toList, o33⟩ [a0, a1] H k =
 p.len a0 fun t7 =>
 p.len a1 fun t9 =>
 p.bin .neq t7 t9 fun t10 =>
 p.cond t10
 (k (.sc (.bool false)) H)
 (f33_L0 p n  k n (tf 26 0 (ud [(0, a0), (1, a1), (4, (.sc (.bool false))), (5, (.sc (.int .i64 0))), (6, a0), (7, t7), (8, a1), (9, t9), (10, t10)] ut)) H) := by kernel_rfl
theorem f33_body (p : Pr β) (n : Nat) (a0 a1 : AV) (H : Heap) (k : AV → Heap → Option β) : evalBody ti0 p n ⟨c33, 26, Go.Proofs.Tryd.f33.results.toList, o33⟩ [a0, a1] H k = f33 p n a0 a1 H k := by
 rw [f33_raw]
 simp only [f33_l0_eq]
 kernel_rfl
noncomputable def f61 (p : Pr β) (n : Nat) (a0 a1 : AV) (H : Heap) (k : AV → Heap → Option β) : Option β :=
 p.box a0 H fun t2 H =>
 p.box a1 H fun t3 H =>
 p.fadr 0 t2 fun t5 =>
 p.load false 1 t5 H fun t6 =>
 p.fadr 0 t3 fun t7 =>
 p.load false 1 t7 H fun t8 =>
 p.bin .neq t6 t8 fun t9 =>
 p.cond t9
 (k (.sc (.bool false)) H)
 (p.fadr 1 t2 fun t10 =>
 p.load false 1 t10 H fun t11 =>
 p.fadr 1 t3 fun t12 =>
 p.load false 1 t12 H fun t13 =>
 p.bin .neq t11 t13 fun t14 =>
 p.cond t14
 (k (.sc (.bool false)) H)
 (k (.sc (.bool true)) H))
theorem f61_body (p : Pr β) (n : Nat) (a0 a1 : AV) (H : Heap) (k : AV → Heap → Option β) : evalBody ti0 p n ⟨c61, 15, Go.Proofs.Tryd.f61.results.toList, o61⟩ [a0, a1] H k = f61 p n a0 a1 H k := by kernel_rfl
noncomputable def f34_l0 (p : Pr β) (n : Nat)  (k : AV → Heap → Option β) : Nat → AV → AV → AV → Heap → Option β
 | 0, _, _, _, _ => none
 | m + 1, t0, t1, t5, H => p.len t0 fun t13 =>
   p.bin .lss t5 t13 fun t14 =>
   p.cond t14
   (p.iadr 2 t0 t5 fun t19 =>
   p.load true 2 t19 H fun t20 =>
   p.iadr 2 t1 t5 fun t23 =>
   p.load true 2 t23 H fun t24 =>
   p.call 4 (.fn 61 [] []) [t20, t24] H fun t25 H =>
   p.un .not t25 fun t26 =>
   p.cond t26
   (k (.sc (.bool false)) H)
   (p.bin .add t5 (.sc (.int .i64 1)) fun t16 =>
   f34_l0 p n  k m t0 t1 t16 H))
   (k (.sc (.bool true)) H)
noncomputable def f34 (p : Pr β) (n : Nat) (a0 a1 : AV) (H : Heap) (k : AV → Heap → Option β) : Option β :=
 p.len a0 fun t7 =>
 p.len a1 fun t9 =>
 p.bin .neq t7 t9 fun t10 =>
 p.cond t10
 (k (.sc (.bool false)) H)
 (f34_l0 p n  k n a0 a1 (.sc (.int .i64 0)) H)
noncomputable def f34_L0 (p : Pr β) (n : Nat)  (k : AV → Heap → Option β) (m : Nat) (tm : Tm) (H : Heap) : Option β :=
 iterC 27 (fun tm H k => evalCode ti0 p o34 27 n (cd c34 [1, 1, 0, 1, 0, 0]) tm H k) (blkK 0 (seqK (fun tm H => evalCode ti0 p o34 27 n (cd c34 [1, 1, 1]) tm H (endK ti0 p Go.Proofs.Tryd.f34.results.toList k)) (endK ti0 p Go.Proofs.Tryd.f34.results.toList k))) m tm H
theorem f34_L0_step (p : Pr β) (n : Nat)  (k : AV → Heap → Option β) (m0 : Nat) (t : Nat → AV) (H : Heap) : f34_L0 p n  k (m0 + 1) (tf 27 0 t) H =
 p.len (t 0) fun t13 =>
 p.bin .lss (t 5) t13 fun t14 =>
 p.cond t14
 (p.iadr 2 (t 0) (t 5) fun t19 =>
 p.load true 2 t19 H fun t20 =>
 p.iadr 2 (t 1) (t 5) fun t23 =>
 p.load true 2 t23 H fun t24 =>
 p.call 4 (.fn 61 [] []) [t20, t24] H fun t25 H =>
 p.un .not t25 fun t26 =>
 p.cond t26
 (k (.sc (.bool false)) H)
 (p.bin .add (t 5) (.sc (.int .i64 1)) fun t16 =>
 f34_L0 p n  k m0 (tf 27 0 (ud [(5, t16), (11, (t 5)), (12, (t 0)), (13, t13), (14, t14), (15, (t 5)), (16, t16), (17, (t 0)), (18, (t 5)), (19, t19), (20, t20), (21, (t 1)), (22, (t 5)), (23, t23), (24, t24), (25, t25), (26, t26)] t)) H))
 (k (.sc (.bool true)) H) := by kernel_rfl
theorem f34_l0_eq (p : Pr β) (n : Nat)  (k : AV → Heap → Option β)   (m0 : Nat) : ∀ (t : Nat → AV) (H : Heap), f34_L0 p n  k m0 (tf 27 0 t) H = f34_l0 p n  k m0 (t 0) (t 1) (t 5) H := by
 induction m0 with
 | zero => intros; rfl
 | succ m0 ih =>
  intro t H
  rw [f34_L0_step]
  simp only [ih]
  kernel_rfl
theorem f34_raw (p : Pr β) (n : Nat) (a0 a1 : AV) (H : Heap) (k : AV → Heap → Option β) : evalBody ti0 p n ⟨c34, 27, Go.Proofs.Tryd.f34.results.toList, o34⟩ [a0, a1] H k =
 p.len a0 fun t7 =>
 p.len a1 fun t9 =>
 p.bin .neq t7 t9 fun t10 =>
 p.cond t10
 (k (.sc (.bool false)) H)
 (f34_L0 p n  k n (tf 27 0 (ud [(0, a0), (1, a1), (4, (.sc (.bool false))), (5, (.sc (.int .i64 0))), (6, a0), (7, t7), (8, a1), (9, t9), (10, t10)] ut)) H) := by kernel_rfl
theorem f34_body (p : Pr β) (n : Nat) (a0 a1 : AV) (H : Heap) (k : AV → Heap → Option β) : evalBody ti0 p n ⟨c34, 27, Go.Proofs.Tryd.f34.results.toList, o34⟩ [a0, a1] H k = f34 p n a0 a1 H k := by
 rw [f34_raw]
 simp only [f34_l0_eq]
 kernel_rfl
noncomputable def f35_l0 (p : Pr β) (n : Nat)  (k : AV → Heap → Option β) : Nat → AV → AV → AV → Heap → Option β
 | 0, _, _, _, _ => none
 | m + 1, t0, t1, t5, H => p.len t0 fun t13 =>
   p.bin .lss t5 t13 fun t14 =>
   p.cond t14
   (p.iadr 1 t0 t5 fun t19 =>
   p.load false 1 t19 H fun t20 =>
   p.iadr 1 t1 t5 fun t23 =>
   p.load false 1 t23 H fun t24 =>
   p.bin .neq t20 t24 fun t25 =>
   p.cond t25
   (k (.sc (.bool false)) H)
   (p.bin .add t5 (.sc (.int .i64 1)) fun t16 =>
   f35_l0 p n  k m t0 t1 t16 H))
   (k (.sc (.bool true)) H)
noncomputable def f35 (p : Pr β) (n : Nat) (a0 a1 : AV) (H : Heap) (k : AV → Heap → Option β) : Option β :=
 p.len a0 fun t7 =>
 p.len a1 fun t9 =>
 p.bin .neq t7 t9 fun t10 =>
 p.cond t10
 (k (.sc (.bool false)) H)
 (f35_l0 p n  k n a0 a1 (.sc (.int .i64 0)) H)
noncomputable def f35_L0 (p : Pr β) (n : Nat)  (k : AV → Heap → Option β) (m : Nat) (tm : Tm) (H : Heap) : Option β :=
 iterC 26 (fun tm H k => evalCode ti0 p o35 26 n (cd c35 [1, 1, 0, 1, 0, 0]) tm H k) (blkK 0 (seqK (fun tm H => evalCode ti0 p o35 26 n (cd c35 [1, 1, 1]) tm H (endK ti0 p Go.Proofs.Tryd.f35.results.toList k)) (endK ti0 p Go.Proofs.Tryd.f35.results.toList k))) m tm H
theorem f35_L0_step (p : Pr β) (n : Nat)  (k : AV → Heap → Option β) (m0 : Nat) (t : Nat → AV) (H : Heap) : f35_L0 p n  k (m0 + 1) (tf 26 0 t) H =
 p.len (t 0) fun t13 =>
 p.bin .lss (t 5) t13 fun t14 =>
 p.cond t14
 (p.iadr 1 (t 0) (t 5) fun t19 =>
 p.load false 1 t19 H fun t20 =>
 p.iadr 1 (t 1) (t 5) fun t23 =>
 p.load false 1 t23 H fun t24 =>
 p.bin .neq t20 t24 fun t25 =>
 p.cond t25
 (k (.sc (.bool false)) H)
 (p.bin .add (t 5) (.sc (.int .i64 1)) fun t16 =>
 f35_L0 p n  k m0 (tf 26 0 (ud [(5, t16), (11, (t 5)), (12, (t 0)), (13, t13), (14, t14), (15, (t 5)), (16, t16), (17, (t 0)), (18, (t 5)), (19, t19), (20, t20), (21, (t 1)), (22, (t 5)), (23, t23), (24, t24), (25, t25)] t)) H))
 (k (.sc (.bool true)) H) := by kernel_rfl
theorem f35_l0_eq (p : Pr β) (n : Nat)  (k : AV → Heap → Option β)   (m0 : Nat) : ∀ (t : Nat → AV) (H : Heap), f35_L0 p n  k m0 (tf 26 0 t) H = f35_l0 p n  k m0 (t 0) (t 1) (t 5) H := by
 induction m0 with
 | zero => intros; rfl
 | succ m0 ih =>
  intro t H
  rw [f35_L0_step]
  simp only [ih]
  kernel_rfl
theorem f35_raw (p : Pr β) (n : Nat) (a0 a1 : AV) (H : Heap) (k : AV → Heap → Option β) : evalBody ti0 p n ⟨c35, 26, Go.Proofs.Tryd.f35.results.toList, o35⟩ [a0, a1] H k =
 p.len a0 fun t7 =>
 p.len a1 fun t9 =>
 p.bin .neq t7 t9 fun t10 =>
 p.cond t10
 (k (.sc (.bool false)) H)
 (f35_L0 p n  k n (tf 26 0 (ud [(0, a0), (1, a1), (4, (.sc (.bool false))), (5, (.sc (.int .i64 0))), (6, a0), (7, t7), (8, a1), (9, t9), (10, t10)] ut)) H) := by kernel_rfl
theorem f35_body (p : Pr β) (n : Nat) (a0 a1 : AV) (H : Heap) (k : AV → Heap → Option β) : evalBody ti0 p n ⟨c35, 26, Go.Proofs.Tryd.f35.results.toList, o35⟩ [a0, a1] H k = f35 p n a0 a1 H k := by
 rw [f35_raw]
 simp only [f35_l0_eq]
 kernel_rfl
noncomputable def f9 (p : Pr β) (n : Nat) (a0 a1 : AV) (H : Heap) (k : AV → Heap → Option β) : Option β :=
 p.box a0 H fun t2 H =>
 p.box a1 H fun t3 H =>
 p.fadr 0 t2 fun t5 =>
 p.load false 1 t5 H fun t6 =>
 p.fadr 0 t3 fun t7 =>
 p.load false 1 t7 H fun t8 =>
 p.bin .neq t6 t8 fun t9 =>
 p.cond t9
 (k (.sc (.bool false)) H)
 (p.fadr 1 t2 fun t10 =>
 p.load false 1 t10 H fun t11 =>
 p.fadr 1 t3 fun t12 =>
 p.load false 1 t12 H fun t13 =>
 p.binB .neq t11 t13 fun t14 =>
 p.cond t14
 (k (.sc (.bool false)) H)
 (p.fadr 2 t2 fun t15 =>
 p.load false 1 t15 H fun t16 =>
 p.fadr 2 t3 fun t17 =>
 p.load false 1 t17 H fun t18 =>
 p.bin .neq t16 t18 fun t19 =>
 p.cond t19
 (k (.sc (.bool false)) H)
 (p.fadr 3 t2 fun t20 =>
 p.load false 1 t20 H fun t21 =>
 p.fadr 3 t3 fun t22 =>
 p.load false 1 t22 H fun t23 =>
 p.binB .neq t21 t23 fun t24 =>
 p.cond t24
 (k (.sc (.bool false)) H)
 (p.fadr 4 t2 fun t25 =>
 p.load false 1 t25 H fun t26 =>
 p.fadr 4 t3 fun t27 =>
 p.load false 1 t27 H fun t28 =>
 p.bin .neq t26 t28 fun t29 =>
 p.cond t29
 (k (.sc (.bool false)) H)
 (p.fadr 5 t2 fun t30 =>
 p.load false 1 t30 H fun t31 =>
 p.fadr 5 t3 fun t32 =>
 p.load false 1 t32 H fun t33 =>
 p.bin .neq t31 t33 fun t34 =>
 p.cond t34
 (k (.sc (.bool false)) H)
 (p.fadr 6 t2 fun t35 =>
 p.load false 1 t35 H fun t36 =>
 p.fadr 6 t3 fun t37 =>
 p.load false 1 t37 H fun t38 =>
 p.call 4 (.fn 33 [] []) [t36, t38] H fun t39 H =>
 p.un .not t39 fun t40 =>
 p.cond t40
 (k (.sc (.bool false)) H)
 (p.fadr 7 t2 fun t41 =>
 p.load false 1 t41 H fun t42 =>
 p.fadr 7 t3 fun t43 =>
 p.load false 1 t43 H fun t44 =>
 p.bin .neq t42 t44 fun t45 =>
 p.cond t45
 (k (.sc (.bool false)) H)
 (p.fadr 8 t2 fun t46 =>
 p.load false 1 t46 H fun t47 =>
 p.fadr 8 t3 fun t48 =>
 p.load false 1 t48 H fun t49 =>
 p.bin .neq t47 t49 fun t50 =>
 p.cond t50
 (k (.sc (.bool false)) H)
 (p.fadr 9 t2 fun t51 =>
 p.load false 1 t51 H fun t52 =>
 p.fadr 9 t3 fun t53 =>
 p.load false 1 t53 H fun t54 =>
 p.binB .neq t52 t54 fun t55 =>
 p.cond t55
 (k (.sc (.bool false)) H)
 (p.fadr 10 t2 fun t56 =>
 p.load false 1 t56 H fun t57 =>
 p.fadr 10 t3 fun t58 =>
 p.load false 1 t58 H fun t59 =>
 p.bin .neq t57 t59 fun t60 =>
 p.cond t60
 (k (.sc (.bool false)) H)
 (p.fadr 11 t2 fun t61 =>
 p.load false 1 t61 H fun t62 =>
 p.fadr 11 t3 fun t63 =>
 p.load false 1 t63 H fun t64 =>
 p.binB .neq t62 t64 fun t65 =>
 p.cond t65
 (k (.sc (.bool false)) H)
 (p.fadr 12 t2 fun t66 =>
 p.load false 1 t66 H fun t67 =>
 p.fadr 12 t3 fun t68 =>
 p.load false 1 t68 H fun t69 =>
 p.bin .neq t67 t69 fun t70 =>
 p.cond t70
 (k (.sc (.bool false)) H)
 (p.fadr 13 t2 fun t71 =>
 p.load false 1 t71 H fun t72 =>
 p.fadr 13 t3 fun t73 =>
 p.load false 1 t73 H fun t74 =>
 p.call 4 (.fn 33 [] []) [t72, t74] H fun t75 H =>
 p.un .not t75 fun t76 =>
 p.cond t76
 (k (.sc (.bool false)) H)
 (p.fadr 14 t2 fun t77 =>
 p.load false 1 t77 H fun t78 =>
 p.fadr 14 t3 fun t79 =>
 p.load false 1 t79 H fun t80 =>
 p.bin .neq t78 t80 fun t81 =>
 p.cond t81
 (k (.sc (.bool false)) H)
 (p.fadr 15 t2 fun t82 =>
 p.load false 1 t82 H fun t83 =>
 p.fadr 15 t3 fun t84 =>
 p.load false 1 t84 H fun t85 =>
 p.binB .neq t83 t85 fun t86 =>
 p.cond t86
 (k (.sc (.bool false)) H)
 (p.fadr 16 t2 fun t87 =>
 p.load false 1 t87 H fun t88 =>
 p.fadr 16 t3 fun t89 =>
 p.load false 1 t89 H fun t90 =>
 p.binB .neq t88 t90 fun t91 =>
 p.cond t91
 (k (.sc (.bool false)) H)
 (p.fadr 17 t2 fun t92 =>
 p.load false 1 t92 H fun t93 =>
 p.fadr 17 t3 fun t94 =>
 p.load false 1 t94 H fun t95 =>
 p.bin .neq t93 t95 fun t96 =>
 p.cond t96
 (k (.sc (.bool false)) H)
 (p.fadr 18 t2 fun t97 =>
 p.load false 1 t97 H fun t98 =>
 p.fadr 18 t3 fun t99 =>
 p.load false 1 t99 H fun t100 =>
 p.binB .neq t98 t100 fun t101 =>
 p.cond t101
 (k (.sc (.bool false)) H)
 (p.fadr 19 t2 fun t102 =>
 p.load false 1 t102 H fun t103 =>
 p.fadr 19 t3 fun t104 =>
 p.load false 1 t104 H fun t105 =>
 p.call 4 (.fn 33 [] []) [t103, t105] H fun t106 H =>
 p.un .not t106 fun t107 =>
 p.cond t107
 (k (.sc (.bool false)) H)
 (p.fadr 20 t2 fun t108 =>
 p.load false 1 t108 H fun t109 =>
 p.fadr 20 t3 fun t110 =>
 p.load false 1 t110 H fun t111 =>
 p.bin .neq t109 t111 fun t112 =>
 p.cond t112
 (k (.sc (.bool false)) H)
 (p.fadr 21 t2 fun t113 =>
 p.load false 1 t113 H fun t114 =>
 p.fadr 21 t3 fun t115 =>
 p.load false 1 t115 H fun t116 =>
 p.binB .neq t114 t116 fun t117 =>
 p.cond t117
 (k (.sc (.bool false)) H)
 (p.fadr 22 t2 fun t118 =>
 p.load false 1 t118 H fun t119 =>
 p.fadr 22 t3 fun t120 =>
 p.load false 1 t120 H fun t121 =>
 p.call 4 (.fn 34 [] []) [t119, t121] H fun t122 H =>
 p.un .not t122 fun t123 =>
 p.cond t123
 (k (.sc (.bool false)) H)
 (p.fadr 23 t2 fun t124 =>
 p.load false 1 t124 H fun t125 =>
 p.fadr 23 t3 fun t126 =>
 p.load false 1 t126 H fun t127 =>
 p.call 4 (.fn 35 [] []) [t125, t127] H fun t128 H =>
 p.un .not t128 fun t129 =>
 p.cond t129
 (k (.sc (.bool false)) H)
 (p.fadr 24 t2 fun t130 =>
 p.load false 1 t130 H fun t131 =>
 p.fadr 24 t3 fun t132 =>
 p.load false 1 t132 H fun t133 =>
 p.call 4 (.fn 8 [] []) [t131, t133] H fun t134 H =>
 p.un .not t134 fun t135 =>
 p.cond t135
 (k (.sc (.bool false)) H)
 (k (.sc (.bool true)) H)))))))))))))))))))))))))
theorem f9_body (p : Pr β) (n : Nat) (a0 a1 : AV) (H : Heap) (k : AV → Heap → Option β) : evalBody ti0 p n ⟨c9, 136, Go.Proofs.Tryd.f9.results.toList, o9⟩ [a0, a1] H k = f9 p n a0 a1 H k := by kernel_rfl
noncomputable def f10_l0 (p : Pr β) (n : Nat)  (k : AV → Heap → Option β) : Nat → AV → AV → AV → Heap → Option β
 | 0, _, _, _, _ => none
 | m + 1, t0, t1, t5, H => p.len t0 fun t8 =>
   p.bin .lss t5 t8 fun t9 =>
   p.cond t9
   (p.iadr 1 t0 t5 fun t15 =>
   p.store 1 t15 t1 H fun H =>
   p.bin .add t1 (.sc (.int .i64 1)) fun t17 =>
   p.bin .add t5 (.sc (.int .i64 1)) fun t11 =>
   f10_l0 p n  k m t0 t17 t11 H)
   (k t1 H)
noncomputable def f10 (p : Pr β) (n : Nat) (a0 a1 : AV) (H : Heap) (k : AV → Heap → Option β) : Option β :=
 f10_l0 p n  k n a0 a1 (.sc (.int .i64 0)) H
noncomputable def f10_L0 (p : Pr β) (n : Nat)  (k : AV → Heap → Option β) (m : Nat) (tm : Tm) (H : Heap) : Option β :=
 iterC 19 (fun tm H k => evalCode ti0 p o10 19 n (cd c10 [1, 0, 1, 0, 0]) tm H k) (blkK 0 (seqK (fun tm H => evalCode ti0 p o10 19 n (cd c10 [1, 1]) tm H (endK ti0 p Go.Proofs.Tryd.f10.results.toList k)) (endK ti0 p Go.Proofs.Tryd.f10.results.toList k))) m tm H
theorem f10_L0_step (p : Pr β) (n : Nat)  (k : AV → Heap → Option β) (m0 : Nat) (t : Nat → AV) (H : Heap) : f10_L0 p n  k (m0 + 1) (tf 19 0 t) H =
 p.len (t 0) fun t8 =>
 p.bin .lss (t 5) t8 fun t9 =>
 p.cond t9
 (p.iadr 1 (t 0) (t 5) fun t15 =>
 p.store 1 t15 (t 1) H fun H =>
 p.bin .add (t 1) (.sc (.int .i64 1)) fun t17 =>
 p.bin .add (t 5) (.sc (.int .i64 1)) fun t11 =>
 f10_L0 p n  k m0 (tf 19 0 (ud [(1, t17), (5, t11), (6, (t 5)), (7, (t 0)), (8, t8), (9, t9), (10, (t 5)), (11, t11), (12, (t 0)), (13, (t 5)), (14, (t 1)), (15, t15), (16, (t 1)), (17, t17)] t)) H)
 (k (t 1) H) := by kernel_rfl
theorem f10_l0_eq (p : Pr β) (n : Nat)  (k : AV → Heap → Option β)   (m0 : Nat) : ∀ (t : Nat → AV) (H : Heap), f10_L0 p n  k m0 (tf 19 0 t) H = f10_l0 p n  k m0 (t 0) (t 1) (t 5) H := by
 induction m0 with
 | zero => intros; rfl
 | succ m0 ih =>
  intro t H
  rw [f10_L0_step]
  simp only [ih]
  kernel_rfl
theorem f10_raw (p : Pr β) (n : Nat) (a0 a1 : AV) (H : Heap) (k : AV → Heap → Option β) : evalBody ti0 p n ⟨c10, 19, Go.Proofs.Tryd.f10.results.toList, o10⟩ [a0, a1] H k =
 f10_L0 p n  k n (tf 19 0 (ud [(0, a0), (1, a1), (4, (.sc (.int .i64 0))), (5, (.sc (.int .i64 0)))] ut)) H := by kernel_rfl
theorem f10_body (p : Pr β) (n : Nat) (a0 a1 : AV) (H : Heap) (k : AV → Heap → Option β) : evalBody ti0 p n ⟨c10, 19, Go.Proofs.Tryd.f10.results.toList, o10⟩ [a0, a1] H k = f10 p n a0 a1 H k := by
 rw [f10_raw]
 simp only [f10_l0_eq]
 kernel_rfl
noncomputable def f36_l0 (p : Pr β) (n : Nat)  (k : AV → Heap → Option β) : Nat → AV → AV → AV → Heap → Option β
 | 0, _, _, _, _ => none
 | m + 1, t0, t1, t5, H => p.len t0 fun t8 =>
   p.bin .lss t5 t8 fun t9 =>
   p.cond t9
   (p.cvI .u8 t1 fun t15 =>
   p.iadr 1 t0 t5 fun t16 =>
   p.store 1 t16 t15 H fun H =>
   p.bin .add t1 (.sc (.int .i64 1)) fun t18 =>
   p.bin .add t5 (.sc (.int .i64 1)) fun t11 =>
   f36_l0 p n  k m t0 t18 t11 H)
   (k t1 H)
noncomputable def f36 (p : Pr β) (n : Nat) (a0 a1 : AV) (H : Heap) (k : AV → Heap → Option β) : Option β :=
 f36_l0 p n  k n a0 a1 (.sc (.int .i64 0)) H
noncomputable def f36_L0 (p : Pr β) (n : Nat)  (k : AV → Heap → Option β) (m : Nat) (tm : Tm) (H : Heap) : Option β :=
 iterC 20 (fun tm H k => evalCode ti0 p o36 20 n (cd c36 [1, 0, 1, 0, 0]) tm H k) (blkK 0 (seqK (fun tm H => evalCode ti0 p o36 20 n (cd c36 [1, 1]) tm H (endK ti0 p Go.Proofs.Tryd.f36.results.toList k)) (endK ti0 p Go.Proofs.Tryd.f36.results.toList k))) m tm H
theorem f36_L0_step (p : Pr β) (n : Nat)  (k : AV → Heap → Option β) (m0 : Nat) (t : Nat → AV) (H : Heap) : f36_L0 p n  k (m0 + 1) (tf 20 0 t) H =
 p.len (t 0) fun t8 =>
 p.bin .lss (t 5) t8 fun t9 =>
 p.cond t9
 (p.cvI .u8 (t 1) fun t15 =>
 p.iadr 1 (t 0) (t 5) fun t16 =>
 p.store 1 t16 t15 H fun H =>
 p.bin .add (t 1) (.sc (.int .i64 1)) fun t18 =>
 p.bin .add (t 5) (.sc (.int .i64 1)) fun t11 =>
 f36_L0 p n  k m0 (tf 20 0 (ud [(1, t18), (5, t11), (6, (t 5)), (7, (t 0)), (8, t8), (9, t9), (10, (t 5)), (11, t11), (12, (t 0)), (13, (t 5)), (14, (t 1)), (15, t15), (16, t16), (17, (t 1)), (18, t18)] t)) H)
 (k (t 1) H) := by kernel_rfl
theorem f36_l0_eq (p : Pr β) (n : Nat)  (k : AV → Heap → Option β)   (m0 : Nat) : ∀ (t : Nat → AV) (H : Heap), f36_L0 p n  k m0 (tf 20 0 t) H = f36_l0 p n  k m0 (t 0) (t 1) (t 5) H := by
 induction m0 with
 | zero => intros; rfl
 | succ m0 ih =>
  intro t H
  rw [f36_L0_step]
  simp only [ih]
  kernel_rfl
theorem f36_raw (p : Pr β) (n : Nat) (a0 a1 : AV) (H : Heap) (k : AV → Heap → Option β) : evalBody ti0 p n ⟨c36, 20, Go.Proofs.Tryd.f36.results.toList, o36⟩ [a0, a1] H k =
 f36_L0 p n  k n (tf 20 0 (ud [(0, a0), (1, a1), (4, (.sc (.int .i64 0))), (5, (.sc (.int .i64 0)))] ut)) H := by kernel_rfl
theorem f36_body (p : Pr β) (n : Nat) (a0 a1 : AV) (H : Heap) (k : AV → Heap → Option β) : evalBody ti0 p n ⟨c36, 20, Go.Proofs.Tryd.f36.results.toList, o36⟩ [a0, a1] H k = f36 p n a0 a1 H k := by
 rw [f36_raw]
 simp only [f36_l0_eq]
 kernel_rfl
noncomputable def f62_l0 (p : Pr β) (n : Nat)  (k : AV → Heap → Option β) : Nat → AV → AV → Heap → Option β
 | 0, _, _, _ => none
 | m + 1, t0, t3, H => p.bin .gtr t0 (.sc (.int .i64 0)) fun t7 =>
   p.cond t7
   (p.bin .rem t0 (.sc (.int .i64 10)) fun t9 =>
   p.bin .add (.sc (.int .i64 48)) t9 fun t10 =>
   p.cvI .u8 t10 fun t11 =>
   p.fill [(.sc (.int .u8 0))] [(0, 1, t11)] fun ct12 => p.newSl 1 1 ct12 true H fun t12 H =>
   p.cvBS t12 H fun t13 =>
   p.bin .add t13 t3 fun t15 =>
   p.bin .quo t0 (.sc (.int .i64 10)) fun t17 =>
   f62_l0 p n  k m t17 t15 H)
   (p.bin .add (.sc (.string ⟨#[109]⟩)) t3 fun t19 =>
   k t19 H)
noncomputable def f62 (p : Pr β) (n : Nat) (a0 : AV) (H : Heap) (k : AV → Heap → Option β) : Option β :=
 p.bin .leq a0 (.sc (.int .i64 0)) fun t5 =>
 p.cond t5
 (k (.sc (.string ⟨#[109, 48]⟩)) H)
 (f62_l0 p n  k n a0 (.sc (.string ⟨#[]⟩)) H)
noncomputable def f62_L0 (p : Pr β) (n : Nat)  (k : AV → Heap → Option β) (m : Nat) (tm : Tm) (H : Heap) : Option β :=
 iterC 20 (fun tm H k => evalCode ti0 p o62 20 n (cd c62 [1, 1, 1, 0, 0, 0]) tm H k) (blkK 0 (seqK (fun tm H => evalCode ti0 p o62 20 n (cd c62 [1, 1, 1, 1]) tm H (endK ti0 p Go.Proofs.Tryd.f62.results.toList k)) (endK ti0 p Go.Proofs.Tryd.f62.results.toList k))) m tm H
theorem f62_L0_step (p : Pr β) (n : Nat)  (k : AV → Heap → Option β) (m0 : Nat) (t : Nat → AV) (H : Heap) : f62_L0 p n  k (m0 + 1) (tf 20 0 t) H =
 p.bin .gtr (t 0) (.sc (.int .i64 0)) fun t7 =>
 p.cond t7
 (p.bin .rem (t 0) (.sc (.int .i64 10)) fun t9 =>
 p.bin .add (.sc (.int .i64 48)) t9 fun t10 =>
 p.cvI .u8 t10 fun t11 =>
 p.fill [(.sc (.int .u8 0))] [(0, 1, t11)] fun ct12 => p.newSl 1 1 ct12 true H fun t12 H =>
 p.cvBS t12 H fun t13 =>
 p.bin .add t13 (t 3) fun t15 =>
 p.bin .quo (t 0) (.sc (.int .i64 10)) fun t17 =>
 f62_L0 p n  k m0 (tf 20 0 (ud [(0, t17), (3, t15), (6, (t 0)), (7, t7), (8, (t 0)), (9, t9), (10, t10), (11, t11), (12, t12), (13, t13), (14, (t 3)), (15, t15), (16, (t 0)), (17, t17)] t)) H)
 (p.bin .add (.sc (.string ⟨#[109]⟩)) (t 3) fun t19 =>
 k t19 H) := by kernel_rfl
theorem f62_l0_eq (p : Pr β) (n : Nat)  (k : AV → Heap → Option β)   (m0 : Nat) : ∀ (t : Nat → AV) (H : Heap), f62_L0 p n  k m0 (tf 20 0 t) H = f62_l0 p n  k m0 (t 0) (t 3) H := by
 induction m0 with
 | zero => intros; rfl
 | succ m0 ih =>
  intro t H
  rw [f62_L0_step]
  simp only [ih]
  kernel_rfl
theorem f62_raw (p : Pr β) (n : Nat) (a0 : AV) (H : Heap) (k : AV → Heap → Option β) : evalBody ti0 p n ⟨c62, 20, Go.Proofs.Tryd.f62.results.toList, o62⟩ [a0] H k =
 p.bin .leq a0 (.sc (.int .i64 0)) fun t5 =>
 p.cond t5
 (k (.sc (.string ⟨#[109, 48]⟩)) H)
 (f62_L0 p n  k n (tf 20 0 (ud [(0, a0), (2, (.sc (.string ⟨#[]⟩))), (3, (.sc (.string ⟨#[]⟩))), (4, a0), (5, t5)] ut)) H) := by kernel_rfl
theorem f62_body (p : Pr β) (n : Nat) (a0 : AV) (H : Heap) (k : AV → Heap → Option β) : evalBody ti0 p n ⟨c62, 20, Go.Proofs.Tryd.f62.results.toList, o62⟩ [a0] H k = f62 p n a0 H k := by
 rw [f62_raw]
 simp only [f62_l0_eq]
 kernel_rfl
noncomputable def f37_l0 (p : Pr β) (n : Nat)  (k : AV → Heap → Option β) : Nat → AV → AV → AV → Heap → Option β
 | 0, _, _, _, _ => none
 | m + 1, t0, t1, t5, H => p.len t0 fun t8 =>
   p.bin .lss t5 t8 fun t9 =>
   p.cond t9
   (p.call 9 (.fn 62 [] []) [t1] H fun t15 H =>
   p.iadr 2 t0 t5 fun t16 =>
   p.fadr 0 t16 fun t17 =>
   p.store 1 t17 t15 H fun H =>
   p.bin .add t1 (.sc (.int .i64 1)) fun t19 =>
   p.iadr 2 t0 t5 fun t23 =>
   p.fadr 1 t23 fun t24 =>
   p.store 1 t24 t19 H fun H =>
   p.bin .add t19 (.sc (.int .i64 1)) fun t26 =>
   p.bin .add t5 (.sc (.int .i64 1)) fun t11 =>
   f37_l0 p n  k m t0 t26 t11 H)
   (k t1 H)
noncomputable def f37 (p : Pr β) (n : Nat) (a0 a1 : AV) (H : Heap) (k : AV → Heap → Option β) : Option β :=
 f37_l0 p n  k n a0 a1 (.sc (.int .i64 0)) H
noncomputable def f37_L0 (p : Pr β) (n : Nat)  (k : AV → Heap → Option β) (m : Nat) (tm : Tm) (H : Heap) : Option β :=
 iterC 28 (fun tm H k => evalCode ti0 p o37 28 n (cd c37 [1, 0, 1, 0, 0]) tm H k) (blkK 0 (seqK (fun tm H => evalCode ti0 p o37 28 n (cd c37 [1, 1]) tm H (endK ti0 p Go.Proofs.Tryd.f37.results.toList k)) (endK ti0 p Go.Proofs.Tryd.f37.results.toList k))) m tm H
theorem f37_L0_step (p : Pr β) (n : Nat)  (k : AV → Heap → Option β) (m0 : Nat) (t : Nat → AV) (H : Heap) : f37_L0 p n  k (m0 + 1) (tf 28 0 t) H =
 p.len (t 0) fun t8 =>
 p.bin .lss (t 5) t8 fun t9 =>
 p.cond t9
 (p.call 9 (.fn 62 [] []) [(t 1)] H fun t15 H =>
 p.iadr 2 (t 0) (t 5) fun t16 =>
 p.fadr 0 t16 fun t17 =>
 p.store 1 t17 t15 H fun H =>
 p.bin .add (t 1) (.sc (.int .i64 1)) fun t19 =>
 p.iadr 2 (t 0) (t 5) fun t23 =>
 p.fadr 1 t23 fun t24 =>
 p.store 1 t24 t19 H fun H =>
 p.bin .add t19 (.sc (.int .i64 1)) fun t26 =>
 p.bin .add (t 5) (.sc (.int .i64 1)) fun t11 =>
 f37_L0 p n  k m0 (tf 28 0 (ud [(1, t26), (5, t11), (6, (t 5)), (7, (t 0)), (8, t8), (9, t9), (10, (t 5)), (11, t11), (12, (t 0)), (13, (t 5)), (14, (t 1)), (15, t15), (16, t16), (17, t17), (18, (t 1)), (19, t19), (20, (t 0)), (21, (t 5)), (22, t19), (23, t23), (24, t24), (25, t19), (26, t26)] t)) H)
 (k (t 1) H) := by kernel_rfl
theorem f37_l0_eq (p : Pr β) (n : Nat)  (k : AV → Heap → Option β)   (m0 : Nat) : ∀ (t : Nat → AV) (H : Heap), f37_L0 p n  k m0 (tf 28 0 t) H = f37_l0 p n  k m0 (t 0) (t 1) (t 5) H := by
 induction m0 with
 | zero => intros; rfl
 | succ m0 ih =>
  intro t H
  rw [f37_L0_step]
  simp only [ih]
  kernel_rfl
theorem f37_raw (p : Pr β) (n : Nat) (a0 a1 : AV) (H : Heap) (k : AV → Heap → Option β) : evalBody ti0 p n ⟨c37, 28, Go.Proofs.Tryd.f37.results.toList, o37⟩ [a0, a1] H k =
 f37_L0 p n  k n (tf 28 0 (ud [(0, a0), (1, a1), (4, (.sc (.int .i64 0))), (5, (.sc (.int .i64 0)))] ut)) H := by kernel_rfl
theorem f37_body (p : Pr β) (n : Nat) (a0 a1 : AV) (H : Heap) (k : AV → Heap → Option β) : evalBody ti0 p n ⟨c37, 28, Go.Proofs.Tryd.f37.results.toList, o37⟩ [a0, a1] H k = f37 p n a0 a1 H k := by
 rw [f37_raw]
 simp only [f37_l0_eq]
 kernel_rfl
noncomputable def f38_l0 (p : Pr β) (n : Nat)  (k : AV → Heap → Option β) : Nat → AV → AV → AV → Heap → Option β
 | 0, _, _, _, _ => none
 | m + 1, t0, t1, t5, H => p.len t0 fun t8 =>
   p.bin .lss t5 t8 fun t9 =>
   p.cond t9
   (p.call 9 (.fn 62 [] []) [t1] H fun t15 H =>
   p.iadr 1 t0 t5 fun t16 =>
   p.store 1 t16 t15 H fun H =>
   p.bin .add t1 (.sc (.int .i64 1)) fun t18 =>
   p.bin .add t5 (.sc (.int .i64 1)) fun t11 =>
   f38_l0 p n  k m t0 t18 t11 H)
   (k t1 H)
noncomputable def f38 (p : Pr β) (n : Nat) (a0 a1 : AV) (H : Heap) (k : AV → Heap → Option β) : Option β :=
 f38_l0 p n  k n a0 a1 (.sc (.int .i64 0)) H
noncomputable def f38_L0 (p : Pr β) (n : Nat)  (k : AV → Heap → Option β) (m : Nat) (tm : Tm) (H : Heap) : Option β :=
 iterC 20 (fun tm H k => evalCode ti0 p o38 20 n (cd c38 [1, 0, 1, 0, 0]) tm H k) (blkK 0 (seqK (fun tm H => evalCode ti0 p o38 20 n (cd c38 [1, 1]) tm H (endK ti0 p Go.Proofs.Tryd.f38.results.toList k)) (endK ti0 p Go.Proofs.Tryd.f38.results.toList k))) m tm H
theorem f38_L0_step (p : Pr β) (n : Nat)  (k : AV → Heap → Option β) (m0 : Nat) (t : Nat → AV) (H : Heap) : f38_L0 p n  k (m0 + 1) (tf 20 0 t) H =
 p.len (t 0) fun t8 =>
 p.bin .lss (t 5) t8 fun t9 =>
 p.cond t9
 (p.call 9 (.fn 62 [] []) [(t 1)] H fun t15 H =>
 p.iadr 1 (t 0) (t 5) fun t16 =>
 p.store 1 t16 t15 H fun H =>
 p.bin .add (t 1) (.sc (.int .i64 1)) fun t18 =>
 p.bin .add (t 5) (.sc (.int .i64 1)) fun t11 =>
 f38_L0 p n  k m0 (tf 20 0 (ud [(1, t18), (5, t11), (6, (t 5)), (7, (t 0)), (8, t8), (9, t9), (10, (t 5)), (11, t11), (12, (t 0)), (13, (t 5)), (14, (t 1)), (15, t15), (16, t16), (17, (t 1)), (18, t18)] t)) H)
 (k (t 1) H) := by kernel_rfl
theorem f38_l0_eq (p : Pr β) (n : Nat)  (k : AV → Heap → Option β)   (m0 : Nat) : ∀ (t : Nat → AV) (H : Heap), f38_L0 p n  k m0 (tf 20 0 t) H = f38_l0 p n  k m0 (t 0) (t 1) (t 5) H := by
 induction m0 with
 | zero => intros; rfl
 | succ m0 ih =>
  intro t H
  rw [f38_L0_step]
  simp only [ih]
  kernel_rfl
theorem f38_raw (p : Pr β) (n : Nat) (a0 a1 : AV) (H : Heap) (k : AV → Heap → Option β) : evalBody ti0 p n ⟨c38, 20, Go.Proofs.Tryd.f38.results.toList, o38⟩ [a0, a1] H k =
 f38_L0 p n  k n (tf 20 0 (ud [(0, a0), (1, a1), (4, (.sc (.int .i64 0))), (5, (.sc (.int .i64 0)))] ut)) H := by kernel_rfl
theorem f38_body (p : Pr β) (n : Nat) (a0 a1 : AV) (H : Heap) (k : AV → Heap → Option β) : evalBody ti0 p n ⟨c38, 20, Go.Proofs.Tryd.f38.results.toList, o38⟩ [a0, a1] H k = f38 p n a0 a1 H k := by
 rw [f38_raw]
 simp only [f38_l0_eq]
 kernel_rfl
noncomputable def f11 (p : Pr β) (n : Nat) (a0 a1 : AV) (H : Heap) (k : AV → Heap → Option β) : Option β :=
 p.box a0 H fun t2 H =>
 p.fadr 6 t2 fun t5 =>
 p.load false 1 t5 H fun t6 =>
 p.call 3 (.fn 36 [] []) [t6, a1] H fun t8 H =>
 p.fadr 13 t2 fun t9 =>
 p.load false 1 t9 H fun t10 =>
 p.call 3 (.fn 36 [] []) [t10, t8] H fun t12 H =>
 p.fadr 19 t2 fun t13 =>
 p.load false 1 t13 H fun t14 =>
 p.call 3 (.fn 36 [] []) [t14, t12] H fun t16 H =>
 p.fadr 22 t2 fun t17 =>
 p.load false 1 t17 H fun t18 =>
 p.call 3 (.fn 37 [] []) [t18, t16] H fun t20 H =>
 p.fadr 23 t2 fun t21 =>
 p.load false 1 t21 H fun t22 =>
 p.call 3 (.fn 38 [] []) [t22, t20] H fun t24 H =>
 p.fadr 24 t2 fun t25 =>
 p.load false 1 t25 H fun t26 =>
 p.call 3 (.fn 10 [] []) [t26, t24] H fun t28 H =>
 k t28 H
theorem f11_body (p : Pr β) (n : Nat) (a0 a1 : AV) (H : Heap) (k : AV → Heap → Option β) : evalBody ti0 p n ⟨c11, 30, Go.Proofs.Tryd.f11.results.toList, o11⟩ [a0, a1] H k = f11 p n a0 a1 H k := by kernel_rfl
noncomputable def f12_l0 (p : Pr β) (n : Nat)  (k : AV → Heap → Option β) : Nat → AV → AV → AV → Heap → Option β
 | 0, _, _, _, _ => none
 | m + 1, t0, t1, t5, H => p.len t0 fun t8 =>
   p.bin .lss t5 t8 fun t9 =>
   p.cond t9
   (p.iadr 1 t0 t5 fun t14 =>
   p.load false 1 t14 H fun t15 =>
   p.bin .neq t15 t1 fun t17 =>
   p.cond t17
   (k (.sc (.int .i64 (-1))) H)
   (p.bin .add t1 (.sc (.int .i64 1)) fun t19 =>
   p.bin .add t5 (.sc (.int .i64 1)) fun t11 =>
   f12_l0 p n  k m t0 t19 t11 H))
   (k t1 H)
noncomputable def f12 (p : Pr β) (n : Nat) (a0 a1 : AV) (H : Heap) (k : AV → Heap → Option β) : Option β :=
 f12_l0 p n  k n a0 a1 (.sc (.int .i64 0)) H
noncomputable def f12_L0 (p : Pr β) (n : Nat)  (k : AV → Heap → Option β) (m : Nat) (tm : Tm) (H : Heap) : Option β :=
 iterC 21 (fun tm H k => evalCode ti0 p o12 21 n (cd c12 [1, 0, 1, 0, 0]) tm H k) (blkK 0 (seqK (fun tm H => evalCode ti0 p o12 21 n (cd c12 [1, 1]) tm H (endK ti0 p Go.Proofs.Tryd.f12.results.toList k)) (endK ti0 p Go.Proofs.Tryd.f12.results.toList k))) m tm H
theorem f12_L0_step (p : Pr β) (n : Nat)  (k : AV → Heap → Option β) (m0 : Nat) (t : Nat → AV) (H : Heap) : f12_L0 p n  k (m0 + 1) (tf 21 0 t) H =
 p.len (t 0) fun t8 =>
 p.bin .lss (t 5) t8 fun t9 =>
 p.cond t9
 (p.iadr 1 (t 0) (t 5) fun t14 =>
 p.load false 1 t14 H fun t15 =>
 p.bin .neq t15 (t 1) fun t17 =>
 p.cond t17
 (k (.sc (.int .i64 (-1))) H)
 (p.bin .add (t 1) (.sc (.int .i64 1)) fun t19 =>
 p.bin .add (t 5) (.sc (.int .i64 1)) fun t11 =>
 f12_L0 p n  k m0 (tf 21 0 (ud [(1, t19), (5, t11), (6, (t 5)), (7, (t 0)), (8, t8), (9, t9), (10, (t 5)), (11, t11), (12, (t 0)), (13, (t 5)), (14, t14), (15, t15), (16, (t 1)), (17, t17), (18, (t 1)), (19, t19)] t)) H))
 (k (t 1) H) := by kernel_rfl
theorem f12_l0_eq (p : Pr β) (n : Nat)  (k : AV → Heap → Option β)   (m0 : Nat) : ∀ (t : Nat → AV) (H : Heap), f12_L0 p n  k m0 (tf 21 0 t) H = f12_l0 p n  k m0 (t 0) (t 1) (t 5) H := by
 induction m0 with
 | zero => intros; rfl
 | succ m0 ih =>
  intro t H
  rw [f12_L0_step]
  simp only [ih]
  kernel_rfl
theorem f12_raw (p : Pr β) (n : Nat) (a0 a1 : AV) (H : Heap) (k : AV → Heap → Option β) : evalBody ti0 p n ⟨c12, 21, Go.Proofs.Tryd.f12.results.toList, o12⟩ [a0, a1] H k =
 f12_L0 p n  k n (tf 21 0 (ud [(0, a0), (1, a1), (4, (.sc (.int .i64 0))), (5, (.sc (.int .i64 0)))] ut)) H := by kernel_rfl
theorem f12_body (p : Pr β) (n : Nat) (a0 a1 : AV) (H : Heap) (k : AV → Heap → Option β) : evalBody ti0 p n ⟨c12, 21, Go.Proofs.Tryd.f12.results.toList, o12⟩ [a0, a1] H k = f12 p n a0 a1 H k := by
 rw [f12_raw]
 simp only [f12_l0_eq]
 kernel_rfl
noncomputable def f39_l0 (p : Pr β) (n : Nat)  (k : AV → Heap → Option β) : Nat → AV → AV → AV → Heap → Option β
 | 0, _, _, _, _ => none
 | m + 1, t0, t1, t5, H => p.len t0 fun t8 =>
   p.bin .lss t5 t8 fun t9 =>
   p.cond t9
   (p.iadr 1 t0 t5 fun t14 =>
   p.load false 1 t14 H fun t15 =>
   p.cvI .u8 t1 fun t17 =>
   p.bin .neq t15 t17 fun t18 =>
   p.cond t18
   (k (.sc (.int .i64 (-1))) H)
   (p.bin .add t1 (.sc (.int .i64 1)) fun t20 =>
   p.bin .add t5 (.sc (.int .i64 1)) fun t11 =>
   f39_l0 p n  k m t0 t20 t11 H))
   (k t1 H)
noncomputable def f39 (p : Pr β) (n : Nat) (a0 a1 : AV) (H : Heap) (k : AV → Heap → Option β) : Option β :=
 f39_l0 p n  k n a0 a1 (.sc (.int .i64 0)) H
noncomputable def f39_L0 (p : Pr β) (n : Nat)  (k : AV → Heap → Option β) (m : Nat) (tm : Tm) (H : Heap) : Option β :=
 iterC 22 (fun tm H k => evalCode ti0 p o39 22 n (cd c39 [1, 0, 1, 0, 0]) tm H k) (blkK 0 (seqK (fun tm H => evalCode ti0 p o39 22 n (cd c39 [1, 1]) tm H (endK ti0 p Go.Proofs.Tryd.f39.results.toList k)) (endK ti0 p Go.Proofs.Tryd.f39.results.toList k))) m tm H
theorem f39_L0_step (p : Pr β) (n : Nat)  (k : AV → Heap → Option β) (m0 : Nat) (t : Nat → AV) (H : Heap) : f39_L0 p n  k (m0 + 1) (tf 22 0 t) H =
 p.len (t 0) fun t8 =>
 p.bin .lss (t 5) t8 fun t9 =>
 p.cond t9
 (p.iadr 1 (t 0) (t 5) fun t14 =>
 p.load false 1 t14 H fun t15 =>
 p.cvI .u8 (t 1) fun t17 =>
 p.bin .neq t15 t17 fun t18 =>
 p.cond t18
 (k (.sc (.int .i64 (-1))) H)
 (p.bin .add (t 1) (.sc (.int .i64 1)) fun t20 =>
 p.bin .add (t 5) (.sc (.int .i64 1)) fun t11 =>
 f39_L0 p n  k m0 (tf 22 0 (ud [(1, t20), (5, t11), (6, (t 5)), (7, (t 0)), (8, t8), (9, t9), (10, (t 5)), (11, t11), (12, (t 0)), (13, (t 5)), (14, t14), (15, t15), (16, (t 1)), (17, t17), (18, t18), (19, (t 1)), (20, t20)] t)) H))
 (k (t 1) H) := by kernel_rfl
theorem f39_l0_eq (p : Pr β) (n : Nat)  (k : AV → Heap → Option β)   (m0 : Nat) : ∀ (t : Nat → AV) (H : Heap), f39_L0 p n  k m0 (tf 22 0 t) H = f39_l0 p n  k m0 (t 0) (t 1) (t 5) H := by
 induction m0 with
 | zero => intros; rfl
 | succ m0 ih =>
  intro t H
  rw [f39_L0_step]
  simp only [ih]
  kernel_rfl
theorem f39_raw (p : Pr β) (n : Nat) (a0 a1 : AV) (H : Heap) (k : AV → Heap → Option β) : evalBody ti0 p n ⟨c39, 22, Go.Proofs.Tryd.f39.results.toList, o39⟩ [a0, a1] H k =
 f39_L0 p n  k n (tf 22 0 (ud [(0, a0), (1, a1), (4, (.sc (.int .i64 0))), (5, (.sc (.int .i64 0)))] ut)) H := by kernel_rfl
theorem f39_body (p : Pr β) (n : Nat) (a0 a1 : AV) (H : Heap) (k : AV → Heap → Option β) : evalBody ti0 p n ⟨c39, 22, Go.Proofs.Tryd.f39.results.toList, o39⟩ [a0, a1] H k = f39 p n a0 a1 H k := by
 rw [f39_raw]
 simp only [f39_l0_eq]
 kernel_rfl
noncomputable def f40_l0 (p : Pr β) (n : Nat)  (k : AV → Heap → Option β) : Nat → AV → AV → AV → Heap → Option β
 | 0, _, _, _, _ => none
 | m + 1, t0, t1, t5, H => p.len t0 fun t8 =>
   p.bin .lss t5 t8 fun t9 =>
   p.cond t9
   (p.iadr 2 t0 t5 fun t14 =>
   p.fadr 0 t14 fun t15 =>
   p.load false 1 t15 H fun t16 =>
   p.call 9 (.fn 62 [] []) [t1] H fun t18 H =>
   p.bin .neq t16 t18 fun t19 =>
   p.cond t19
   (k (.sc (.int .i64 (-1))) H)
   (p.bin .add t1 (.sc (.int .i64 1)) fun t21 =>
   p.iadr 2 t0 t5 fun t24 =>
   p.fadr 1 t24 fun t25 =>
   p.load false 1 t25 H fun t26 =>
   p.bin .neq t26 t21 fun t28 =>
   p.cond t28
   (k (.sc (.int .i64 (-1))) H)
   (p.bin .add t21 (.sc (.int .i64 1)) fun t30 =>
   p.bin .add t5 (.sc (.int .i64 1)) fun t11 =>
   f40_l0 p n  k m t0 t30 t11 H)))
   (k t1 H)
noncomputable def f40 (p : Pr β) (n : Nat) (a0 a1 : AV) (H : Heap) (k : AV → Heap → Option β) : Option β :=
 f40_l0 p n  k n a0 a1 (.sc (.int .i64 0)) H
noncomputable def f40_L0 (p : Pr β) (n : Nat)  (k : AV → Heap → Option β) (m : Nat) (tm : Tm) (H : Heap) : Option β :=
 iterC 32 (fun tm H k => evalCode ti0 p o40 32 n (cd c40 [1, 0, 1, 0, 0]) tm H k) (blkK 0 (seqK (fun tm H => evalCode ti0 p o40 32 n (cd c40 [1, 1]) tm H (endK ti0 p Go.Proofs.Tryd.f40.results.toList k)) (endK ti0 p Go.Proofs.Tryd.f40.results.toList k))) m tm H
theorem f40_L0_step (p : Pr β) (n : Nat)  (k : AV → Heap → Option β) (m0 : Nat) (t : Nat → AV) (H : Heap) : f40_L0 p n  k (m0 + 1) (tf 32 0 t) H =
 p.len (t 0) fun t8 =>
 p.bin .lss (t 5) t8 fun t9 =>
 p.cond t9
 (p.iadr 2 (t 0) (t 5) fun t14 =>
 p.fadr 0 t14 fun t15 =>
 p.load false 1 t15 H fun t16 =>
 p.call 9 (.fn 62 [] []) [(t 1)] H fun t18 H =>
 p.bin .neq t16 t18 fun t19 =>
 p.cond t19
 (k (.sc (.int .i64 (-1))) H)
 (p.bin .add (t 1) (.sc (.int .i64 1)) fun t21 =>
 p.iadr 2 (t 0) (t 5) fun t24 =>
 p.fadr 1 t24 fun t25 =>
 p.load false 1 t25 H fun t26 =>
 p.bin .neq t26 t21 fun t28 =>
 p.cond t28
 (k (.sc (.int .i64 (-1))) H)
 (p.bin .add t21 (.sc (.int .i64 1)) fun t30 =>
 p.bin .add (t 5) (.sc (.int .i64 1)) fun t11 =>
 f40_L0 p n  k m0 (tf 32 0 (ud [(1, t30), (5, t11), (6, (t 5)), (7, (t 0)), (8, t8), (9, t9), (10, (t 5)), (11, t11), (12, (t 0)), (13, (t 5)), (14, t14), (15, t15), (16, t16), (17, (t 1)), (18, t18), (19, t19), (20, (t 1)), (21, t21), (22, (t 0)), (23, (t 5)), (24, t24), (25, t25), (26, t26), (27, t21), (28, t28), (29, t21), (30, t30)] t)) H)))
 (k (t 1) H) := by kernel_rfl
theorem f40_l0_eq (p : Pr β) (n : Nat)  (k : AV → Heap → Option β)   (m0 : Nat) : ∀ (t : Nat → AV) (H : Heap), f40_L0 p n  k m0 (tf 32 0 t) H = f40_l0 p n  k m0 (t 0) (t 1) (t 5) H := by
 induction m0 with
 | zero => intros; rfl
 | succ m0 ih =>
  intro t H
  rw [f40_L0_step]
  simp only [ih]
  kernel_rfl
theorem f40_raw (p : Pr β) (n : Nat) (a0 a1 : AV) (H : Heap) (k : AV → Heap → Option β) : evalBody ti0 p n ⟨c40, 32, Go.Proofs.Tryd.f40.results.toList, o40⟩ [a0, a1] H k =
 f40_L0 p n  k n (tf 32 0 (ud [(0, a0), (1, a1), (4, (.sc (.int .i64 0))), (5, (.sc (.int .i64 0)))] ut)) H := by kernel_rfl
theorem f40_body (p : Pr β) (n : Nat) (a0 a1 : AV) (H : Heap) (k : AV → Heap → Option β) : evalBody ti0 p n ⟨c40, 32, Go.Proofs.Tryd.f40.results.toList, o40⟩ [a0, a1] H k = f40 p n a0 a1 H k := by
 rw [f40_raw]
 simp only [f40_l0_eq]
 kernel_rfl
noncomputable def f41_l0 (p : Pr β) (n : Nat)  (k : AV → Heap → Option β) : Nat → AV → AV → AV → Heap → Option β
 | 0, _, _, _, _ => none
 | m + 1, t0, t1, t5, H => p.len t0 fun t8 =>
   p.bin .lss t5 t8 fun t9 =>
   p.cond t9
   (p.iadr 1 t0 t5 fun t14 =>
   p.load false 1 t14 H fun t15 =>
   p.call 9 (.fn 62 [] []) [t1] H fun t17 H =>
   p.bin .neq t15 t17 fun t18 =>
   p.cond t18
   (k (.sc (.int .i64 (-1))) H)
   (p.bin .add t1 (.sc (.int .i64 1)) fun t20 =>
   p.bin .add t5 (.sc (.int .i64 1)) fun t11 =>
   f41_l0 p n  k m t0 t20 t11 H))
   (k t1 H)
noncomputable def f41 (p : Pr β) (n : Nat) (a0 a1 : AV) (H : Heap) (k : AV → Heap → Option β) : Option β :=
 f41_l0 p n  k n a0 a1 (.sc (.int .i64 0)) H
noncomputable def f41_L0 (p : Pr β) (n : Nat)  (k : AV → Heap → Option β) (m : Nat) (tm : Tm) (H : Heap) : Option β :=
 iterC 22 (fun tm H k => evalCode ti0 p o41 22 n (cd c41 [1, 0, 1, 0, 0]) tm H k) (blkK 0 (seqK (fun tm H => evalCode ti0 p o41 22 n (cd c41 [1, 1]) tm H (endK ti0 p Go.Proofs.Tryd.f41.results.toList k)) (endK ti0 p Go.Proofs.Tryd.f41.results.toList k))) m tm H
theorem f41_L0_step (p : Pr β) (n : Nat)  (k : AV → Heap → Option β) (m0 : Nat) (t : Nat → AV) (H : Heap) : f41_L0 p n  k (m0 + 1) (tf 22 0 t) H =
 p.len (t 0) fun t8 =>
 p.bin .lss (t 5) t8 fun t9 =>
 p.cond t9
 (p.iadr 1 (t 0) (t 5) fun t14 =>
 p.load false 1 t14 H fun t15 =>
 p.call 9 (.fn 62 [] []) [(t 1)] H fun t17 H =>
 p.bin .neq t15 t17 fun t18 =>
 p.cond t18
 (k (.sc (.int .i64 (-1))) H)
 (p.bin .add (t 1) (.sc (.int .i64 1)) fun t20 =>
 p.bin .add (t 5) (.sc (.int .i64 1)) fun t11 =>
 f41_L0 p n  k m0 (tf 22 0 (ud [(1, t20), (5, t11), (6, (t 5)), (7, (t 0)), (8, t8), (9, t9), (10, (t 5)), (11, t11), (12, (t 0)), (13, (t 5)), (14, t14), (15, t15), (16, (t 1)), (17, t17), (18, t18), (19, (t 1)), (20, t20)] t)) H))
 (k (t 1) H) := by kernel_rfl
theorem f41_l0_eq (p : Pr β) (n : Nat)  (k : AV → Heap → Option β)   (m0 : Nat) : ∀ (t : Nat → AV) (H : Heap), f41_L0 p n  k m0 (tf 22 0 t) H = f41_l0 p n  k m0 (t 0) (t 1) (t 5) H := by
 induction m0 with
 | zero => intros; rfl
 | succ m0 ih =>
  intro t H
  rw [f41_L0_step]
  simp only [ih]
  kernel_rfl
theorem f41_raw (p : Pr β) (n : Nat) (a0 a1 : AV) (H : Heap) (k : AV → Heap → Option β) : evalBody ti0 p n ⟨c41, 22, Go.Proofs.Tryd.f41.results.toList, o41⟩ [a0, a1] H k =
 f41_L0 p n  k n (tf 22 0 (ud [(0, a0), (1, a1), (4, (.sc (.int .i64 0))), (5, (.sc (.int .i64 0)))] ut)) H := by kernel_rfl
theorem f41_body (p : Pr β) (n : Nat) (a0 a1 : AV) (H : Heap) (k : AV → Heap → Option β) : evalBody ti0 p n ⟨c41, 22, Go.Proofs.Tryd.f41.results.toList, o41⟩ [a0, a1] H k = f41 p n a0 a1 H k := by
 rw [f41_raw]
 simp only [f41_l0_eq]
 kernel_rfl
noncomputable def f13 (p : Pr β) (n : Nat) (a0 a1 : AV) (H : Heap) (k : AV → Heap → Option β) : Option β :=
 p.box a0 H fun t2 H =>
 p.fadr 6 t2 fun t5 =>
 p.load false 1 t5 H fun t6 =>
 p.call 3 (.fn 39 [] []) [t6, a1] H fun t8 H =>
 p.bin .lss t8 (.sc (.int .i64 0)) fun t10 =>
 p.cond t10
 (k (.sc (.int .i64 (-1))) H)
 (p.fadr 13 t2 fun t11 =>
 p.load false 1 t11 H fun t12 =>
 p.call 3 (.fn 39 [] []) [t12, t8] H fun t14 H =>
 p.bin .lss t14 (.sc (.int .i64 0)) fun t16 =>
 p.cond t16
 (k (.sc (.int .i64 (-1))) H)
 (p.fadr 19 t2 fun t17 =>
 p.load false 1 t17 H fun t18 =>
 p.call 3 (.fn 39 [] []) [t18, t14] H fun t20 H =>
 p.bin .lss t20 (.sc (.int .i64 0)) fun t22 =>
 p.cond t22
 (k (.sc (.int .i64 (-1))) H)
 (p.fadr 22 t2 fun t23 =>
 p.load false 1 t23 H fun t24 =>
 p.call 3 (.fn 40 [] []) [t24, t20] H fun t26 H =>
 p.bin .lss t26 (.sc (.int .i64 0)) fun t28 =>
 p.cond t28
 (k (.sc (.int .i64 (-1))) H)
 (p.fadr 23 t2 fun t29 =>
 p.load false 1 t29 H fun t30 =>
 p.call 3 (.fn 41 [] []) [t30, t26] H fun t32 H =>
 p.bin .lss t32 (.sc (.int .i64 0)) fun t34 =>
 p.cond t34
 (k (.sc (.int .i64 (-1))) H)
 (p.fadr 24 t2 fun t35 =>
 p.load false 1 t35 H fun t36 =>
 p.call 3 (.fn 12 [] []) [t36, t32] H fun t38 H =>
 p.bin .lss t38 (.sc (.int .i64 0)) fun t40 =>
 p.cond t40
 (k (.sc (.int .i64 (-1))) H)
 (k t38 H))))))
theorem f13_body (p : Pr β) (n : Nat) (a0 a1 : AV) (H : Heap) (k : AV → Heap → Option β) : evalBody ti0 p n ⟨c13, 42, Go.Proofs.Tryd.f13.results.toList, o13⟩ [a0, a1] H k = f13 p n a0 a1 H k := by kernel_rfl
noncomputable def f3 (p : Pr β) (n : Nat) (a0 a1 : AV) (H : Heap) (k : AV → Heap → Option β) : Option β :=
 p.len a0 fun t16 =>
 p.bin .gtr t16 (.sc (.int .i64 1048576)) fun t17 =>
 p.cond t17
 (k (.sc (.bool true)) H)
 (p.call 22 (.fn 6 [] []) [a0] H fun t20 H =>
 p.call 28 (.fn 5 [] []) [t20, a1] H fun t22 H =>
 p.extr t22 0 fun t23 =>
 p.extr t22 1 fun t24 =>
 p.new [(.sc (.int .i64 0)), (.sc (.bool false)), (.sc (.int .i64 0)), (.sc (.bool false)), (.sc (.int .i64 0)), (.sc (.string ⟨#[]⟩)), .nl, (.sc (.string ⟨#[]⟩)), (.sc (.int .i64 0)), (.sc (.bool false)), (.sc (.int .i64 0)), (.sc (.bool false)), (.sc (.string ⟨#[]⟩)), .nl, (.sc (.int .i64 0)), (.sc (.bool false)), (.sc (.bool false)), (.sc (.string ⟨#[]⟩)), (.sc (.bool false)), .nl, (.sc (.int .i64 0)), (.sc (.bool false)), .nl, .nl, .nl] H fun t6 H =>
 p.store 25 t6 t24 H fun H =>
 p.call 22 (.fn 6 [] []) [a0] H fun t26 H =>
 p.call 28 (.fn 7 [] []) [t26, a1] H fun t30 H =>
 p.extr t30 0 fun t31 =>
 p.extr t30 1 fun t32 =>
 p.new [(.sc (.int .i64 0)), (.sc (.bool false)), (.sc (.int .i64 0)), (.sc (.bool false)), (.sc (.int .i64 0)), (.sc (.string ⟨#[]⟩)), .nl, (.sc (.string ⟨#[]⟩)), (.sc (.int .i64 0)), (.sc (.bool false)), (.sc (.int .i64 0)), (.sc (.bool false)), (.sc (.string ⟨#[]⟩)), .nl, (.sc (.int .i64 0)), (.sc (.bool false)), (.sc (.bool false)), (.sc (.string ⟨#[]⟩)), (.sc (.bool false)), .nl, (.sc (.int .i64 0)), (.sc (.bool false)), .nl, .nl, .nl] H fun t9 H =>
 p.store 25 t9 t32 H fun H =>
 p.call 4 (.fn 8 [] []) [t31, t23] H fun t35 H =>
 p.un .not t35 fun t36 =>
 p.guard t36 false H (fun k' => p.load true 25 t9 H fun t' => k' t' H) fun t38 H =>
 p.guard t36 false H (fun k' => p.load true 25 t6 H fun t' => k' t' H) fun t39 H =>
 p.guard t36 false H (fun k' => p.call 4 (.fn 9 [] []) [t38, t39] H fun t' H => k' t' H) fun t40 H =>
 p.guard t36 false H (fun k' => p.un .not t40 fun t' => k' t' H) fun t41 H =>
 p.pick t36 (.sc (.bool true)) t41 fun t42 =>
 p.cond t42
 (k (.sc (.bool false)) H)
 (p.call 22 (.fn 6 [] []) [a0] H fun t45 H =>
 p.call 4 (.fn 8 [] []) [t26, t45] H fun t46 H =>
 p.un .not t46 fun t47 =>
 p.cond t47
 (k (.sc (.bool false)) H)
 (p.call 3 (.fn 10 [] []) [t26, (.sc (.int .i64 1))] H fun t50 H =>
 p.bin .lss t50 (.sc (.int .i64 0)) fun t52 =>
 p.guard t52 false H (fun k' => k' t31 H) fun t54 H =>
 p.guard t52 false H (fun k' => k' t23 H) fun t55 H =>
 p.guard t52 false H (fun k' => p.call 4 (.fn 8 [] []) [t54, t55] H fun t' H => k' t' H) fun t56 H =>
 p.guard t52 false H (fun k' => p.un .not t56 fun t' => k' t' H) fun t57 H =>
 p.pick t52 (.sc (.bool true)) t57 fun t58 =>
 p.guard t58 false H (fun k' => p.load true 25 t9 H fun t' => k' t' H) fun t60 H =>
 p.guard t58 false H (fun k' => p.load true 25 t6 H fun t' => k' t' H) fun t61 H =>
 p.guard t58 false H (fun k' => p.call 4 (.fn 9 [] []) [t60, t61] H fun t' H => k' t' H) fun t62 H =>
 p.guard t58 false H (fun k' => p.un .not t62 fun t' => k' t' H) fun t63 H =>
 p.pick t58 (.sc (.bool true)) t63 fun t64 =>
 p.cond t64
 (k (.sc (.bool false)) H)
 (p.call 3 (.fn 10 [] []) [t31, (.sc (.int .i64 1))] H fun t67 H =>
 p.load true 25 t9 H fun t68 =>
 p.call 3 (.fn 11 [] []) [t68, t67] H fun t70 H =>
 p.call 3 (.fn 12 [] []) [t31, (.sc (.int .i64 1))] H fun t73 H =>
 p.bin .lss t73 (.sc (.int .i64 0)) fun t75 =>
 p.cond t75
 (k (.sc (.bool false)) H)
 (p.load true 25 t9 H fun t76 =>
 p.call 3 (.fn 13 [] []) [t76, t73] H fun t78 H =>
 p.bin .lss t78 (.sc (.int .i64 0)) fun t80 =>
 p.cond t80
 (k (.sc (.bool false)) H)
 (p.bin .neq t78 t70 fun t83 =>
 p.cond t83
 (k (.sc (.bool false)) H)
 (p.call 22 (.fn 6 [] []) [a0] H fun t86 H =>
 p.call 28 (.fn 7 [] []) [t86, a1] H fun t88 H =>
 p.extr t88 0 fun t89 =>
 p.extr t88 1 fun t90 =>
 p.new [(.sc (.int .i64 0)), (.sc (.bool false)), (.sc (.int .i64 0)), (.sc (.bool false)), (.sc (.int .i64 0)), (.sc (.string ⟨#[]⟩)), .nl, (.sc (.string ⟨#[]⟩)), (.sc (.int .i64 0)), (.sc (.bool false)), (.sc (.int .i64 0)), (.sc (.bool false)), (.sc (.string ⟨#[]⟩)), .nl, (.sc (.int .i64 0)), (.sc (.bool false)), (.sc (.bool false)), (.sc (.string ⟨#[]⟩)), (.sc (.bool false)), .nl, (.sc (.int .i64 0)), (.sc (.bool false)), .nl, .nl, .nl] H fun t14 H =>
 p.store 25 t14 t90 H fun H =>
 p.call 4 (.fn 8 [] []) [t89, t23] H fun t93 H =>
 p.un .not t93 fun t94 =>
 p.guard t94 false H (fun k' => p.load true 25 t14 H fun t' => k' t' H) fun t96 H =>
 p.guard t94 false H (fun k' => p.load true 25 t6 H fun t' => k' t' H) fun t97 H =>
 p.guard t94 false H (fun k' => p.call 4 (.fn 9 [] []) [t96, t97] H fun t' H => k' t' H) fun t98 H =>
 p.guard t94 false H (fun k' => p.un .not t98 fun t' => k' t' H) fun t99 H =>
 p.pick t94 (.sc (.bool true)) t99 fun t100 =>
 p.cond t100
 (k (.sc (.bool false)) H)
 (p.call 3 (.fn 12 [] []) [t31, (.sc (.int .i64 1))] H fun t103 H =>
 p.bin .lss t103 (.sc (.int .i64 0)) fun t105 =>
 p.cond t105
 (k (.sc (.bool false)) H)
 (p.load true 25 t9 H fun t106 =>
 p.call 3 (.fn 13 [] []) [t106, t103] H fun t108 H =>
 p.bin .lss t108 (.sc (.int .i64 0)) fun t110 =>
 p.cond t110
 (k (.sc (.bool false)) H)
 (p.bin .neq t108 t70 fun t113 =>
 p.cond t113
 (k (.sc (.bool false)) H)
 (k (.sc (.bool true)) H)))))))))))
theorem f3_body (p : Pr β) (n : Nat) (a0 a1 : AV) (H : Heap) (k : AV → Heap → Option β) : evalBody ti0 p n ⟨c3, 114, Go.Proofs.Tryd.f3.results.toList, o3⟩ [a0, a1] H k = f3 p n a0 a1 H k := by kernel_rfl
noncomputable def fss : List (Option FnI) := [none, none, none, some ⟨c3, 114, Go.Proofs.Tryd.f3.results.toList, o3⟩, none, some ⟨c5, 39, Go.Proofs.Tryd.f5.results.toList, o5⟩, some ⟨c6, 22, Go.Proofs.Tryd.f6.results.toList, o6⟩, some ⟨c7, 17, Go.Proofs.Tryd.f7.results.toList, o7⟩, some ⟨c8, 26, Go.Proofs.Tryd.f8.results.toList, o8⟩, some ⟨c9, 136, Go.Proofs.Tryd.f9.results.toList, o9⟩, some ⟨c10, 19, Go.Proofs.Tryd.f10.results.toList, o10⟩, some ⟨c11, 30, Go.Proofs.Tryd.f11.results.toList, o11⟩, some ⟨c12, 21, Go.Proofs.Tryd.f12.results.toList, o12⟩, some ⟨c13, 42, Go.Proofs.Tryd.f13.results.toList, o13⟩, none, none, none, none, none, none, none, none, none, none, none, none, some ⟨c26, 35, Go.Proofs.Tryd.f26.results.toList, o26⟩, some ⟨c27, 23, Go.Proofs.Tryd.f27.results.toList, o27⟩, some ⟨c28, 6, Go.Proofs.Tryd.f28.results.toList, o28⟩, some ⟨c29, 32, Go.Proofs.Tryd.f29.results.toList, o29⟩, some ⟨c30, 42, Go.Proofs.Tryd.f30.results.toList, o30⟩, some ⟨c31, 7, Go.Proofs.Tryd.f31.results.toList, o31⟩, some ⟨c32, 23, Go.Proofs.Tryd.f32.results.toList, o32⟩, some ⟨c33, 26, Go.Proofs.Tryd.f33.results.toList, o33⟩, some ⟨c34, 27, Go.Proofs.Tryd.f34.results.toList, o34⟩, some ⟨c35, 26, Go.Proofs.Tryd.f35.results.toList, o35⟩, some ⟨c36, 20, Go.Proofs.Tryd.f36.results.toList, o36⟩, some ⟨c37, 28, Go.Proofs.Tryd.f37.results.toList, o37⟩, some ⟨c38, 20, Go.Proofs.Tryd.f38.results.toList, o38⟩, some ⟨c39, 22, Go.Proofs.Tryd.f39.results.toList, o39⟩, some ⟨c40, 32, Go.Proofs.Tryd.f40.results.toList, o40⟩, some ⟨c41, 22, Go.Proofs.Tryd.f41.results.toList, o41⟩, none, none, none, none, none, none, none, none, some ⟨c50, 20, Go.Proofs.Tryd.f50.results.toList, o50⟩, some ⟨c51, 5, Go.Proofs.Tryd.f51.results.toList, o51⟩, some ⟨c52, 25, Go.Proofs.Tryd.f52.results.toList, o52⟩, some ⟨c53, 15, Go.Proofs.Tryd.f53.results.toList, o53⟩, some ⟨c54, 10, Go.Proofs.Tryd.f54.results.toList, o54⟩, none, some ⟨c56, 191, Go.Proofs.Tryd.f56.results.toList, o56⟩, some ⟨c57, 5, Go.Proofs.Tryd.f57.results.toList, o57⟩, some ⟨c58, 19, Go.Proofs.Tryd.f58.results.toList, o58⟩, some ⟨c59, 15, Go.Proofs.Tryd.f59.results.toList, o59⟩, some ⟨c60, 81, Go.Proofs.Tryd.f60.results.toList, o60⟩, some ⟨c61, 15, Go.Proofs.Tryd.f61.results.toList, o61⟩, some ⟨c62, 20, Go.Proofs.Tryd.f62.results.toList, o62⟩, none, none, none, none, none, none, none, none, none, none, some ⟨c73, 5, Go.Proofs.Tryd.f73.results.toList, o73⟩, some ⟨c74, 6, Go.Proofs.Tryd.f74.results.toList, o74⟩, some ⟨c75, 17, Go.Proofs.Tryd.f75.results.toList, o75⟩, some ⟨c76, 33, Go.Proofs.Tryd.f76.results.toList, o76⟩, none, some ⟨c78, 239, Go.Proofs.Tryd.f78.results.toList, o78⟩, some ⟨c79, 120, Go.Proofs.Tryd.f79.results.toList, o79⟩, some ⟨c80, 57, Go.Proofs.Tryd.f80.results.toList, o80⟩, some ⟨c81, 186, Go.Proofs.Tryd.f81.results.toList, o81⟩, some ⟨c82, 121, Go.Proofs.Tryd.f82.results.toList, o82⟩, some ⟨c83, 50, Go.Proofs.Tryd.f83.results.toList, o83⟩, some ⟨c84, 65, Go.Proofs.Tryd.f84.results.toList, o84⟩, none, none, none, none, none, none, none, some ⟨c92, 35, Go.Proofs.Tryd.f92.results.toList, o92⟩, some ⟨c93, 10, Go.Proofs.Tryd.f93.results.toList, o93⟩, some ⟨c94, 26, Go.Proofs.Tryd.f94.results.toList, o94⟩, some ⟨c95, 26, Go.Proofs.Tryd.f95.results.toList, o95⟩, some ⟨c96, 26, Go.Proofs.Tryd.f96.results.toList, o96⟩, some ⟨c97, 5, Go.Proofs.Tryd.f97.results.toList, o97⟩, some ⟨c98, 35, Go.Proofs.Tryd.f98.results.toList, o98⟩, none, none, none, none, none, none, some ⟨c105, 104, Go.Proofs.Tryd.f105.results.toList, o105⟩, some ⟨c106, 19, Go.Proofs.Tryd.f106.results.toList, o106⟩]
noncomputable def tps : List (Nat × List Nat) := [(28, [22, 27]), (40, [37, 39]), (42, [37, 3]), (47, [37, 39, 4]), (103, [102, 4]), (107, [3, 3, 4]), (116, [21, 3]), (119, [118, 118])]
noncomputable def E0 : Env := { ti := ti0, tp := fun t => ordOf tps t, fs := fun f => (fss[f]?).getD none, ext := fun f => if Nat.beq f 71 then some ext71 else if Nat.beq f 72 then some ext72 else if Nat.beq f 91 then some ext91 else none, hm := fun f => [10, 11, 15, 30, 36, 37, 38, 42, 43, 44, 63, 64, 65, 66, 67, 68, 69, 79, 82, 85, 86, 87, 88, 103, 131, 132, 133, 134, 135].contains f }
noncomputable def PR (n : Nat) (β : Type) : Pr β := prims E0 (evalFn E0 n) β
theorem f6_eq (n : Nat) (a0 : AV) (H : Heap) (k : AV → Heap → Option β) : evalFn E0 (n + 1) β 6 [a0] H k = f6 (PR n β) n a0 H k := f6_body (PR n β) n a0 H k
theorem f53_eq (n : Nat) (a0 a1 a2 : AV) (H : Heap) (k : AV → Heap → Option β) : evalFn E0 (n + 1) β 53 [a0, a1, a2] H k = f53 (PR n β) n a0 a1 a2 H k := f53_body (PR n β) n a0 a1 a2 H k
theorem f26_eq (n : Nat) (a0 : AV) (H : Heap) (k : AV → Heap → Option β) : evalFn E0 (n + 1) β 26 [a0] H k = f26 (PR n β) n a0 H k := f26_body (PR n β) n a0 H k
theorem f79_eq (n : Nat) (a0 : AV) (H : Heap) (k : AV → Heap → Option β) : evalFn E0 (n + 1) β 79 [a0] H k = f79 (PR n β) n a0 H k := f79_body (PR n β) n a0 H k
theorem f93_eq (n : Nat) (a0 a1 : AV) (H : Heap) (k : AV → Heap → Option β) : evalFn E0 (n + 1) β 93 [a0, a1] H k = f93 (PR n β) n a0 a1 H k := f93_body (PR n β) n a0 a1 H k
theorem f78_eq (n : Nat) (a0 a1 : AV) (H : Heap) (k : AV → Heap → Option β) : evalFn E0 (n + 1) β 78 [a0, a1] H k = f78 (PR n β) n a0 a1 H k := f78_body (PR n β) n a0 a1 H k
theorem f105_eq (n : Nat) (a0 a1 : AV) (H : Heap) (k : AV → Heap → Option β) : evalFn E0 (n + 1) β 105 [a0, a1] H k = f105 (PR n β) n a0 a1 H k := f105_body (PR n β) n a0 a1 H k
theorem f92_eq (n : Nat) (a0 : AV) (H : Heap) (k : AV → Heap → Option β) : evalFn E0 (n + 1) β 92 [a0] H k = f92 (PR n β) n a0 H k := f92_body (PR n β) n a0 H k
theorem f74_eq (n : Nat) (a0 : AV) (H : Heap) (k : AV → Heap → Option β) : evalFn E0 (n + 1) β 74 [a0] H k = f74 (PR n β) n a0 H k := f74_body (PR n β) n a0 H k
theorem f75_eq (n : Nat) (a0 a1 : AV) (H : Heap) (k : AV → Heap → Option β) : evalFn E0 (n + 1) β 75 [a0, a1] H k = f75 (PR n β) n a0 a1 H k := f75_body (PR n β) n a0 a1 H k
theorem f76_eq (n : Nat) (a0 : AV) (H : Heap) (k : AV → Heap → Option β) : evalFn E0 (n + 1) β 76 [a0] H k = f76 (PR n β) n a0 H k := f76_body (PR n β) n a0 H k
theorem f52_eq (n : Nat) (a0 : AV) (H : Heap) (k : AV → Heap → Option β) : evalFn E0 (n + 1) β 52 [a0] H k = f52 (PR n β) n a0 H k := f52_body (PR n β) n a0 H k
theorem f80_eq (n : Nat) (a0 : AV) (H : Heap) (k : AV → Heap → Option β) : evalFn E0 (n + 1) β 80 [a0] H k = f80 (PR n β) n a0 H k := f80_body (PR n β) n a0 H k
theorem f56_eq (n : Nat) (a0 : AV) (H : Heap) (k : AV → Heap → Option β) : evalFn E0 (n + 1) β 56 [a0] H k = f56 (PR n β) n a0 H k := f56_body (PR n β) n a0 H k
theorem f27_eq (n : Nat) (a0 a1 : AV) (H : Heap) (k : AV → Heap → Option β) : evalFn E0 (n + 1) β 27 [a0, a1] H k = f27 (PR n β) n a0 a1 H k := f27_body (PR n β) n a0 a1 H k
theorem f5_eq (n : Nat) (a0 a1 : AV) (H : Heap) (k : AV → Heap → Option β) : evalFn E0 (n + 1) β 5 [a0, a1] H k = f5 (PR n β) n a0 a1 H k := f5_body (PR n β) n a0 a1 H k
theorem f28_eq (n : Nat) (a0 : AV) (H : Heap) (k : AV → Heap → Option β) : evalFn E0 (n + 1) β 28 [a0] H k = f28 (PR n β) n a0 H k := f28_body (PR n β) n a0 H k
theorem f59_eq (n : Nat) (a0 a1 a2 : AV) (H : Heap) (k : AV → Heap → Option β) : evalFn E0 (n + 1) β 59 [a0, a1, a2] H k = f59 (PR n β) n a0 a1 a2 H k := f59_body (PR n β) n a0 a1 a2 H k
theorem f57_eq (n : Nat) (a0 : AV) (H : Heap) (k : AV → Heap → Option β) : evalFn E0 (n + 1) β 57 [a0] H k = f57 (PR n β) n a0 H k := f57_body (PR n β) n a0 H k
theorem f29_eq (n : Nat) (a0 : AV) (H : Heap) (k : AV → Heap → Option β) : evalFn E0 (n + 1) β 29 [a0] H k = f29 (PR n β) n a0 H k := f29_body (PR n β) n a0 H k
theorem f31_eq (n : Nat) (a0 a1 : AV) (H : Heap) (k : AV → Heap → Option β) : evalFn E0 (n + 1) β 31 [a0, a1] H k = f31 (PR n β) n a0 a1 H k := f31_body (PR n β) n a0 a1 H k
theorem f58_eq (n : Nat) (a0 a1 : AV) (H : Heap) (k : AV → Heap → Option β) : evalFn E0 (n + 1) β 58 [a0, a1] H k = f58 (PR n β) n a0 a1 H k := f58_body (PR n β) n a0 a1 H k
theorem f30_eq (n : Nat) (a0 a1 : AV) (H : Heap) (k : AV → Heap → Option β) : evalFn E0 (n + 1) β 30 [a0, a1] H k = f30 (PR n β) n a0 a1 H k := f30_body (PR n β) n a0 a1 H k
theorem f82_eq (n : Nat) (a0 : AV) (H : Heap) (k : AV → Heap → Option β) : evalFn E0 (n + 1) β 82 [a0] H k = f82 (PR n β) n a0 H k := f82_body (PR n β) n a0 H k
theorem f54_eq (n : Nat) (a0 a1 : AV) (H : Heap) (k : AV → Heap → Option β) : evalFn E0 (n + 1) β 54 [a0, a1] H k = f54 (PR n β) n a0 a1 H k := f54_body (PR n β) n a0 a1 H k
theorem f94_eq (n : Nat) (a0 a1 : AV) (H : Heap) (k : AV → Heap → Option β) : evalFn E0 (n + 1) β 94 [a0, a1] H k = f94 (PR n β) n a0 a1 H k := f94_body (PR n β) n a0 a1 H k
theorem f95_eq (n : Nat) (a0 a1 : AV) (H : Heap) (k : AV → Heap → Option β) : evalFn E0 (n + 1) β 95 [a0, a1] H k = f95 (PR n β) n a0 a1 H k := f95_body (PR n β) n a0 a1 H k
theorem f96_eq (n : Nat) (a0 a1 : AV) (H : Heap) (k : AV → Heap → Option β) : evalFn E0 (n + 1) β 96 [a0, a1] H k = f96 (PR n β) n a0 a1 H k := f96_body (PR n β) n a0 a1 H k
theorem f81_eq (n : Nat) (a0 a1 : AV) (H : Heap) (k : AV → Heap → Option β) : evalFn E0 (n + 1) β 81 [a0, a1] H k = f81 (PR n β) n a0 a1 H k := f81_body (PR n β) n a0 a1 H k
theorem f73_eq (n : Nat) (a0 : AV) (H : Heap) (k : AV → Heap → Option β) : evalFn E0 (n + 1) β 73 [a0] H k = f73 (PR n β) n a0 H k := f73_body (PR n β) n a0 H k
theorem f50_eq (n : Nat) (a0 : AV) (H : Heap) (k : AV → Heap → Option β) : evalFn E0 (n + 1) β 50 [a0] H k = f50 (PR n β) n a0 H k := f50_body (PR n β) n a0 H k
theorem f51_eq (n : Nat) (a0 : AV) (H : Heap) (k : AV → Heap → Option β) : evalFn E0 (n + 1) β 51 [a0] H k = f51 (PR n β) n a0 H k := f51_body (PR n β) n a0 H k
theorem f97_eq (n : Nat) (a0 : AV) (H : Heap) (k : AV → Heap → Option β) : evalFn E0 (n + 1) β 97 [a0] H k = f97 (PR n β) n a0 H k := f97_body (PR n β) n a0 H k
theorem f83_eq (n : Nat) (a0 : AV) (H : Heap) (k : AV → Heap → Option β) : evalFn E0 (n + 1) β 83 [a0] H k = f83 (PR n β) n a0 H k := f83_body (PR n β) n a0 H k
theorem f106_eq (n : Nat) (a0 a1 : AV) (H : Heap) (k : AV → Heap → Option β) : evalFn E0 (n + 1) β 106 [a0, a1] H k = f106 (PR n β) n a0 a1 H k := f106_body (PR n β) n a0 a1 H k
theorem f98_eq (n : Nat) (a0 : AV) (H : Heap) (k : AV → Heap → Option β) : evalFn E0 (n + 1) β 98 [a0] H k = f98 (PR n β) n a0 H k := f98_body (PR n β) n a0 H k
theorem f84_eq (n : Nat) (a0 : AV) (H : Heap) (k : AV → Heap → Option β) : evalFn E0 (n + 1) β 84 [a0] H k = f84 (PR n β) n a0 H k := f84_body (PR n β) n a0 H k
theorem f60_eq (n : Nat) (a0 : AV) (H : Heap) (k : AV → Heap → Option β) : evalFn E0 (n + 1) β 60 [a0] H k = f60 (PR n β) n a0 H k := f60_body (PR n β) n a0 H k
theorem f32_eq (n : Nat) (a0 a1 : AV) (H : Heap) (k : AV → Heap → Option β) : evalFn E0 (n + 1) β 32 [a0, a1] H k = f32 (PR n β) n a0 a1 H k := f32_body (PR n β) n a0 a1 H k
theorem f7_eq (n : Nat) (a0 a1 : AV) (H : Heap) (k : AV → Heap → Option β) : evalFn E0 (n + 1) β 7 [a0, a1] H k = f7 (PR n β) n a0 a1 H k := f7_body (PR n β) n a0 a1 H k
theorem f8_eq (n : Nat) (a0 a1 : AV) (H : Heap) (k : AV → Heap → Option β) : evalFn E0 (n + 1) β 8 [a0, a1] H k = f8 (PR n β) n a0 a1 H k := f8_body (PR n β) n a0 a1 H k
theorem f33_eq (n : Nat) (a0 a1 : AV) (H : Heap) (k : AV → Heap → Option β) : evalFn E0 (n + 1) β 33 [a0, a1] H k = f33 (PR n β) n a0 a1 H k := f33_body (PR n β) n a0 a1 H k
theorem f61_eq (n : Nat) (a0 a1 : AV) (H : Heap) (k : AV → Heap → Option β) : evalFn E0 (n + 1) β 61 [a0, a1] H k = f61 (PR n β) n a0 a1 H k := f61_body (PR n β) n a0 a1 H k
theorem f34_eq (n : Nat) (a0 a1 : AV) (H : Heap) (k : AV → Heap → Option β) : evalFn E0 (n + 1) β 34 [a0, a1] H k = f34 (PR n β) n a0 a1 H k := f34_body (PR n β) n a0 a1 H k
theorem f35_eq (n : Nat) (a0 a1 : AV) (H : Heap) (k : AV → Heap → Option β) : evalFn E0 (n + 1) β 35 [a0, a1] H k = f35 (PR n β) n a0 a1 H k := f35_body (PR n β) n a0 a1 H k
theorem f9_eq (n : Nat) (a0 a1 : AV) (H : Heap) (k : AV → Heap → Option β) : evalFn E0 (n + 1) β 9 [a0, a1] H k = f9 (PR n β) n a0 a1 H k := f9_body (PR n β) n a0 a1 H k
theorem f10_eq (n : Nat) (a0 a1 : AV) (H : Heap) (k : AV → Heap → Option β) : evalFn E0 (n + 1) β 10 [a0, a1] H k = f10 (PR n β) n a0 a1 H k := f10_body (PR n β) n a0 a1 H k
theorem f36_eq (n : Nat) (a0 a1 : AV) (H : Heap) (k : AV → Heap → Option β) : evalFn E0 (n + 1) β 36 [a0, a1] H k = f36 (PR n β) n a0 a1 H k := f36_body (PR n β) n a0 a1 H k
theorem f62_eq (n : Nat) (a0 : AV) (H : Heap) (k : AV → Heap → Option β) : evalFn E0 (n + 1) β 62 [a0] H k = f62 (PR n β) n a0 H k := f62_body (PR n β) n a0 H k
theorem f37_eq (n : Nat) (a0 a1 : AV) (H : Heap) (k : AV → Heap → Option β) : evalFn E0 (n + 1) β 37 [a0, a1] H k = f37 (PR n β) n a0 a1 H k := f37_body (PR n β) n a0 a1 H k
theorem f38_eq (n : Nat) (a0 a1 : AV) (H : Heap) (k : AV → Heap → Option β) : evalFn E0 (n + 1) β 38 [a0, a1] H k = f38 (PR n β) n a0 a1 H k := f38_body (PR n β) n a0 a1 H k
theorem f11_eq (n : Nat) (a0 a1 : AV) (H : Heap) (k : AV → Heap → Option β) : evalFn E0 (n + 1) β 11 [a0, a1] H k = f11 (PR n β) n a0 a1 H k := f11_body (PR n β) n a0 a1 H k
theorem f12_eq (n : Nat) (a0 a1 : AV) (H : Heap) (k : AV → Heap → Option β) : evalFn E0 (n + 1) β 12 [a0, a1] H k = f12 (PR n β) n a0 a1 H k := f12_body (PR n β) n a0 a1 H k
theorem f39_eq (n : Nat) (a0 a1 : AV) (H : Heap) (k : AV → Heap → Option β) : evalFn E0 (n + 1) β 39 [a0, a1] H k = f39 (PR n β) n a0 a1 H k := f39_body (PR n β) n a0 a1 H k
theorem f40_eq (n : Nat) (a0 a1 : AV) (H : Heap) (k : AV → Heap → Option β) : evalFn E0 (n + 1) β 40 [a0, a1] H k = f40 (PR n β) n a0 a1 H k := f40_body (PR n β) n a0 a1 H k
theorem f41_eq (n : Nat) (a0 a1 : AV) (H : Heap) (k : AV → Heap → Option β) : evalFn E0 (n + 1) β 41 [a0, a1] H k = f41 (PR n β) n a0 a1 H k := f41_body (PR n β) n a0 a1 H k
theorem f13_eq (n : Nat) (a0 a1 : AV) (H : Heap) (k : AV → Heap → Option β) : evalFn E0 (n + 1) β 13 [a0, a1] H k = f13 (PR n β) n a0 a1 H k := f13_body (PR n β) n a0 a1 H k
theorem f3_eq (n : Nat) (a0 a1 : AV) (H : Heap) (k : AV → Heap → Option β) : evalFn E0 (n + 1) β 3 [a0, a1] H k = f3 (PR n β) n a0 a1 H k := f3_body (PR n β) n a0 a1 H k
end Go.Proofs.YtejjggnchdldoaaDoor.Abs
set_option linter.unusedVariables false
set_option linter.unusedSimpArgs false
namespace Go.Proofs.YtejjggnchdldoaaDoor.Abs
open Go Go.Shelf Go.RowKit Go.Lib Go.Proofs
variable {P : Program} {ρ : Ren}
def ItAt (w w' : World) (s : ByteArray) (pos : Nat) : Prop := Below w.heap.size w w' ∧ w'.heap[w.heap.size]? = some (.stringIter s pos)
def setIt (w' : World) (a : Nat) (s : ByteArray) (pos : Nat) : World := { w' with heap := w'.heap.setIfInBounds a (.stringIter s pos) }
theorem itAt_start (w : World) (s : ByteArray) (pos : Nat) : ItAt w (w.iter s pos) s pos := ⟨(Below.refl _ w).alloc (Nat.le_refl _) _, World.iter_heap w s pos⟩
theorem ItAt.lt {w w' : World} {s : ByteArray} {pos : Nat} (h : ItAt w w' s pos) : w.heap.size < w'.heap.size := by
 have := h.2
 simp only [Array.getElem?_eq_some_iff] at this
 exact this.1
theorem ItAt.set {w w' : World} {s : ByteArray} {pos : Nat} (h : ItAt w w' s pos) (pos' : Nat) : ItAt w (setIt w' w.heap.size s pos') s pos' := by
 refine ⟨h.1.trans ⟨rfl, rfl, rfl, by simp [setIt], fun k hk => ?_⟩, ?_⟩
 ·simp only [setIt]
  rw [Array.getElem?_setIfInBounds_ne (by omega)]
 ·simp only [setIt]
  rw [Array.getElem?_setIfInBounds_self_of_lt h.lt]
theorem ItAt.below {w w1 w2 : World} {s : ByteArray} {pos : Nat} (h : ItAt w w1 s pos) (hb : Below w1.heap.size w1 w2) : ItAt w w2 s pos :=
 ⟨h.1.trans (hb.mono h.1.size), by rw [hb.block _ h.lt]; exact h.2⟩
theorem next_at {w w' : World} {s : ByteArray} {pos : Nat} (h : ItAt w w' s pos) (hp : pos < s.size) (ty : TypeId) :
  (Instr.next (.pointer (some ⟨w.heap.size, 0, none⟩)) true ty).run P w' = .ok (.tuple #[.bool true, .int .i64 pos, .int .i32 (Utf8.decode s pos).1]) (setIt w' w.heap.size s (pos + (Utf8.decode s pos).2)) := by
 simp only [Instr.next, getObj, setObj, Sem.run_bind, Sem.run, h.2, Result.andThen, hp, if_true]
 simp [goInt, setIt]
theorem next_end {w w' : World} {s : ByteArray} {pos : Nat} (h : ItAt w w' s pos) (hp : ¬ pos < s.size) (ty : TypeId) :
  (Instr.next (.pointer (some ⟨w.heap.size, 0, none⟩)) true ty).run P w' = .ok (.tuple #[.bool false]) w' := by
 simp [Instr.next, getObj, Sem.run, h.2, hp]
theorem rune_at (s : ByteArray) (pos : Nat) : (Utf8.decode s pos).1 < 55296 ∨ (57343 < (Utf8.decode s pos).1 ∧ (Utf8.decode s pos).1 ≤ 1114111) := by
 rw [← Lib.decodeL_drop, Lib.decodeL_N]
 exact Lib.decodeN_valid _ _ _ _ _ (UInt8.toNat_lt _)
theorem ph_size : phB.size = 2 := rfl
set_option maxHeartbeats 8000000 in
set_option maxRecDepth 1000000 in
theorem rune_big (L : Lays.n152 P ρ) (r : Nat) (rs : ByteArray) (w : World) (h1 : 128 ≤ r) (hv : r < 55296 ∨ (57343 < r ∧ r ≤ 1114111)) (he : ¬ r = 65533) (hcv : ∀ w, (convert (ρ.t 21) (ρ.t 9) (.int .i32 r)).run P w = .ok (.string rs) w)
  (hs2 : 2 ≤ rs.size) (hs4 : rs.size ≤ 4) (hsl : rs.size = 2 → ∀ h : 1 < rs.size, 128 ≤ (rs[1]'h).toNat) :
  Calls P (ρ.f 152) #[.string phB, .int .i32 r] w fun e w' => e = .returned (.int .i64 (-1)) ∧ Below w.heap.size w w' := by
 have cV : ∀ w, Calls P (ρ.f 119) #[.int .i32 r] w _ := fun w => Any.utf8_ValidRune { L with } r w
 have cI : ∀ s c w, Calls P (ρ.f 137) #[.string s, .int .u8 c] w _ := fun s c w => Any.strings_IndexByte { L with } s c w
 have mixed := L.mixed
 have t3 := L.t3; have a3 := L.a3; have z3 := L.z3; have v3 := L.v3
 have t4 := L.t4; have a4 := L.a4; have z4 := L.z4; have v4 := L.v4
 have t5 := L.t5; have a5 := L.a5; have z5 := L.z5; have v5 := L.v5
 have t9 := L.t9; have a9 := L.a9; have z9 := L.z9; have v9 := L.v9
 have t21 := L.t21; have a21 := L.a21; have z21 := L.z21; have v21 := L.v21
 have e137 : ∀ args w, (callFunc (ρ.f 137) args).run P w = .ok (.enter (ρ.f 137) args) w := enters_of L.f137 (by kernel_rfl) rfl
 have e119 : ∀ args w, (callFunc (ρ.f 119) args).run P w = .ok (.enter (ρ.f 119) args) w := enters_of L.f119 (by kernel_rfl) rfl
 have hge : decide ((0 : Int) ≤ (r : Int)) = true := by simp
 have hlt : decide ((r : Int) < 128) = false := by simp; omega
 have bel : ∀ pos, Below w.heap.size w (w.iter phB pos) := fun pos => (Below.refl _ w).alloc (Nat.le_refl _) _
 have hne : ((r : Int) == 65533) = false := by simp; omega
 have hvr : Lib.validRune (r : Int) = true := by simp [Lib.validRune]; omega
 go_enter L.f152, Body.n152_ntmps ρ
 go_wp2_with (first
  | (go_at_fn (ρ.f 119); refine (cV _).mono ?_; rintro e w' ⟨rfl, hw⟩; rw [hw, hvr])
  | (go_at_fn (ρ.f 137); refine (cI _ _ _).mono ?_; rintro e w' ⟨rfl, hw⟩; rw [hw]))
 go_step3
 go_wp2
 go_loopg [9, 10] 1 (fun g i fl wx => g = 1 ∧ i = .int .i64 ((rs.size : Int) - 1) ∧ fl = .int .i64 0 ∧ wx = w)
 case atStart => exact ⟨rfl, rfl, rfl, rfl⟩
 case round =>
  obtain ⟨-, rfl, rfl, rfl⟩ := hrel
  by_cases h3 : 3 ≤ rs.size
  ·have hlt : decide ((rs.size : Int) - 1 < (phB.size : Int)) = false := by rw [ph_size]; simp; omega
   go_wp2
   try rw [Exit.noGoto_ret]
   go_ret
   exact ⟨rfl, Below.refl _ _⟩
  ·have h2 : rs.size = 2 := by omega
   have hi1 : ((rs.size : Int) - 1) = 1 := by omega
   have hi : 1 < rs.size := by omega
   have hp : 1 < phB.size := by decide
   obtain ⟨x, hx⟩ : ∃ x : UInt8, rs[1]'hi = x := ⟨_, rfl⟩
   have hx128 : 128 ≤ x.toNat := by
    rw [← hx]
    exact hsl h2 hi
   have hp1 : phB[1]'hp = 35 := rfl
   have hlt : decide ((1 : Int) < (phB.size : Int)) = true := rfl
   have hne35 : (((35 : UInt8).toNat : Int) != (x.toNat : Int)) = true := by simp; omega
   have hib : Lib.indexByte (List.take (phB.size - 2) (List.drop 2 phB.data.toList)) x = -1 := rfl
   rw [hi1]
   clear hsl hs2 hs4
   go_wp2
   go_step3
   go_wp2
   go_region_o
   all_goals
    go_wp2
    go_region_with_o (go_at_fn (ρ.f 137); refine (cI _ _ _).mono ?_; rintro e w' ⟨rfl, hw⟩; rw [hw])
   all_goals
    go_wp2
    simp only [Exit.inBlock, Exit.then, Exit.noGoto]
    go_ret
    exact ⟨rfl, (Below.refl _ _).drew.drew⟩
set_option maxHeartbeats 8000000 in
set_option maxRecDepth 1000000 in
theorem rune_ph (L : Lays.n152 P ρ) (r : Nat) (w : World) (h1 : 128 ≤ r) (hv : r < 55296 ∨ (57343 < r ∧ r ≤ 1114111)) :
  Calls P (ρ.f 152) #[.string phB, .int .i32 r] w fun e w' => e = .returned (.int .i64 (-1)) ∧ Below w.heap.size w w' := by
 have cV : ∀ w, Calls P (ρ.f 119) #[.int .i32 r] w _ := fun w => Any.utf8_ValidRune { L with } r w
 have cI : ∀ s c w, Calls P (ρ.f 137) #[.string s, .int .u8 c] w _ := fun s c w => Any.strings_IndexByte { L with } s c w
 have t3 := L.t3; have a3 := L.a3; have z3 := L.z3; have v3 := L.v3
 have t4 := L.t4; have a4 := L.a4; have z4 := L.z4; have v4 := L.v4
 have t5 := L.t5; have a5 := L.a5; have z5 := L.z5; have v5 := L.v5
 have t9 := L.t9; have a9 := L.a9; have z9 := L.z9; have v9 := L.v9
 have t21 := L.t21; have a21 := L.a21; have z21 := L.z21; have v21 := L.v21
 have e137 : ∀ args w, (callFunc (ρ.f 137) args).run P w = .ok (.enter (ρ.f 137) args) w := enters_of L.f137 (by kernel_rfl) rfl
 have e119 : ∀ args w, (callFunc (ρ.f 119) args).run P w = .ok (.enter (ρ.f 119) args) w := enters_of L.f119 (by kernel_rfl) rfl
 have hge : decide ((0 : Int) ≤ (r : Int)) = true := by simp
 have hlt : decide ((r : Int) < 128) = false := by simp; omega
 have bel : ∀ pos, Below w.heap.size w (w.iter phB pos) := fun pos => (Below.refl _ w).alloc (Nat.le_refl _) _
 by_cases he : r = 65533
 ·subst he
  go_enter L.f152, Body.n152_ntmps ρ
  go_wp2
  go_loopg [5, 6] 2 (fun g _ _ wx => ∃ i : Nat, i + g = 2 ∧ wx = w.iter phB i)
  case atStart => exact ⟨0, by omega, rfl⟩
  case round =>
   obtain ⟨i, hig, rfl⟩ := hrel
   cases gk with
   | zero =>
    obtain rfl : i = 2 := by omega
    have hnx := fun ty => run_next_end (P := P) w phB 2 ty (by decide)
    go_wp2
    go_ret
    exact ⟨rfl, bel _⟩
   | succ g =>
    have hi : i < phB.size := by
     show i < 2
     omega
    have hx : (phB[i]'hi).toNat < 64 := by
     have : ∀ q : Fin 2, (phB[q.val]'q.isLt).toNat < 64 := by decide
     exact this ⟨i, hi⟩
    have hnx := fun ty => run_next_ascii (P := P) w phB i ty hi (by omega)
    generalize (phB[i]'hi).toNat = x at hnx hx
    have hxe : ((x : Int) == 65533) = false := by simp; omega
    go_wp2
    go_roundg g
    case measure => omega
    case rel => exact ⟨i + 1, by omega, rfl⟩
 ·obtain ⟨hs2, hs4, hsl⟩ := encode_facts (r : Int) (by simp [Utf8.valid]; omega) (by omega)
  refine rune_big L r (Utf8.encode r) w h1 hv he (fun w => run_convert_int_string w _ _ _ _ (by rw [t21]; rfl) t9) hs2 hs4 ?_
  intro h2 hi
  have := hsl (by omega)
  simp only [h2] at this
  exact this
theorem getD_drop (l : List UInt8) (i j : Nat) : (l.drop i).getD j 0 = l.getD (i + j) 0 := by simp [List.getD_eq_getElem?_getD, List.getElem?_drop]
theorem dec_hi (l : List UInt8) (h : 128 ≤ (l.getD 0 0).toNat) : 128 ≤ (Lib.decodeL l).1 ∧ ∀ j, j < (Lib.decodeL l).2 → 128 ≤ (l.getD j 0).toNat := by
 rw [Lib.decodeL_N]
 generalize hn : l.length = n
 generalize h0 : (l.getD 0 0).toNat = b0 at h ⊢
 generalize h1 : (l.getD 1 0).toNat = b1
 generalize h2 : (l.getD 2 0).toNat = b2
 generalize h3 : (l.getD 3 0).toNat = b3
 have key : ∀ q, q ≤ 4 → (q = 2 → 128 ≤ b1) → (q = 3 → 128 ≤ b1 ∧ 128 ≤ b2) → (q = 4 → 128 ≤ b1 ∧ 128 ≤ b2 ∧ 128 ≤ b3) → ∀ j, j < q → 128 ≤ (l.getD j 0).toNat := by
  intro q hq k2 k3 k4 j hj
  have : j = 0 ∨ j = 1 ∨ j = 2 ∨ j = 3 := by omega
  rcases this with rfl | rfl | rfl | rfl
  ·rw [h0]; exact h
  ·rw [h1]; omega
  ·rw [h2]; omega
  ·rw [h3]; omega
 unfold Lib.decodeN
 rw [if_neg (by omega)]
 repeat' split
 all_goals
  refine ⟨?_, key _ ?_ ?_ ?_ ?_⟩ <;> simp only <;> omega
def phL (l : List UInt8) : Bool := l.any fun c => c == 43 || c == 35
theorem phL_skip : ∀ (k : Nat) (l : List UInt8), (∀ j, j < k → 128 ≤ (l.getD j 0).toNat) → phL l = phL (l.drop k)
 | 0, l, _ => rfl
 | k + 1, [], _ => by simp
 | k + 1, b :: l, h => by
  have h0 : 128 ≤ b.toNat := h 0 (by omega)
  have ih := phL_skip k l fun j hj => h (j + 1) (by omega)
  have e1 : (b == 43) = false := by
   rw [beq_eq_false_iff_ne]
   rintro rfl
   simp at h0
  have e2 : (b == 35) = false := by
   rw [beq_eq_false_iff_ne]
   rintro rfl
   simp at h0
  show (List.any (b :: l) _) = _
  rw [List.any_cons, e1, e2, Bool.or_self, Bool.false_or, List.drop_succ_cons]
  exact ih
theorem phL_step (l : List UInt8) (hne : l ≠ []) : phL l = (((Lib.decodeL l).1 == 43 || (Lib.decodeL l).1 == 35) || phL (l.drop (Lib.decodeL l).2)) := by
 cases l with
 | nil => exact absurd rfl hne
 | cons b l =>
  by_cases hb : 128 ≤ b.toNat
  ·obtain ⟨h1, h2⟩ := dec_hi (b :: l) hb
   have e1 : ((Lib.decodeL (b :: l)).1 == 43) = false := by simp; omega
   have e2 : ((Lib.decodeL (b :: l)).1 == 35) = false := by simp; omega
   rw [e1, e2, Bool.or_self, Bool.false_or]
   exact phL_skip _ _ h2
  ·have e : Lib.decodeL (b :: l) = (b.toNat, 1) := by
    rw [Lib.decodeL_N]
    unfold Lib.decodeN
    rw [if_pos (by simpa using hb)]
    rfl
   rw [e]
   show List.any (b :: l) _ = _
   rw [List.any_cons, List.drop_succ_cons, List.drop_zero]
   have e1 : (b == 43) = (b.toNat == 43) := by
    rw [Bool.eq_iff_iff, beq_iff_eq, beq_iff_eq, ← UInt8.toNat_inj]; rfl
   have e2 : (b == 35) = (b.toNat == 35) := by
    rw [Bool.eq_iff_iff, beq_iff_eq, beq_iff_eq, ← UInt8.toNat_inj]; rfl
   rw [e1, e2]
   rfl
theorem phL_vPH (s : ByteArray) : phL s.data.toList = vPH s := any_or _ _ _
theorem byte_ph (r : Nat) (h : r < 128) : decide (0 ≤ Lib.indexByte phB.data.toList r.toUInt8) = (r == 43 || r == 35) := by
 have : ∀ q : Fin 128, decide (0 ≤ Lib.indexByte phB.data.toList (q.val).toUInt8) = (q.val == 43 || q.val == 35) := by decide
 exact this ⟨r, h⟩
set_option maxHeartbeats 8000000 in
set_option maxRecDepth 1000000 in
theorem short_ph (L : Lays.n153 P ρ) (s : ByteArray) (w : World) (h8 : s.size ≤ 8) :
  Calls P (ρ.f 153) #[.string s, .string phB] w fun e w' => (∃ z : Int, e = .returned (.int .i64 z) ∧ decide (0 ≤ z) = phL s.data.toList) ∧ Below w.heap.size w w' := by
 have cA : ∀ (r : Nat) w, r < 128 → ∃ z : Int, decide (0 ≤ z) = (r == 43 || r == 35) ∧ Calls P (ρ.f 152) #[.string phB, .int .i32 r] w fun e w' => e = .returned (.int .i64 z) ∧ w' = w := fun r w h => ⟨_, byte_ph r h, Any.strings_IndexRune_ascii { L with } phB r w (by omega) (by omega)⟩
 have cR : ∀ (r : Nat) w, 128 ≤ r → r < 55296 ∨ (57343 < r ∧ r ≤ 1114111) → Calls P (ρ.f 152) #[.string phB, .int .i32 r] w _ := fun r w h h' => rune_ph { L with } r w h h'
 have hemp : phB.toList.isEmpty = false := by rw [Lib.toList_data]; rfl
 have hn1 : ((phB.size : Int) == 1) = false := rfl
 have h8z : decide ((8 : Int) < (s.size : Int)) = false := decide_eq_false (by omega)
 have t3 := L.t3; have a3 := L.a3; have z3 := L.z3; have v3 := L.v3
 have t4 := L.t4; have a4 := L.a4; have z4 := L.z4; have v4 := L.v4
 have t5 := L.t5; have a5 := L.a5; have z5 := L.z5; have v5 := L.v5
 have t9 := L.t9; have a9 := L.a9; have z9 := L.z9; have v9 := L.v9
 have t21 := L.t21; have a21 := L.a21; have z21 := L.z21; have v21 := L.v21
 have e152 : ∀ args w, (callFunc (ρ.f 152) args).run P w = .ok (.enter (ρ.f 152) args) w := enters_of L.f152 (by kernel_rfl) rfl
 have e226 : ∀ args w, (callFunc (ρ.f 226) args).run P w = .ok (.enter (ρ.f 226) args) w := enters_of L.f226 (by kernel_rfl) rfl
 go_enter L.f153, Body.n153_ntmps ρ
 go_wp2_with (go_at_fn (ρ.f 226); refine (Any.strings_shouldUseASCIISet { L with } _ _).mono ?_; rintro e w' ⟨rfl, hw⟩; rw [hw, h8z])
 go_loopg [9, 10] s.size (fun g _ _ wx => ∃ pos : Nat, s.size ≤ pos + g ∧ ItAt w wx s pos ∧ phL (s.data.toList.drop pos) = phL s.data.toList)
 case atStart => exact ⟨0, by omega, itAt_start w s 0, by simp⟩
 case round =>
  obtain ⟨pos, hpg, hit, hph⟩ := hrel
  have HIT : Aside (ItAt w wr s pos) := hit
  have HPH : Aside (phL (s.data.toList.drop pos) = phL s.data.toList) := hph
  by_cases hp : pos < s.size
  ·obtain ⟨g, rfl⟩ : ∃ g, gk = g + 1 := ⟨gk - 1, by omega⟩
   have hnx := fun ty => next_at (P := P) hit hp ty
   have hne : s.data.toList.drop pos ≠ [] := by
    intro h
    have := congrArg List.length h
    simp at this
    omega
   have hst := phL_step _ hne
   rw [Lib.decodeL_drop, hph, List.drop_drop] at hst
   have hwd : 1 ≤ (Utf8.decode s pos).2 := by rw [← Lib.decodeL_drop s pos]; exact Lib.decodeL_width _
   have hru := rune_at s pos
   have HIT2 : Aside (ItAt w (setIt wr w.heap.size s (pos + (Utf8.decode s pos).2)) s (pos + (Utf8.decode s pos).2)) := hit.set _
   clear hit hph
   generalize hr : (Utf8.decode s pos).1 = r at hnx hst hru
   have HST : Aside (phL s.data.toList = ((r == 43 || r == 35) || phL (s.data.toList.drop (pos + (Utf8.decode s pos).2)))) := hst
   clear hst
   by_cases h128 : r < 128
   ·obtain ⟨z, hz, cz⟩ := cA r (setIt wr w.heap.size s (pos + (Utf8.decode s pos).2)) h128
    clear cA
    cases hin : (r == 43 || r == 35)
    ·rw [hin] at hz
     have hlt : ¬ ((0 : Int) ≤ z) := of_decide_eq_false hz
     clear hz
     go_wp2_with (go_at_fn (ρ.f 152); refine cz.mono ?_; rintro e w' ⟨rfl, hw⟩; rw [hw])
     go_roundg g
     case measure => omega
     case rel => exact ⟨_, by omega, HIT2.out, by rw [HST.out, hin, Bool.false_or]⟩
    ·rw [hin] at hz
     have hge : (0 : Int) ≤ z := of_decide_eq_true hz
     clear hz
     go_wp2_with (go_at_fn (ρ.f 152); refine cz.mono ?_; rintro e w' ⟨rfl, hw⟩; rw [hw])
     go_ret
     exact ⟨⟨_, rfl, by rw [HST.out, hin, Bool.true_or]; simp⟩, HIT2.out.1⟩
   ·have hin : (r == 43 || r == 35) = false := by simp; omega
    go_wp2_with (go_at_fn (ρ.f 152); refine (cR r _ (by omega) hru).mono ?_; rintro e w' ⟨rfl, hw⟩)
    go_roundg g
    case measure => omega
    case rel => exact ⟨_, by omega, HIT2.out.below hw, by rw [HST.out, hin, Bool.false_or]⟩
  ·have hnx := fun ty => next_end (P := P) hit hp ty
   have hnil : s.data.toList.drop pos = [] := by
    apply List.drop_of_length_le
    simp
    omega
   rw [hnil] at hph
   go_wp2
   go_ret
   exact ⟨⟨_, rfl, by rw [← hph]; rfl⟩, HIT.out.1⟩
theorem index_ph (L : Lays.n153 P ρ) (hv116 : ∀ w, (zeroValue (ρ.t 116)).run P w = .ok (.agg (Array.replicate 256 (.bool false))) w) (hi116 : (P.info? (ρ.t 116)).map (·.size) = some 256) (s : ByteArray) (w : World) (hs : s.size < 4294967281) :
  Calls P (ρ.f 153) #[.string s, .string phB] w fun e w' => (∃ z : Int, e = .returned (.int .i64 z) ∧ decide (0 ≤ z) = phL s.data.toList) ∧ Below w.heap.size w w' := by
 by_cases h8 : s.size ≤ 8
 ·exact short_ph L s w h8
 ·refine (Any.strings_IndexAny_long L hv116 hi116 s phB w (by decide) (by omega) hs (by decide) ?_).mono fun e w' ⟨h1, h2⟩ => ⟨⟨_, h1, ?_⟩, ?_⟩
  ·intro j b hb
   have : phB.data.toList = [43, 35] := rfl
   rw [this] at hb
   match j, hb with
   | 0, hb => cases hb; decide
   | 1, hb => cases hb; decide
  ·have := has_ph s
   rw [phL_vPH, ← this]
   rfl
  ·rw [h2]
   exact ((Below.refl _ _).alloc (Nat.le_refl _) _).alloc (by simp) _
set_option maxHeartbeats 1000000 in
theorem contains_ph (L : Lays.n150 P ρ) (hv116 : ∀ w, (zeroValue (ρ.t 116)).run P w = .ok (.agg (Array.replicate 256 (.bool false))) w) (hi116 : (P.info? (ρ.t 116)).map (·.size) = some 256) (s : ByteArray) (w : World) (hs : s.size < 4294967281) :
  Calls P (ρ.f 150) #[.string s, .string phB] w fun e w' => e = .returned (.bool (vPH s)) ∧ Below w.heap.size w w' := by
 have c := index_ph { L with } hv116 hi116 s w hs
 have t3 := L.t3; have a3 := L.a3; have z3 := L.z3; have v3 := L.v3
 have t4 := L.t4; have a4 := L.a4; have z4 := L.z4; have v4 := L.v4
 have t9 := L.t9; have a9 := L.a9; have z9 := L.z9; have v9 := L.v9
 have e153 : ∀ args w, (callFunc (ρ.f 153) args).run P w = .ok (.enter (ρ.f 153) args) w := enters_of L.f153 (by kernel_rfl) rfl
 go_enter L.f150, Body.n150_ntmps ρ
 go_wp2_with (go_at_fn (ρ.f 153); refine c.mono ?_; rintro e w' ⟨⟨z, rfl, hz⟩, hw⟩)
 go_ret
 refine ⟨?_, hw⟩
 rw [← phL_vPH, ← hz]
 rfl
end Go.Proofs.YtejjggnchdldoaaDoor.Abs
set_option linter.unusedVariables false
set_option linter.unusedSimpArgs false
namespace Go.Proofs
open Go.RowKit Go.Shelf Go.Lib
def Tryd.laysValid_ren : Go.Shelf.Ren := ⟨fun | 196 => 89 | 259 => 99 | n => n, fun | 9 => 9 | 4 => 4 | 3 => 3 | 5 => 5 | 12 => 12 | 119 => 96 | 0 => 0 | 46 => 94 | 139 => 99 | 138 => 98 | 53 => 110 | n => n, fun | 3 => 0 | 4 => 1 | n => n⟩
theorem Tryd.laysValid : Go.Proofs.Lays.n196 Tryd.prog Tryd.laysValid_ren := {
 mixed := by kernel_rfl
 f196 := Tryd.func89.trans (congrArg some (by kernel_rfl))
 f259 := Tryd.func99.trans (congrArg some (by kernel_rfl))
 t0 := Tryd.underlying0
 a0 := Tryd.isAgg0
 z0 := Tryd.sizeOf0
 v0 := Tryd.zeroValue0
 t3 := Tryd.underlying3
 a3 := Tryd.isAgg3
 z3 := Tryd.sizeOf3
 v3 := Tryd.zeroValue3
 t4 := Tryd.underlying4
 a4 := Tryd.isAgg4
 z4 := Tryd.sizeOf4
 v4 := Tryd.zeroValue4
 t5 := Tryd.underlying5
 a5 := Tryd.isAgg5
 z5 := Tryd.sizeOf5
 v5 := Tryd.zeroValue5
 t9 := Tryd.underlying9
 a9 := Tryd.isAgg9
 z9 := Tryd.sizeOf9
 v9 := Tryd.zeroValue9
 t12 := Tryd.underlying12
 a12 := Tryd.isAgg12
 z12 := Tryd.sizeOf12
 v12 := Tryd.zeroValue12
 t46 := Tryd.underlying94
 a46 := Tryd.isAgg94
 z46 := Tryd.sizeOf94
 v46 := Tryd.zeroValue94
 t53 := Tryd.underlying110
 a53 := Tryd.isAgg110
 z53 := Tryd.sizeOf110
 v53 := Tryd.zeroValue110
 t119 := Tryd.underlying96
 a119 := Tryd.isAgg96
 z119 := Tryd.sizeOf96
 t138 := Tryd.underlying98
 a138 := Tryd.isAgg98
 z138 := Tryd.sizeOf98
 v138 := Tryd.zeroValue98
 t139 := Tryd.underlying99
 a139 := Tryd.isAgg99
 z139 := Tryd.sizeOf99
 v139 := Tryd.zeroValue99
 g3 := by kernel_rfl
 g4 := by kernel_rfl }
def Tryd.laysAny_ren : Go.Shelf.Ren := ⟨fun | 150 => 72 | 153 => 90 | 152 => 100 | 226 => 101 | 227 => 102 | 228 => 103 | 137 => 107 | 119 => 108 | 224 => 109 | 225 => 110 | 217 => 114 | 266 => 119 | n => n, fun | 9 => 9 | 4 => 4 | 3 => 3 | 5 => 5 | 21 => 21 | 117 => 103 | 116 => 102 | 0 => 0 | 46 => 94 | 124 => 114 | n => n, fun | n => n⟩
theorem Tryd.laysAny : Go.Proofs.Lays.n150 Tryd.prog Tryd.laysAny_ren := {
 mixed := by kernel_rfl
 f119 := Tryd.func108.trans (congrArg some (by kernel_rfl))
 f137 := Tryd.func107.trans (congrArg some (by kernel_rfl))
 f150 := Tryd.func72.trans (congrArg some (by kernel_rfl))
 f152 := Tryd.func100.trans (congrArg some (by kernel_rfl))
 f153 := Tryd.func90.trans (congrArg some (by kernel_rfl))
 f217 := Tryd.func114.trans (congrArg some (by kernel_rfl))
 f224 := Tryd.func109.trans (congrArg some (by kernel_rfl))
 f225 := Tryd.func110.trans (congrArg some (by kernel_rfl))
 f226 := Tryd.func101.trans (congrArg some (by kernel_rfl))
 f227 := Tryd.func102.trans (congrArg some (by kernel_rfl))
 f228 := Tryd.func103.trans (congrArg some (by kernel_rfl))
 f266 := Tryd.func119.trans (congrArg some (by kernel_rfl))
 t0 := Tryd.underlying0
 a0 := Tryd.isAgg0
 z0 := Tryd.sizeOf0
 v0 := Tryd.zeroValue0
 t3 := Tryd.underlying3
 a3 := Tryd.isAgg3
 z3 := Tryd.sizeOf3
 v3 := Tryd.zeroValue3
 t4 := Tryd.underlying4
 a4 := Tryd.isAgg4
 z4 := Tryd.sizeOf4
 v4 := Tryd.zeroValue4
 t5 := Tryd.underlying5
 a5 := Tryd.isAgg5
 z5 := Tryd.sizeOf5
 v5 := Tryd.zeroValue5
 t9 := Tryd.underlying9
 a9 := Tryd.isAgg9
 z9 := Tryd.sizeOf9
 v9 := Tryd.zeroValue9
 t21 := Tryd.underlying21
 a21 := Tryd.isAgg21
 z21 := Tryd.sizeOf21
 v21 := Tryd.zeroValue21
 t46 := Tryd.underlying94
 a46 := Tryd.isAgg94
 z46 := Tryd.sizeOf94
 v46 := Tryd.zeroValue94
 t116 := Tryd.underlying102
 a116 := Tryd.isAgg102
 z116 := Tryd.sizeOf102
 t117 := Tryd.underlying103
 a117 := Tryd.isAgg103
 z117 := Tryd.sizeOf103
 v117 := Tryd.zeroValue103
 t124 := Tryd.underlying114
 a124 := Tryd.isAgg114
 z124 := Tryd.sizeOf114
 v124 := Tryd.zeroValue114 }
def Tryd.laysSplit_ren : Go.Shelf.Ren := ⟨fun | 146 => 91 | 221 => 104 | 268 => 111 | 138 => 112 | 143 => 113 | 195 => 115 | 197 => 116 | 218 => 117 | 219 => 118 | 260 => 120 | 217 => 114 | 225 => 110 | 224 => 109 | 267 => 121 | 266 => 119 | 314 => 122 | n => n, fun | 9 => 9 | 31 => 25 | 3 => 3 | 4 => 4 | 0 => 0 | 105 => 116 | 21 => 21 | 5 => 5 | 46 => 94 | 119 => 96 | 139 => 99 | 138 => 98 | 146 => 119 | 51 => 118 | n => n, fun | 1 => 2 | 3 => 0 | 4 => 1 | n => n⟩
theorem Tryd.laysSplit : Go.Proofs.Lays.n146 Tryd.prog Tryd.laysSplit_ren := {
 mixed := by kernel_rfl
 f138 := Tryd.func112.trans (congrArg some (by kernel_rfl))
 f143 := Tryd.func113.trans (congrArg some (by kernel_rfl))
 f146 := Tryd.func91.trans (congrArg some (by kernel_rfl))
 f195 := Tryd.func115.trans (congrArg some (by kernel_rfl))
 f197 := Tryd.func116.trans (congrArg some (by kernel_rfl))
 f217 := Tryd.func114.trans (congrArg some (by kernel_rfl))
 f218 := Tryd.func117.trans (congrArg some (by kernel_rfl))
 f219 := Tryd.func118.trans (congrArg some (by kernel_rfl))
 f221 := Tryd.func104.trans (congrArg some (by kernel_rfl))
 f224 := Tryd.func109.trans (congrArg some (by kernel_rfl))
 f225 := Tryd.func110.trans (congrArg some (by kernel_rfl))
 f260 := Tryd.func120.trans (congrArg some (by kernel_rfl))
 f266 := Tryd.func119.trans (congrArg some (by kernel_rfl))
 f267 := Tryd.func121.trans (congrArg some (by kernel_rfl))
 f268 := Tryd.func111.trans (congrArg some (by kernel_rfl))
 f314 := Tryd.func122.trans (congrArg some (by kernel_rfl))
 t0 := Tryd.underlying0
 a0 := Tryd.isAgg0
 z0 := Tryd.sizeOf0
 v0 := Tryd.zeroValue0
 t3 := Tryd.underlying3
 a3 := Tryd.isAgg3
 z3 := Tryd.sizeOf3
 v3 := Tryd.zeroValue3
 t4 := Tryd.underlying4
 a4 := Tryd.isAgg4
 z4 := Tryd.sizeOf4
 v4 := Tryd.zeroValue4
 t5 := Tryd.underlying5
 a5 := Tryd.isAgg5
 z5 := Tryd.sizeOf5
 v5 := Tryd.zeroValue5
 t9 := Tryd.underlying9
 a9 := Tryd.isAgg9
 z9 := Tryd.sizeOf9
 v9 := Tryd.zeroValue9
 t21 := Tryd.underlying21
 a21 := Tryd.isAgg21
 z21 := Tryd.sizeOf21
 v21 := Tryd.zeroValue21
 t31 := Tryd.underlying25
 a31 := Tryd.isAgg25
 z31 := Tryd.sizeOf25
 v31 := Tryd.zeroValue25
 t46 := Tryd.underlying94
 a46 := Tryd.isAgg94
 z46 := Tryd.sizeOf94
 v46 := Tryd.zeroValue94
 t51 := Tryd.underlying118
 a51 := Tryd.isAgg118
 z51 := Tryd.sizeOf118
 v51 := Tryd.zeroValue118
 t105 := Tryd.underlying116
 a105 := Tryd.isAgg116
 z105 := Tryd.sizeOf116
 v105 := Tryd.zeroValue116
 t119 := Tryd.underlying96
 a119 := Tryd.isAgg96
 z119 := Tryd.sizeOf96
 t138 := Tryd.underlying98
 a138 := Tryd.isAgg98
 z138 := Tryd.sizeOf98
 v138 := Tryd.zeroValue98
 t139 := Tryd.underlying99
 a139 := Tryd.isAgg99
 z139 := Tryd.sizeOf99
 v139 := Tryd.zeroValue99
 t146 := Tryd.underlying119
 a146 := Tryd.isAgg119
 z146 := Tryd.sizeOf119
 v146 := Tryd.zeroValue119
 g1 := by kernel_rfl
 g3 := by kernel_rfl
 g4 := by kernel_rfl }
namespace YtejjggnchdldoaaDoor.Abs
def noZ : Nat → List UInt8 → Bool
 | 0, _ => true
 | n + 1, l => if l = [] then true else if (Lib.decodeL l).1 = 0 then false else noZ n (l.drop (Lib.decodeL l).2)
def cleanT (s : ByteArray) : Bool := noZ s.size s.data.toList && (Lib.validD s.data.toList && decide (s.size ≤ 60))
def JT (w : World) : Prop := Lib.Utf8Tabs (Tryd.laysValid_ren.g 3) (Tryd.laysValid_ren.g 4) w
def J0 (w : World) : Prop := JT w ∧ ∃ m, w.cell? ⟨Tryd.laysSplit_ren.g 1, 0, none⟩ = some (.int .i64 m)
theorem jt_stays : ∀ w w' : World, JT w → Below w.heap.size w w' → JT w' := fun _ _ h hb => Utf8Tabs_below h hb
theorem j0_stays : ∀ w w' : World, J0 w → Below w.heap.size w w' → J0 w' := fun w w' h hb => ⟨jt_stays w w' h.1 hb, by
 obtain ⟨m, hm⟩ := h.2
 have hlt := World.block_lt_of_cell? _ _ hm
 refine ⟨m, ?_⟩
 rw [← hm]
 simp only [World.cell?]
 rw [hb.block _ hlt]⟩
set_option maxHeartbeats 1000000 in
set_option maxRecDepth 1000000 in
theorem text_walk (s : ByteArray) (w : World) (hs : s.size ≤ 9223372036854775807) (hT : JT w) :
  Calls Tryd.prog 71 #[.string s] w fun e w' => e = .returned (.bool (cleanT s)) ∧ Below w.heap.size w w' := by
 have cV : ∀ w, JT w → Calls Tryd.prog 89 #[.string s] w _ := fun w hT => Any.utf8_ValidString Tryd.laysValid s w hs hT
 unfold cleanT
 generalize hV : Lib.validD s.data.toList = V at cV ⊢
 have bel : ∀ pos, Below w.heap.size w (w.iter s pos) := fun pos => (Below.refl _ w).alloc (Nat.le_refl _) _
 go_enter Tryd.func71, Tryd.ntmps71
 go_wp2
 go_loopw [] (fun w' => ∃ (pos b : Nat), w' = w.iter s pos ∧ noZ b (s.data.toList.drop pos) = noZ s.size s.data.toList ∧ s.size ≤ pos + b) (fun w' => s.size - w'.iterPos w.heap.size)
 case atStart => exact ⟨0, s.size, rfl, by simp, by omega⟩
 case round =>
  obtain ⟨pos, b, rfl, hc, hb⟩ := hrel
  by_cases hp : pos < s.size
  ·have hnx : ∀ ty, (Instr.next (.pointer (some ⟨w.heap.size, 0, none⟩)) true ty).run Tryd.prog (w.iter s pos) = _ := fun ty => run_next_any w s pos ty hp
   have hdd := Lib.decodeL_drop s pos
   have hwd : 1 ≤ (Utf8.decode s pos).2 := by rw [← hdd]; exact Lib.decodeL_width _
   obtain ⟨b, rfl⟩ : ∃ b', b = b' + 1 := ⟨b - 1, by omega⟩
   have hne : s.data.toList.drop pos ≠ [] := by
    intro h
    have := congrArg List.length h
    simp at this
    omega
   rw [noZ, if_neg hne, hdd] at hc
   by_cases hz : (Utf8.decode s pos).1 = 0
   ·rw [if_pos hz] at hc
    have hz' : (((Utf8.decode s pos).1 : Int) == 0) = true := by simp [hz]
    go_wp2
    go_ret
    rw [← hc]
    exact ⟨by simp, bel _⟩
   ·rw [if_neg hz, List.drop_drop] at hc
    have hz' : (((Utf8.decode s pos).1 : Int) == 0) = false := by simp; omega
    go_wp2
    go_roundw
    case rel => exact ⟨pos + (Utf8.decode s pos).2, b, rfl, hc, by omega⟩
    case measure =>
     simp
     omega
  ·have hnx : ∀ ty, (Instr.next (.pointer (some ⟨w.heap.size, 0, none⟩)) true ty).run Tryd.prog (w.iter s pos) = _ := fun ty => run_next_end w s pos ty hp
   have hnil : s.data.toList.drop pos = [] := by
    apply List.drop_of_length_le
    simp
    omega
   have hc2 : noZ s.size s.data.toList = true := by
    rw [← hc, hnil]
    cases b <;> simp [noZ]
   rw [hc2]
   have cV2 := cV (w.iter s pos) (Utf8Tabs_below hT (bel pos))
   go_wp2_with (go_at_call 89; refine cV2.mono ?_; rintro e w' ⟨rfl, hb2⟩)
   all_goals
    go_ret
    refine ⟨?_, (bel pos).trans (hb2.mono (bel pos).size)⟩
   ·simp_all
    omega
   ·simp_all
theorem textGo_eq : ∀ (n : Nat) (l : List UInt8), textGo n l = (noZ n l && Lib.validGoD n l)
 | 0, _ => rfl
 | n + 1, l => by
  rw [textGo, noZ, Lib.validGoD, textGo_eq n]
  by_cases h : l = []
  ·simp [h]
  ·by_cases h1 : (Lib.decodeL l).1 = 65533 ∧ (Lib.decodeL l).2 = 1
   ·simp [h, h1]
   ·by_cases h2 : (Lib.decodeL l).1 = 0
    ·simp [h, h2]
    ·simp [h, h1, h2]
theorem clean_eq (s : ByteArray) : cleanT s = vTextOk s := by
 have e : s.data.toList.length = s.size := by simp
 unfold cleanT vTextOk Lib.validD
 rw [textGo_eq, e]
 cases noZ s.size s.data.toList <;> cases Lib.validGoD s.size s.data.toList <;> simp
theorem ph_of {c : ByteArray} (h : c.data.toList = [43, 35]) : c = phB := by
 cases c with
 | mk d =>
  have : d = #[43, 35] := by apply Array.ext'; simpa using h
  subst this
  rfl
theorem sep_of {c : ByteArray} (h : c.data.toList = [47]) : c = sepB := by
 cases c with
 | mk d =>
  have : d = #[47] := by apply Array.ext'; simpa using h
  subst this
  rfl
theorem set116 : (Tryd.prog.info? (Tryd.laysAny_ren.t 116)).map (fun i => (i.zero, i.size)) = some (some (.agg (Array.replicate 256 (.bool false))), 256) := by kernel_rfl
theorem hi9 : (Tryd.prog.info? (Tryd.laysSplit_ren.t 9)).map (fun i => (i.zero, i.size, i.bytes)) = some (some (.string ByteArray.empty), 1, 16) := by kernel_rfl
theorem hr_same {w w' : World} (hb : Below w.heap.size w w') : HR w noPhi w' [] := by
 refine ⟨hb, ?_, ?_, ?_, ?_⟩
 ·intro i k b o sz hi
  cases hi
 ·intro i k hi
  cases hi
 ·intro i i' k k' b o sz o' sz' hi
  cases hi
 ·intro i p hp
  cases hp
theorem ext_val {w w' : World} (hb : Below w.heap.size w w') (ty : Nat) (v : Value) : ∃ φ' Hc x ids, HR w φ' w' Hc ∧ VR w φ' x v ∧ ownT E0.ti E0.tp Hc 8 ty x = some (.sc v, ids) ∧ ids.Nodup :=
 ⟨noPhi, [], .sc v, [], hr_same hb, VR_sc _ _ _, rfl, List.nodup_nil⟩
theorem ownL_scE {ti : Nat → Option TI} {tp : Nat → Option (List Nat)} {H : Heap} {d : Nat} : ∀ (ts : List Nat) (l : List Value), ts.length = l.length → ownL (ownT ti tp H (d + 1)) ts (l.map AV.sc) = some (l.map AV.sc, [])
 | [], [], _ => rfl
 | t :: ts, v :: l, h => by
  have ih := ownL_scE (ti := ti) (tp := tp) (H := H) (d := d) ts l (by simpa using h)
  simp only [List.map_cons, ownL, ih, Option.bind_some]
  rfl
theorem own_sl0 {ti : Nat → Option TI} {tp : Nat → Option (List Nat)} {H : Heap} {d ty id off n z : Nat} : ownT ti tp H (d + 1) ty (.sl id off n z) = (ti ty).bind fun i => (ti i.elem).bind fun j => if z = j.size then (if isApp H id then (rdCells H id off (n * z)).bind fun cs => (ownL (ownT ti tp H d) (List.replicate n j.cty).flatten cs).bind fun q => some (.ro n q.1, id :: q.2) else none) else none := rfl
theorem ext_strs (w : World) (l : List ByteArray) (e : TypeId) : ∃ φ' Hc x ids, HR w φ' (w.alloc (.cells (l.map Value.string).toArray e)) Hc ∧ VR w φ' x (.slice (some ⟨w.heap.size, 0, none⟩) l.length l.length) ∧
  ownT E0.ti E0.tp Hc 8 25 x = some (.ro l.length (l.map fun s => .sc (.string s)), ids) ∧ ids.Nodup := by
 have hcs : VRs w noPhi ((l.map Value.string).map AV.sc) (fun j => (l.map Value.string).toArray[0 + j]?) := by
  rw [VRs_iff]
  intro j x hj
  rw [List.getElem?_map] at hj
  obtain ⟨v, hv, rfl⟩ := Option.map_eq_some_iff.1 hj
  exact ⟨v, by simpa using hv, VR_sc _ _ _⟩
 obtain ⟨h1, h2⟩ := (HR.start w).alloc (below_alloc' w (.cells (l.map Value.string).toArray e)) (b := w.heap.size) (o := 0) (k := ⟨(l.map Value.string).map AV.sc, true, true⟩) (Nat.le_refl _) (alloc_new w _) (by simp) (fun _ => rfl) (.inl rfl) hcs
 refine ⟨_, _, .sl 0 0 l.length 1, [0], h1, ?_, ?_, by simp⟩
 ·rw [VR]
  refine .inr ⟨w.heap.size, 0, _, upd_at _ _ _, .inr ⟨l.length, Nat.le_refl _, rfl, ?_⟩⟩
  simp
 ·rw [own_sl0]
  have hr : rdCells ([] ++ [⟨(l.map Value.string).map AV.sc, true, true⟩]) 0 0 (l.length * 1) = some ((l.map Value.string).map AV.sc) := by
   simp [rdCells, List.take_of_length_le]
  have e1 : E0.ti 25 = ti0 25 := rfl
  obtain ⟨i, j, hi, hj, hz, hc⟩ : ∃ i j, ti0 25 = some i ∧ ti0 i.elem = some j ∧ j.size = 1 ∧ j.cty = [i.elem] := ⟨_, _, rfl, rfl, rfl, rfl⟩
  simp only [e1, hi, Option.bind_some, show E0.ti i.elem = some j from hj, hz, if_true, hr, hc]
  have ho := ownL_scE (ti := E0.ti) (tp := E0.tp) (H := [] ++ [⟨(l.map Value.string).map AV.sc, true, true⟩]) (d := 6) (List.replicate l.length [i.elem]).flatten (l.map Value.string) (by simp)
  rw [ho]
  have ha : isApp ([] ++ [(⟨(l.map Value.string).map AV.sc, true, true⟩ : Blk)]) 0 = true := rfl
  rw [if_pos ha]
  simp [List.map_map]
theorem any_walk (s : ByteArray) (w : World) (hs : s.size < 4294967281) : Calls Tryd.prog 72 #[.string s, .string phB] w fun e w' => e = .returned (.bool (vPH s)) ∧ Below w.heap.size w w' :=
 contains_ph Tryd.laysAny (zero_of_info set116).1 (zero_of_info set116).2 s w hs
theorem split_walk (s : ByteArray) (w : World) (hs : s.size < 4294967281) (hm : ∃ m, w.cell? ⟨Tryd.laysSplit_ren.g 1, 0, none⟩ = some (.int .i64 m)) : Calls Tryd.prog 91 #[.string s, .string sepB] w fun e w' =>
  e = .returned (.slice (some ⟨w.heap.size, 0, none⟩) (vLevels s).length (vLevels s).length) ∧ w' = w.alloc (.cells ((vLevels s).map Value.string).toArray (Tryd.laysSplit_ren.t 9)) := by
 obtain ⟨m, hm⟩ := hm
 have h := Any.strings_Split Tryd.laysSplit hi9 s sepB m w hs hm (Nat.le_refl _)
 rw [split_levels, ← levels_len] at h
 exact h
theorem one_arg {w : World} {x : Value} {us : List Value} (hl : us.length = 1) (hv : VRs w noPhi [.sc x] (fun j => us[j]?)) : us = [x] := by
 match us, hl with
 | [y], _ =>
  rw [VRs] at hv
  obtain ⟨⟨u, hu, hv⟩, _⟩ := hv
  rw [VR] at hv
  simp at hu
  rw [hu, hv]
theorem two_args {w : World} {x y : Value} {us : List Value} (hl : us.length = 2) (hv : VRs w noPhi [.sc x, .sc y] (fun j => us[j]?)) : us = [x, y] := by
 match us, hl with
 | [a, b], _ =>
  rw [VRs, VRs] at hv
  obtain ⟨⟨u, hu, hv⟩, ⟨u2, hu2, hv2⟩, _⟩ := hv
  rw [VR] at hv hv2
  simp at hu hu2
  rw [hu, hv, hu2, hv2]
theorem ext0 : ExtOk Tryd.prog E0 J0 := by
 intro f g hg w hj ty vs us t hl hv ht
 have hf : E0.ext f = if Nat.beq f 71 then some ext71 else if Nat.beq f 72 then some ext72 else if Nat.beq f 91 then some ext91 else none := rfl
 rw [hf] at hg
 split at hg
 ·rename_i hfe
  obtain rfl := Nat.eq_of_beq_eq_true hfe
  cases hg
  unfold ext71 at ht
  split at ht
  case h_2 => cases ht
  rename_i s
  split at ht
  case isFalse => cases ht
  rename_i hs
  cases ht
  have hm : maxLen = 9223372036854775807 := by decide
  rw [hm] at hs
  obtain rfl := one_arg hl hv
  refine .inr ⟨enters_of Tryd.func71 (by kernel_rfl) rfl _ _, (text_walk s w hs hj.1).mono fun e w' ⟨he, hb⟩ => ⟨_, he, ?_⟩⟩
  rw [clean_eq]
  exact ext_val hb _ _
 split at hg
 ·rename_i hfe
  obtain rfl := Nat.eq_of_beq_eq_true hfe
  cases hg
  unfold ext72 at ht
  split at ht
  case h_2 => cases ht
  rename_i s c
  split at ht
  case isFalse => cases ht
  rename_i hs
  cases ht
  obtain rfl := two_args hl hv
  obtain ⟨hc, hs⟩ := hs
  obtain rfl := ph_of hc
  exact .inr ⟨enters_of Tryd.func72 (by kernel_rfl) rfl _ _, (any_walk s w hs).mono fun e w' ⟨he, hb⟩ => ⟨_, he, ext_val hb _ _⟩⟩
 split at hg
 ·rename_i hfe
  obtain rfl := Nat.eq_of_beq_eq_true hfe
  cases hg
  unfold ext91 at ht
  split at ht
  case h_2 => cases ht
  rename_i s c
  split at ht
  case isFalse => cases ht
  rename_i hs
  cases ht
  obtain rfl := two_args hl hv
  obtain ⟨rfl, hc, hs⟩ := hs
  obtain rfl := sep_of hc
  exact .inr ⟨enters_of Tryd.func91 (by kernel_rfl) rfl _ _, (split_walk s w hs hj.2).mono fun e w' ⟨he, hw⟩ => ⟨_, he, by subst hw; exact ext_strs w (vLevels s) _⟩⟩
 ·cases hg
end YtejjggnchdldoaaDoor.Abs
end Go.Proofs
set_option linter.unusedVariables false
set_option linter.unusedSimpArgs false
set_option maxRecDepth 100000
namespace Go.Proofs.YtejjggnchdldoaaDoor.Abs
open Go
theorem tab0 : tabB Go.Proofs.Tryd.prog 0 tis = true := by kernel_rfl
theorem code0 : fnsB E0 fss = true := by kernel_rfl
theorem tabOk0 : TabOk Go.Proofs.Tryd.prog ti0 := by
 intro t i h
 unfold ti0 at h
 cases hl : tis[t]? with
 | none => rw [hl] at h; cases h
 | some o =>
  rw [hl] at h
  simp only [Option.getD_some] at h
  subst h
  simpa using (tabB_ok tis 0 t i tab0 hl).1
theorem byte0 : ∀ t i, ti0 t = some i → i.ik = some .u8 → i.size = 1 := by
 intro t i h
 unfold ti0 at h
 cases hl : tis[t]? with
 | none => rw [hl] at h; cases h
 | some o =>
  rw [hl] at h
  simp only [Option.getD_some] at h
  subst h
  exact (tabB_ok tis 0 t i tab0 hl).2
def FnQ (n : Nat) (c : Code) (t : Nat) (f : Func) : Prop := ∃ fn, Go.Proofs.Tryd.prog.funcs[n]? = some fn ∧ (fn.name == "runtime.NumGoroutine") = false ∧ fn.body = some c ∧ fn.ntmps = t ∧ fn.results.toList = f.results.toList
theorem fn6 : FnQ 6 c6 22 Go.Proofs.Tryd.f6 := ⟨_, Go.Proofs.Tryd.func6, by kernel_rfl, by kernel_rfl, rfl, rfl⟩
theorem fn53 : FnQ 53 c53 15 Go.Proofs.Tryd.f53 := ⟨_, Go.Proofs.Tryd.func53, by kernel_rfl, by kernel_rfl, rfl, rfl⟩
theorem fn26 : FnQ 26 c26 35 Go.Proofs.Tryd.f26 := ⟨_, Go.Proofs.Tryd.func26, by kernel_rfl, by kernel_rfl, rfl, rfl⟩
theorem fn79 : FnQ 79 c79 120 Go.Proofs.Tryd.f79 := ⟨_, Go.Proofs.Tryd.func79, by kernel_rfl, by kernel_rfl, rfl, rfl⟩
theorem fn93 : FnQ 93 c93 10 Go.Proofs.Tryd.f93 := ⟨_, Go.Proofs.Tryd.func93, by kernel_rfl, by kernel_rfl, rfl, rfl⟩
theorem fn78 : FnQ 78 c78 239 Go.Proofs.Tryd.f78 := ⟨_, Go.Proofs.Tryd.func78, by kernel_rfl, by kernel_rfl, rfl, rfl⟩
theorem fn105 : FnQ 105 c105 104 Go.Proofs.Tryd.f105 := ⟨_, Go.Proofs.Tryd.func105, by kernel_rfl, by kernel_rfl, rfl, rfl⟩
theorem fn92 : FnQ 92 c92 35 Go.Proofs.Tryd.f92 := ⟨_, Go.Proofs.Tryd.func92, by kernel_rfl, by kernel_rfl, rfl, rfl⟩
theorem fn74 : FnQ 74 c74 6 Go.Proofs.Tryd.f74 := ⟨_, Go.Proofs.Tryd.func74, by kernel_rfl, by kernel_rfl, rfl, rfl⟩
theorem fn75 : FnQ 75 c75 17 Go.Proofs.Tryd.f75 := ⟨_, Go.Proofs.Tryd.func75, by kernel_rfl, by kernel_rfl, rfl, rfl⟩
theorem fn76 : FnQ 76 c76 33 Go.Proofs.Tryd.f76 := ⟨_, Go.Proofs.Tryd.func76, by kernel_rfl, by kernel_rfl, rfl, rfl⟩
theorem fn52 : FnQ 52 c52 25 Go.Proofs.Tryd.f52 := ⟨_, Go.Proofs.Tryd.func52, by kernel_rfl, by kernel_rfl, rfl, rfl⟩
theorem fn80 : FnQ 80 c80 57 Go.Proofs.Tryd.f80 := ⟨_, Go.Proofs.Tryd.func80, by kernel_rfl, by kernel_rfl, rfl, rfl⟩
theorem fn56 : FnQ 56 c56 191 Go.Proofs.Tryd.f56 := ⟨_, Go.Proofs.Tryd.func56, by kernel_rfl, by kernel_rfl, rfl, rfl⟩
theorem fn27 : FnQ 27 c27 23 Go.Proofs.Tryd.f27 := ⟨_, Go.Proofs.Tryd.func27, by kernel_rfl, by kernel_rfl, rfl, rfl⟩
theorem fn5 : FnQ 5 c5 39 Go.Proofs.Tryd.f5 := ⟨_, Go.Proofs.Tryd.func5, by kernel_rfl, by kernel_rfl, rfl, rfl⟩
theorem fn28 : FnQ 28 c28 6 Go.Proofs.Tryd.f28 := ⟨_, Go.Proofs.Tryd.func28, by kernel_rfl, by kernel_rfl, rfl, rfl⟩
theorem fn59 : FnQ 59 c59 15 Go.Proofs.Tryd.f59 := ⟨_, Go.Proofs.Tryd.func59, by kernel_rfl, by kernel_rfl, rfl, rfl⟩
theorem fn57 : FnQ 57 c57 5 Go.Proofs.Tryd.f57 := ⟨_, Go.Proofs.Tryd.func57, by kernel_rfl, by kernel_rfl, rfl, rfl⟩
theorem fn29 : FnQ 29 c29 32 Go.Proofs.Tryd.f29 := ⟨_, Go.Proofs.Tryd.func29, by kernel_rfl, by kernel_rfl, rfl, rfl⟩
theorem fn31 : FnQ 31 c31 7 Go.Proofs.Tryd.f31 := ⟨_, Go.Proofs.Tryd.func31, by kernel_rfl, by kernel_rfl, rfl, rfl⟩
theorem fn58 : FnQ 58 c58 19 Go.Proofs.Tryd.f58 := ⟨_, Go.Proofs.Tryd.func58, by kernel_rfl, by kernel_rfl, rfl, rfl⟩
theorem fn30 : FnQ 30 c30 42 Go.Proofs.Tryd.f30 := ⟨_, Go.Proofs.Tryd.func30, by kernel_rfl, by kernel_rfl, rfl, rfl⟩
theorem fn82 : FnQ 82 c82 121 Go.Proofs.Tryd.f82 := ⟨_, Go.Proofs.Tryd.func82, by kernel_rfl, by kernel_rfl, rfl, rfl⟩
theorem fn54 : FnQ 54 c54 10 Go.Proofs.Tryd.f54 := ⟨_, Go.Proofs.Tryd.func54, by kernel_rfl, by kernel_rfl, rfl, rfl⟩
theorem fn94 : FnQ 94 c94 26 Go.Proofs.Tryd.f94 := ⟨_, Go.Proofs.Tryd.func94, by kernel_rfl, by kernel_rfl, rfl, rfl⟩
theorem fn95 : FnQ 95 c95 26 Go.Proofs.Tryd.f95 := ⟨_, Go.Proofs.Tryd.func95, by kernel_rfl, by kernel_rfl, rfl, rfl⟩
theorem fn96 : FnQ 96 c96 26 Go.Proofs.Tryd.f96 := ⟨_, Go.Proofs.Tryd.func96, by kernel_rfl, by kernel_rfl, rfl, rfl⟩
theorem fn81 : FnQ 81 c81 186 Go.Proofs.Tryd.f81 := ⟨_, Go.Proofs.Tryd.func81, by kernel_rfl, by kernel_rfl, rfl, rfl⟩
theorem fn73 : FnQ 73 c73 5 Go.Proofs.Tryd.f73 := ⟨_, Go.Proofs.Tryd.func73, by kernel_rfl, by kernel_rfl, rfl, rfl⟩
theorem fn50 : FnQ 50 c50 20 Go.Proofs.Tryd.f50 := ⟨_, Go.Proofs.Tryd.func50, by kernel_rfl, by kernel_rfl, rfl, rfl⟩
theorem fn51 : FnQ 51 c51 5 Go.Proofs.Tryd.f51 := ⟨_, Go.Proofs.Tryd.func51, by kernel_rfl, by kernel_rfl, rfl, rfl⟩
theorem fn97 : FnQ 97 c97 5 Go.Proofs.Tryd.f97 := ⟨_, Go.Proofs.Tryd.func97, by kernel_rfl, by kernel_rfl, rfl, rfl⟩
theorem fn83 : FnQ 83 c83 50 Go.Proofs.Tryd.f83 := ⟨_, Go.Proofs.Tryd.func83, by kernel_rfl, by kernel_rfl, rfl, rfl⟩
theorem fn106 : FnQ 106 c106 19 Go.Proofs.Tryd.f106 := ⟨_, Go.Proofs.Tryd.func106, by kernel_rfl, by kernel_rfl, rfl, rfl⟩
theorem fn98 : FnQ 98 c98 35 Go.Proofs.Tryd.f98 := ⟨_, Go.Proofs.Tryd.func98, by kernel_rfl, by kernel_rfl, rfl, rfl⟩
theorem fn84 : FnQ 84 c84 65 Go.Proofs.Tryd.f84 := ⟨_, Go.Proofs.Tryd.func84, by kernel_rfl, by kernel_rfl, rfl, rfl⟩
theorem fn60 : FnQ 60 c60 81 Go.Proofs.Tryd.f60 := ⟨_, Go.Proofs.Tryd.func60, by kernel_rfl, by kernel_rfl, rfl, rfl⟩
theorem fn32 : FnQ 32 c32 23 Go.Proofs.Tryd.f32 := ⟨_, Go.Proofs.Tryd.func32, by kernel_rfl, by kernel_rfl, rfl, rfl⟩
theorem fn7 : FnQ 7 c7 17 Go.Proofs.Tryd.f7 := ⟨_, Go.Proofs.Tryd.func7, by kernel_rfl, by kernel_rfl, rfl, rfl⟩
theorem fn8 : FnQ 8 c8 26 Go.Proofs.Tryd.f8 := ⟨_, Go.Proofs.Tryd.func8, by kernel_rfl, by kernel_rfl, rfl, rfl⟩
theorem fn33 : FnQ 33 c33 26 Go.Proofs.Tryd.f33 := ⟨_, Go.Proofs.Tryd.func33, by kernel_rfl, by kernel_rfl, rfl, rfl⟩
theorem fn61 : FnQ 61 c61 15 Go.Proofs.Tryd.f61 := ⟨_, Go.Proofs.Tryd.func61, by kernel_rfl, by kernel_rfl, rfl, rfl⟩
theorem fn34 : FnQ 34 c34 27 Go.Proofs.Tryd.f34 := ⟨_, Go.Proofs.Tryd.func34, by kernel_rfl, by kernel_rfl, rfl, rfl⟩
theorem fn35 : FnQ 35 c35 26 Go.Proofs.Tryd.f35 := ⟨_, Go.Proofs.Tryd.func35, by kernel_rfl, by kernel_rfl, rfl, rfl⟩
theorem fn9 : FnQ 9 c9 136 Go.Proofs.Tryd.f9 := ⟨_, Go.Proofs.Tryd.func9, by kernel_rfl, by kernel_rfl, rfl, rfl⟩
theorem fn10 : FnQ 10 c10 19 Go.Proofs.Tryd.f10 := ⟨_, Go.Proofs.Tryd.func10, by kernel_rfl, by kernel_rfl, rfl, rfl⟩
theorem fn36 : FnQ 36 c36 20 Go.Proofs.Tryd.f36 := ⟨_, Go.Proofs.Tryd.func36, by kernel_rfl, by kernel_rfl, rfl, rfl⟩
theorem fn62 : FnQ 62 c62 20 Go.Proofs.Tryd.f62 := ⟨_, Go.Proofs.Tryd.func62, by kernel_rfl, by kernel_rfl, rfl, rfl⟩
theorem fn37 : FnQ 37 c37 28 Go.Proofs.Tryd.f37 := ⟨_, Go.Proofs.Tryd.func37, by kernel_rfl, by kernel_rfl, rfl, rfl⟩
theorem fn38 : FnQ 38 c38 20 Go.Proofs.Tryd.f38 := ⟨_, Go.Proofs.Tryd.func38, by kernel_rfl, by kernel_rfl, rfl, rfl⟩
theorem fn11 : FnQ 11 c11 30 Go.Proofs.Tryd.f11 := ⟨_, Go.Proofs.Tryd.func11, by kernel_rfl, by kernel_rfl, rfl, rfl⟩
theorem fn12 : FnQ 12 c12 21 Go.Proofs.Tryd.f12 := ⟨_, Go.Proofs.Tryd.func12, by kernel_rfl, by kernel_rfl, rfl, rfl⟩
theorem fn39 : FnQ 39 c39 22 Go.Proofs.Tryd.f39 := ⟨_, Go.Proofs.Tryd.func39, by kernel_rfl, by kernel_rfl, rfl, rfl⟩
theorem fn40 : FnQ 40 c40 32 Go.Proofs.Tryd.f40 := ⟨_, Go.Proofs.Tryd.func40, by kernel_rfl, by kernel_rfl, rfl, rfl⟩
theorem fn41 : FnQ 41 c41 22 Go.Proofs.Tryd.f41 := ⟨_, Go.Proofs.Tryd.func41, by kernel_rfl, by kernel_rfl, rfl, rfl⟩
theorem fn13 : FnQ 13 c13 42 Go.Proofs.Tryd.f13 := ⟨_, Go.Proofs.Tryd.func13, by kernel_rfl, by kernel_rfl, rfl, rfl⟩
theorem fn3 : FnQ 3 c3 114 Go.Proofs.Tryd.f3 := ⟨_, Go.Proofs.Tryd.func3, by kernel_rfl, by kernel_rfl, rfl, rfl⟩
theorem fnC {c : Code} {t : Nat} {f : Func} {o : List (Nat × PI)} {i : FnI} (e : (⟨c, t, f.results.toList, o⟩ : FnI) = i) {n : Nat} (h : FnQ n c t f) : ∃ fn, Go.Proofs.Tryd.prog.funcs[n]? = some fn ∧ (fn.name == "runtime.NumGoroutine") = false ∧ fn.body = some i.body ∧ fn.ntmps = i.ntmps ∧ fn.results.toList = i.results := by subst e; exact h
theorem fnAll : ∀ (f : Nat) (i : FnI), f < 107 → fss[f]? = some (some i) → ∃ fn, Go.Proofs.Tryd.prog.funcs[f]? = some fn ∧ (fn.name == "runtime.NumGoroutine") = false ∧ fn.body = some i.body ∧ fn.ntmps = i.ntmps ∧ fn.results.toList = i.results
 | 0, i, _, h => nomatch Option.some.inj h
 | 1, i, _, h => nomatch Option.some.inj h
 | 2, i, _, h => nomatch Option.some.inj h
 | 3, i, _, h => fnC (Option.some.inj (Option.some.inj h)) fn3
 | 4, i, _, h => nomatch Option.some.inj h
 | 5, i, _, h => fnC (Option.some.inj (Option.some.inj h)) fn5
 | 6, i, _, h => fnC (Option.some.inj (Option.some.inj h)) fn6
 | 7, i, _, h => fnC (Option.some.inj (Option.some.inj h)) fn7
 | 8, i, _, h => fnC (Option.some.inj (Option.some.inj h)) fn8
 | 9, i, _, h => fnC (Option.some.inj (Option.some.inj h)) fn9
 | 10, i, _, h => fnC (Option.some.inj (Option.some.inj h)) fn10
 | 11, i, _, h => fnC (Option.some.inj (Option.some.inj h)) fn11
 | 12, i, _, h => fnC (Option.some.inj (Option.some.inj h)) fn12
 | 13, i, _, h => fnC (Option.some.inj (Option.some.inj h)) fn13
 | 14, i, _, h => nomatch Option.some.inj h
 | 15, i, _, h => nomatch Option.some.inj h
 | 16, i, _, h => nomatch Option.some.inj h
 | 17, i, _, h => nomatch Option.some.inj h
 | 18, i, _, h => nomatch Option.some.inj h
 | 19, i, _, h => nomatch Option.some.inj h
 | 20, i, _, h => nomatch Option.some.inj h
 | 21, i, _, h => nomatch Option.some.inj h
 | 22, i, _, h => nomatch Option.some.inj h
 | 23, i, _, h => nomatch Option.some.inj h
 | 24, i, _, h => nomatch Option.some.inj h
 | 25, i, _, h => nomatch Option.some.inj h
 | 26, i, _, h => fnC (Option.some.inj (Option.some.inj h)) fn26
 | 27, i, _, h => fnC (Option.some.inj (Option.some.inj h)) fn27
 | 28, i, _, h => fnC (Option.some.inj (Option.some.inj h)) fn28
 | 29, i, _, h => fnC (Option.some.inj (Option.some.inj h)) fn29
 | 30, i, _, h => fnC (Option.some.inj (Option.some.inj h)) fn30
 | 31, i, _, h => fnC (Option.some.inj (Option.some.inj h)) fn31
 | 32, i, _, h => fnC (Option.some.inj (Option.some.inj h)) fn32
 | 33, i, _, h => fnC (Option.some.inj (Option.some.inj h)) fn33
 | 34, i, _, h => fnC (Option.some.inj (Option.some.inj h)) fn34
 | 35, i, _, h => fnC (Option.some.inj (Option.some.inj h)) fn35
 | 36, i, _, h => fnC (Option.some.inj (Option.some.inj h)) fn36
 | 37, i, _, h => fnC (Option.some.inj (Option.some.inj h)) fn37
 | 38, i, _, h => fnC (Option.some.inj (Option.some.inj h)) fn38
 | 39, i, _, h => fnC (Option.some.inj (Option.some.inj h)) fn39
 | 40, i, _, h => fnC (Option.some.inj (Option.some.inj h)) fn40
 | 41, i, _, h => fnC (Option.some.inj (Option.some.inj h)) fn41
 | 42, i, _, h => nomatch Option.some.inj h
 | 43, i, _, h => nomatch Option.some.inj h
 | 44, i, _, h => nomatch Option.some.inj h
 | 45, i, _, h => nomatch Option.some.inj h
 | 46, i, _, h => nomatch Option.some.inj h
 | 47, i, _, h => nomatch Option.some.inj h
 | 48, i, _, h => nomatch Option.some.inj h
 | 49, i, _, h => nomatch Option.some.inj h
 | 50, i, _, h => fnC (Option.some.inj (Option.some.inj h)) fn50
 | 51, i, _, h => fnC (Option.some.inj (Option.some.inj h)) fn51
 | 52, i, _, h => fnC (Option.some.inj (Option.some.inj h)) fn52
 | 53, i, _, h => fnC (Option.some.inj (Option.some.inj h)) fn53
 | 54, i, _, h => fnC (Option.some.inj (Option.some.inj h)) fn54
 | 55, i, _, h => nomatch Option.some.inj h
 | 56, i, _, h => fnC (Option.some.inj (Option.some.inj h)) fn56
 | 57, i, _, h => fnC (Option.some.inj (Option.some.inj h)) fn57
 | 58, i, _, h => fnC (Option.some.inj (Option.some.inj h)) fn58
 | 59, i, _, h => fnC (Option.some.inj (Option.some.inj h)) fn59
 | 60, i, _, h => fnC (Option.some.inj (Option.some.inj h)) fn60
 | 61, i, _, h => fnC (Option.some.inj (Option.some.inj h)) fn61
 | 62, i, _, h => fnC (Option.some.inj (Option.some.inj h)) fn62
 | 63, i, _, h => nomatch Option.some.inj h
 | 64, i, _, h => nomatch Option.some.inj h
 | 65, i, _, h => nomatch Option.some.inj h
 | 66, i, _, h => nomatch Option.some.inj h
 | 67, i, _, h => nomatch Option.some.inj h
 | 68, i, _, h => nomatch Option.some.inj h
 | 69, i, _, h => nomatch Option.some.inj h
 | 70, i, _, h => nomatch Option.some.inj h
 | 71, i, _, h => nomatch Option.some.inj h
 | 72, i, _, h => nomatch Option.some.inj h
 | 73, i, _, h => fnC (Option.some.inj (Option.some.inj h)) fn73
 | 74, i, _, h => fnC (Option.some.inj (Option.some.inj h)) fn74
 | 75, i, _, h => fnC (Option.some.inj (Option.some.inj h)) fn75
 | 76, i, _, h => fnC (Option.some.inj (Option.some.inj h)) fn76
 | 77, i, _, h => nomatch Option.some.inj h
 | 78, i, _, h => fnC (Option.some.inj (Option.some.inj h)) fn78
 | 79, i, _, h => fnC (Option.some.inj (Option.some.inj h)) fn79
 | 80, i, _, h => fnC (Option.some.inj (Option.some.inj h)) fn80
 | 81, i, _, h => fnC (Option.some.inj (Option.some.inj h)) fn81
 | 82, i, _, h => fnC (Option.some.inj (Option.some.inj h)) fn82
 | 83, i, _, h => fnC (Option.some.inj (Option.some.inj h)) fn83
 | 84, i, _, h => fnC (Option.some.inj (Option.some.inj h)) fn84
 | 85, i, _, h => nomatch Option.some.inj h
 | 86, i, _, h => nomatch Option.some.inj h
 | 87, i, _, h => nomatch Option.some.inj h
 | 88, i, _, h => nomatch Option.some.inj h
 | 89, i, _, h => nomatch Option.some.inj h
 | 90, i, _, h => nomatch Option.some.inj h
 | 91, i, _, h => nomatch Option.some.inj h
 | 92, i, _, h => fnC (Option.some.inj (Option.some.inj h)) fn92
 | 93, i, _, h => fnC (Option.some.inj (Option.some.inj h)) fn93
 | 94, i, _, h => fnC (Option.some.inj (Option.some.inj h)) fn94
 | 95, i, _, h => fnC (Option.some.inj (Option.some.inj h)) fn95
 | 96, i, _, h => fnC (Option.some.inj (Option.some.inj h)) fn96
 | 97, i, _, h => fnC (Option.some.inj (Option.some.inj h)) fn97
 | 98, i, _, h => fnC (Option.some.inj (Option.some.inj h)) fn98
 | 99, i, _, h => nomatch Option.some.inj h
 | 100, i, _, h => nomatch Option.some.inj h
 | 101, i, _, h => nomatch Option.some.inj h
 | 102, i, _, h => nomatch Option.some.inj h
 | 103, i, _, h => nomatch Option.some.inj h
 | 104, i, _, h => nomatch Option.some.inj h
 | 105, i, _, h => fnC (Option.some.inj (Option.some.inj h)) fn105
 | 106, i, _, h => fnC (Option.some.inj (Option.some.inj h)) fn106
 | n + 107, i, hlt, h => by omega
theorem fns0 : ∀ f i, E0.fs f = some i → FnOk Go.Proofs.Tryd.prog E0 f i := by
 intro f i h
 have hl : fss[f]? = some (some i) := by
  have h : (fss[f]?).getD none = some i := h
  cases hl : fss[f]? with
  | none => rw [hl] at h; cases h
  | some o => rw [hl] at h; simp only [Option.getD_some] at h; rw [h]
 refine ⟨?_, fnsB_ok code0 hl⟩
 have hlt : f < 107 := (List.getElem?_eq_some_iff.1 hl).1
 exact fnAll f i hlt hl
theorem env0 : EnvOk Go.Proofs.Tryd.prog E0 J0 := ⟨tabOk0, byte0, by kernel_rfl, fns0, ext0, j0_stays⟩
end Go.Proofs.YtejjggnchdldoaaDoor.Abs
set_option linter.unusedVariables false
set_option linter.unusedSimpArgs false
namespace Go.Proofs.YtejjggnchdldoaaDoor.Abs
open Go
variable {β : Type} {n : Nat}
section
variable {k : AV → Heap → Option β} {k1 : AV → Option β} {H : Heap}
@[simp] theorem PR_load : (PR n β).load = pLoad := rfl
@[simp] theorem PR_store : (PR n β).store = pStore := rfl
@[simp] theorem PR_new : (PR n β).new = pNew := rfl
@[simp] theorem PR_box : (PR n β).box = pBox := rfl
@[simp] theorem PR_newSl : (PR n β).newSl = pNewSl := rfl
@[simp] theorem PR_fadr : (PR n β).fadr = pFadr := rfl
@[simp] theorem PR_fld : (PR n β).fld = pFld := rfl
@[simp] theorem PR_iadr : (PR n β).iadr = pIadr := rfl
@[simp] theorem PR_idx : (PR n β).idx = pIdx := rfl
@[simp] theorem PR_lenS : (PR n β).lenS = pLenS := rfl
@[simp] theorem PR_len : (PR n β).len = pLen := rfl
@[simp] theorem PR_sliceS : (PR n β).sliceS = pSliceS := rfl
@[simp] theorem PR_slice : (PR n β).slice = pSlice := rfl
@[simp] theorem PR_app : (PR n β).app = pApp := rfl
@[simp] theorem PR_appS : (PR n β).appS = pAppS := rfl
@[simp] theorem PR_bin : (PR n β).bin = pBin := rfl
@[simp] theorem PR_binB : (PR n β).binB = pBinB := rfl
@[simp] theorem PR_binA : (PR n β).binA = pBinA := rfl
@[simp] theorem PR_un : (PR n β).un = pUn := rfl
@[simp] theorem PR_pick : (PR n β).pick = pPick := rfl
@[simp] theorem PR_cvI : (PR n β).cvI = pCvI := rfl
@[simp] theorem PR_cvSS : (PR n β).cvSS = pCvSS := rfl
@[simp] theorem PR_cvBS : (PR n β).cvBS = pCvBS := rfl
@[simp] theorem PR_cvSB : (PR n β).cvSB = pCvSB := rfl
@[simp] theorem PR_extr : (PR n β).extr = pExtr := rfl
@[simp] theorem PR_nil : (PR n β).nil = pNil := rfl
@[simp] theorem PR_fill : (PR n β).fill = fun a l k => (fillA a l).bind k := rfl
@[simp] theorem PR_make : (PR n β).make = pMake := rfl
@[simp] theorem PR_guard : (PR n β).guard = pGuard := rfl
@[simp] theorem PR_cond : (PR n β).cond = pCond := rfl
@[simp] theorem PR_clear : (PR n β).clear = pClear := rfl
@[simp] theorem PR_both : (PR n β).both = pBoth := rfl
@[simp] theorem PR_apart : (PR n β).apart = pApart := rfl
@[simp] theorem PR_same : (PR n β).same = pSame := rfl
noncomputable def plainF (f : Nat) : Bool := E0.hm f || (E0.ext f).isSome
theorem plain_hm {f : Nat} (h : plainF f = false) : E0.hm f = false := by
 unfold plainF at h
 simp only [Bool.or_eq_false_iff] at h
 exact h.1
theorem plain_ext {f : Nat} (h : plainF f = false) : E0.ext f = none := by
 unfold plainF at h
 simp only [Bool.or_eq_false_iff] at h
 simpa using h.2
theorem PR_call {ty : Nat} {f : FuncId} {args vs : List AV} {t : AV} (hh : plainF f = false) (hv : args.mapM (viewV H 8) = some vs) (ht : tree E0 n ty f vs = some t) :
  (PR n β).call ty (.fn f [] []) args H k = k (instT ti0 E0.tp H.length ty t).1 (H ++ (instT ti0 E0.tp H.length ty t).2) := by
 show callF E0 (evalFn E0 n) ty f ([] ++ args ++ []) H k = _
 simp only [callF, plain_ext hh, plain_hm hh, List.nil_append, List.append_nil, Bool.false_eq_true, if_false, callT, hv, Option.bind_some]
 have ht : treeOf E0 (evalFn E0 n) ty f vs = some t := ht
 rw [ht]
 rfl
theorem PR_ext {ty : Nat} {f : FuncId} {g : Nat → List AV → Option AV} {args vs : List AV} {t : AV} (hg : E0.ext f = some g) (hv : args.mapM (viewV H 8) = some vs) (ht : g ty vs = some t) :
  (PR n β).call ty (.fn f [] []) args H k = k (instT ti0 E0.tp H.length ty t).1 (H ++ (instT ti0 E0.tp H.length ty t).2) := by
 show callF E0 (evalFn E0 n) ty f ([] ++ args ++ []) H k = _
 simp only [callF, hg, List.nil_append, List.append_nil, callX, hv, Option.bind_some, ht]
 rfl
end
theorem tree_def (n ty : Nat) (f : FuncId) (args : List AV) : tree E0 n ty f args = evalFn E0 n AV f args [] fun x H => ownTree ti0 E0.tp ty H x := rfl
@[simp] theorem own_scalar {ti : Nat → Option TI} {tp : Nat → Option (List Nat)} (ty : Nat) (H : Heap) (v : Value) : ownTree ti tp ty H (.sc v) = some (.sc v) := rfl
theorem ownT_sl {ti : Nat → Option TI} {tp : Nat → Option (List Nat)} {H : Heap} {d ty id off n z : Nat} : ownT ti tp H (d + 1) ty (.sl id off n z) = (ti ty).bind fun i => (ti i.elem).bind fun j => if z = j.size then (if isApp H id then (rdCells H id off (n * z)).bind fun cs => (ownL (ownT ti tp H d) (List.replicate n j.cty).flatten cs).bind fun q => some (.ro n q.1, id :: q.2) else none) else none := rfl
theorem ownT_agg {ti : Nat → Option TI} {tp : Nat → Option (List Nat)} {H : Heap} {d ty : Nat} {cs : List AV} : ownT ti tp H (d + 1) ty (.agg cs) = (ti ty).bind fun i => (ownL (ownT ti tp H d) i.cty cs).bind fun q => some (.agg q.1, q.2) := rfl
theorem ownT_tup {ti : Nat → Option TI} {tp : Nat → Option (List Nat)} {H : Heap} {d ty : Nat} {cs : List AV} : ownT ti tp H (d + 1) ty (.tup cs) = (tp ty).bind fun ts => (ownL (ownT ti tp H d) ts cs).bind fun q => some (.tup q.1, q.2) := rfl
theorem ownT_sc {ti : Nat → Option TI} {tp : Nat → Option (List Nat)} {H : Heap} {d ty : Nat} {v : Value} : ownT ti tp H (d + 1) ty (.sc v) = some (.sc v, []) := rfl
theorem instT_sc {ti : Nat → Option TI} {tp : Nat → Option (List Nat)} {n ty : Nat} {v : Value} : instT ti tp n ty (.sc v) = (.sc v, []) := rfl
theorem instT_agg {ti : Nat → Option TI} {tp : Nat → Option (List Nat)} {n ty : Nat} {cs : List AV} : instT ti tp n ty (.agg cs) = (.agg (instL ti tp n ((ti ty).getD default).cty cs).1, (instL ti tp n ((ti ty).getD default).cty cs).2) := rfl
theorem instT_tup {ti : Nat → Option TI} {tp : Nat → Option (List Nat)} {n ty : Nat} {cs : List AV} : instT ti tp n ty (.tup cs) = (.tup (instL ti tp n ((tp ty).getD []) cs).1, (instL ti tp n ((tp ty).getD []) cs).2) := rfl
theorem viewV_sl {H : Heap} {d id off n z : Nat} : viewV H (d + 1) (.sl id off n z) = (rdCells H id off (n * z)).bind fun cs => (cs.mapM (viewV H d)).bind fun vs => some (.ro n vs) := rfl
theorem viewV_agg {H : Heap} {d : Nat} {cs : List AV} : viewV H (d + 1) (.agg cs) = (cs.mapM (viewV H d)).bind fun vs => some (.agg vs) := rfl
theorem viewV_sc {H : Heap} {d : Nat} {v : Value} : viewV H (d + 1) (.sc v) = some (.sc v) := rfl
theorem viewV_ro {H : Heap} {d n : Nat} {cs : List AV} : viewV H (d + 1) (.ro n cs) = some (.ro n cs) := rfl
theorem splice_next (l : List AV) (i j : Nat) (z : AV) (hi : i < l.length) : splice (l.take i ++ List.replicate (j + 1) z) i [l[i]] = l.take (i + 1) ++ List.replicate j z := by
 have hlen : (l.take i).length = i := by simp; omega
 have e1 : (l.take i ++ List.replicate (j + 1) z).take i = l.take i := List.take_left' hlen
 have e2 : (l.take i ++ List.replicate (j + 1) z).drop (i + 1) = List.replicate j z := by
  rw [List.drop_append, hlen, List.drop_of_length_le (by omega), List.nil_append, Nat.add_sub_cancel_left, List.replicate_succ, List.drop_one, List.tail_cons]
 unfold splice
 rw [e1, List.length_singleton, e2, List.take_succ_eq_append_getElem hi]
theorem mapM_sc {H : Heap} {d : Nat} : ∀ (l : List Value), (l.map AV.sc).mapM (viewV H (d + 1)) = some (l.map AV.sc)
 | [] => rfl
 | x :: l => by
  have e : viewV H (d + 1) (.sc x) = some (.sc x) := rfl
  simp only [List.map_cons, List.mapM_cons, e, Option.pure_def, Option.bind_eq_bind, Option.bind_some, mapM_sc l]
theorem ownL_sc {ti : Nat → Option TI} {tp : Nat → Option (List Nat)} {H : Heap} {d : Nat} : ∀ (ts : List Nat) (l : List Value), ts.length = l.length → ownL (ownT ti tp H (d + 1)) ts (l.map AV.sc) = some (l.map AV.sc, [])
 | [], [], _ => rfl
 | t :: ts, x :: l, h => by
  have e : ownT ti tp H (d + 1) t (.sc x) = some (.sc x, []) := rfl
  simp only [List.map_cons, ownL, e, Option.bind_some, ownL_sc ts l (by simpa using h), List.append_nil]
 | [], _ :: _, h => by simp at h
 | _ :: _, [], h => by simp at h
theorem instL_sc {ti : Nat → Option TI} {tp : Nat → Option (List Nat)} {n : Nat} : ∀ (ts : List Nat) (l : List Value), instL ti tp n ts (l.map AV.sc) = (l.map AV.sc, [])
 | ts, [] => rfl
 | ts, x :: l => by
  simp only [List.map_cons, instL, instT, instL_sc _ l, List.nil_append]
def bv (s : ByteArray) : List Value := s.data.toList.map fun b => .int .u8 b.toNat
theorem bytesAV_eq (s : ByteArray) : bytesAV s = (bv s).map AV.sc := by simp [bytesAV, bv]
theorem bv_len (s : ByteArray) : (bv s).length = s.size := by simp [bv]
theorem bytesAV_len (s : ByteArray) : (bytesAV s).length = s.size := by simp [bytesAV]
theorem bytesAV_leaf (s : ByteArray) : (bytesAV s).all isLeaf = true := by
 simp only [bytesAV, List.all_map, List.all_eq_true]
 intro b _
 rfl
theorem byteOf_bytes : ∀ (l : List UInt8), (l.map fun b => AV.sc (.int .u8 (b.toNat : Int))).mapM byteOf = some l
 | [] => rfl
 | b :: l => by
  have e : byteOf (.sc (.int .u8 (b.toNat : Int))) = some b := by simp [byteOf]
  simp only [List.map_cons, List.mapM_cons, e, byteOf_bytes l, Option.pure_def, Option.bind_eq_bind, Option.bind_some]
end Go.Proofs.YtejjggnchdldoaaDoor.Abs
set_option linter.unusedVariables false
set_option linter.unusedSimpArgs false
namespace Go.Proofs.YtejjggnchdldoaaDoor.Abs
open Go
section gen
variable {ti : Nat → Option TI} {tp : Nat → Option (List Nat)}
def okLW (f : Nat → AV → Prop) : List Nat → List AV → Prop
 | [], [] => True
 | t :: ts, x :: xs => f t x ∧ okLW f ts xs
 | _, _ => False
def okW (ti : Nat → Option TI) (tp : Nat → Option (List Nat)) : Nat → Nat → AV → Prop
 | 0, _, _ => False
 | d + 1, ty, x =>
  match x with
  | .sc _ => True
  | .ro n cells => ∃ i j, ti ty = some i ∧ ti i.elem = some j ∧ cells.length = n * j.size ∧ okLW (okW ti tp d) (List.replicate n j.cty).flatten cells
  | .agg cs => ∃ i, ti ty = some i ∧ okLW (okW ti tp d) i.cty cs
  | .tup cs => ∃ ts, tp ty = some ts ∧ okLW (okW ti tp d) ts cs
  | _ => False
theorem okLW_len {f : Nat → AV → Prop} : ∀ {ts : List Nat} {cs : List AV}, okLW f ts cs → ts.length = cs.length
 | [], [], _ => rfl
 | _ :: ts, _ :: cs, h => by rw [List.length_cons, List.length_cons, okLW_len h.2]
theorem okLW_append {f : Nat → AV → Prop} : ∀ {ts : List Nat} {cs : List AV} {ts' : List Nat} {cs' : List AV}, okLW f ts cs → okLW f ts' cs' → okLW f (ts ++ ts') (cs ++ cs')
 | [], [], _, _, _, h => h
 | _ :: ts, _ :: cs, _, _, h, h' => ⟨h.1, okLW_append h.2 h'⟩
theorem okLW_rows {α : Type} {f : Nat → AV → Prop} {cty : List Nat} {enc : α → List AV} : ∀ (l : List α), (∀ x ∈ l, okLW f cty (enc x)) → okLW f (List.replicate l.length cty).flatten (l.map enc).flatten
 | [], _ => by simp [okLW]
 | x :: l, h => by
  rw [List.length_cons, List.replicate_succ, List.flatten_cons, List.map_cons, List.flatten_cons]
  exact okLW_append (h x List.mem_cons_self) (okLW_rows l fun y hy => h y (List.mem_cons_of_mem _ hy))
theorem okLW_okL {f g : Nat → AV → Prop} (hfg : ∀ t x, f t x → g t x) : ∀ {ts : List Nat} {cs : List AV}, okLW f ts cs → okL g ts cs
 | [], [], _ => trivial
 | _ :: ts, _ :: cs, h => ⟨hfg _ _ h.1, okLW_okL hfg h.2⟩
theorem okW_okTr : ∀ (d : Nat) (ty : Nat) (x : AV), okW ti tp d ty x → okTr ti tp d ty x
 | 0, _, _, h => h
 | d + 1, ty, x, h => by
  cases x with
  | sc v => trivial
  | ro n cells =>
   obtain ⟨i, j, h1, h2, h3, h4⟩ := h
   show cells.length = n * (((ti ty).bind fun i => ti i.elem).getD default).size ∧ _
   simp only [h1, Option.bind_some, h2, Option.getD_some]
   exact ⟨h3, okLW_okL (okW_okTr d) h4⟩
  | agg cs =>
   obtain ⟨i, h1, h2⟩ := h
   show okL _ ((ti ty).getD default).cty cs
   rw [h1]
   exact okLW_okL (okW_okTr d) h2
  | tup cs =>
   obtain ⟨ts, h1, h2⟩ := h
   show okL _ ((tp ty).getD []) cs
   rw [h1]
   exact okLW_okL (okW_okTr d) h2
  | _ => cases h
theorem own_instL {H : Heap} {d : Nat} (hd : ∀ ty t N, okW ti tp d ty t → Lies H N (instT ti tp N ty t).2 → (∀ b ∈ (instT ti tp N ty t).2, b.live = true ∧ b.app = true) → ownT ti tp H d ty (instT ti tp N ty t).1 = some (t, List.range' N (instT ti tp N ty t).2.length)) :
  ∀ (ts : List Nat) (cs : List AV) (N : Nat), okLW (okW ti tp d) ts cs → Lies H N (instL ti tp N ts cs).2 → (∀ b ∈ (instL ti tp N ts cs).2, b.live = true ∧ b.app = true) → ownL (ownT ti tp H d) ts (instL ti tp N ts cs).1 = some (cs, List.range' N (instL ti tp N ts cs).2.length)
 | [], [], N, _, _, _ => rfl
 | t :: ts, x :: cs, N, h, hl, hb => by
  simp only [instL, List.headD_cons, List.tail_cons] at hl hb ⊢
  have h1 := hd t x N h.1 hl.left fun b hb' => hb b (List.mem_append_left _ hb')
  have h2 := own_instL hd ts cs _ h.2 hl.right fun b hb' => hb b (List.mem_append_right _ hb')
  have e := List.range'_append (s := N) (m := (instT ti tp N t x).2.length) (n := (instL ti tp (N + (instT ti tp N t x).2.length) ts cs).2.length) (step := 1)
  rw [Nat.one_mul] at e
  simp only [ownL, h1, h2, Option.bind_some, List.length_append, e]
mutual
theorem inst_live : ∀ (x : AV) (N ty : Nat), ∀ b ∈ (instT ti tp N ty x).2, b.live = true ∧ b.app = true
 | .sc v, N, ty => by intro b h; cases h
 | .ro n cells, N, ty => by
  intro b h
  simp only [instT, List.mem_cons] at h
  rcases h with rfl | h
  ·exact ⟨rfl, rfl⟩
  ·exact instL_live cells _ _ b h
 | .agg cs, N, ty => fun b h => instL_live cs _ _ b h
 | .tup cs, N, ty => fun b h => instL_live cs _ _ b h
 | .any, N, ty => by intro b h; cases h
 | .nl, N, ty => by intro b h; cases h
 | .sl .., N, ty => by intro b h; cases h
 | .ptr .., N, ty => by intro b h; cases h
 | .rp .., N, ty => by intro b h; cases h
 | .fn .., N, ty => by intro b h; cases h
theorem instL_live : ∀ (cs : List AV) (N : Nat) (ts : List Nat), ∀ b ∈ (instL ti tp N ts cs).2, b.live = true ∧ b.app = true
 | [], N, ts => by intro b h; cases h
 | x :: cs, N, ts => by
  intro b h
  simp only [instL, List.mem_append] at h
  rcases h with h | h
  ·exact inst_live x _ _ b h
  ·exact instL_live cs _ _ b h
end
theorem own_inst {H : Heap} : ∀ (d ty : Nat) (t : AV) (N : Nat), okW ti tp d ty t → Lies H N (instT ti tp N ty t).2 → ownT ti tp H d ty (instT ti tp N ty t).1 = some (t, List.range' N (instT ti tp N ty t).2.length)
 | 0, _, _, _, h, _ => by cases h
 | d + 1, ty, t, N, h, hl => by
  have ih := own_instL (H := H) (d := d) (ti := ti) (tp := tp) (fun ty t N h h' _ => own_inst d ty t N h h')
  cases t with
  | sc v => rfl
  | ro n cells =>
   obtain ⟨i, j, h1, h2, h3, h4⟩ := h
   have e : instT ti tp N ty (.ro n cells) = (.sl N 0 n j.size, ⟨(instL ti tp (N + 1) (List.replicate n j.cty).flatten cells).1, true, true⟩ :: (instL ti tp (N + 1) (List.replicate n j.cty).flatten cells).2) := by
    simp only [instT, h1, Option.bind_some, h2, Option.getD_some]
   rw [e] at hl ⊢
   have hb := hl 0 _ rfl
   rw [Nat.add_zero] at hb
   have hv := ih (List.replicate n j.cty).flatten cells (N + 1) h4 hl.tail (instL_live _ _ _)
   have hlen := instL_len (ti := ti) (tp := tp) (N + 1) (List.replicate n j.cty).flatten cells
   have e2 : rdCells H N 0 (n * j.size) = some (instL ti tp (N + 1) (List.replicate n j.cty).flatten cells).1 := by
    simp only [rdCells, hb, if_true, List.drop_zero, Nat.zero_add]
    rw [if_pos (by rw [hlen, h3]; exact Nat.le_refl _), ← h3, ← hlen, List.take_length]
   have e3 : isApp H N = true := by simp only [isApp, hb]
   rw [ownT_sl]
   simp only [h1, h2, Option.bind_some, if_true, e2, e3, hv, List.length_cons]
   rw [List.range'_succ]
  | agg cs =>
   obtain ⟨i, h1, h2⟩ := h
   have e : instT ti tp N ty (.agg cs) = (.agg (instL ti tp N i.cty cs).1, (instL ti tp N i.cty cs).2) := by rw [instT_agg, h1]; rfl
   rw [e] at hl ⊢
   rw [ownT_agg]
   simp only [h1, Option.bind_some, ih i.cty cs N h2 hl (instL_live _ _ _)]
  | tup cs =>
   obtain ⟨ts, h1, h2⟩ := h
   have e : instT ti tp N ty (.tup cs) = (.tup (instL ti tp N ts cs).1, (instL ti tp N ts cs).2) := by rw [instT_tup, h1]; rfl
   rw [e] at hl ⊢
   rw [ownT_tup]
   simp only [h1, Option.bind_some, ih ts cs N h2 hl (instL_live _ _ _)]
  | _ => cases h
theorem Lies_in (A B X : List Blk) : Lies (A ++ B ++ X) A.length B := fun j b hj => by
 have hlt := (List.getElem?_eq_some_iff.1 hj).1
 rw [List.append_assoc, List.getElem?_append_right (by omega), Nat.add_sub_cancel_left, List.getElem?_append_left hlt]
 exact hj
theorem Lies_end (A B : List Blk) : Lies (A ++ B) A.length B := by
 have := Lies_in A B []
 rwa [List.append_nil] at this
theorem own_ret (A : List Blk) (ty : Nat) (t : AV) (h : okW ti tp 8 ty t) : ownTree ti tp ty (A ++ (instT ti tp A.length ty t).2) (instT ti tp A.length ty t).1 = some t := by
 rw [ownTree, own_inst 8 ty t A.length h (Lies_end _ _)]
 simp only [Option.bind_some]
 rw [if_pos (List.nodup_range')]
def Vw (H : Heap) (x v : AV) : Prop := ∀ X : List Blk, viewV (H ++ X) 8 x = some v
theorem Vw.grow {H : Heap} {x v : AV} (h : Vw H x v) (X : List Blk) : Vw (H ++ X) x v := fun Y => by
 rw [List.append_assoc]
 exact h _
theorem Vw.now {H : Heap} {x v : AV} (h : Vw H x v) : viewV H 8 x = some v := by
 have := h []
 rwa [List.append_nil] at this
theorem Vw_inst (H : Heap) (ty : Nat) (t : AV) (h : okW ti tp 8 ty t) : Vw (H ++ (instT ti tp H.length ty t).2) (instT ti tp H.length ty t).1 t := fun X => view_inst 8 ty t H.length (okW_okTr 8 ty t h) (Lies_in _ _ _)
theorem Vw_sc (H : Heap) (v : Value) : Vw H (.sc v) (.sc v) := fun _ => rfl
theorem Vw_ro (H : Heap) (n : Nat) (cs : List AV) : Vw H (.ro n cs) (.ro n cs) := fun _ => rfl
def isFl : AV → Bool
 | .sc v => leafV v
 | .ro _ _ => true
 | _ => false
theorem fl_leaf {cs : List AV} (h : cs.all isFl = true) : cs.all isLeaf = true := by
 rw [List.all_eq_true] at h ⊢
 intro x hx
 have := h x hx
 cases x <;> simp_all [isFl, isLeaf]
theorem fl_cells {cs : List AV} (h : cs.all isFl = true) : cellsA (.agg cs) = some cs := by
 show (if cs.all isLeaf then some cs else none) = _
 rw [if_pos (fl_leaf h)]
theorem fl_view {H : Heap} {d : Nat} : ∀ {cs : List AV}, cs.all isFl = true → cs.mapM (viewV H (d + 1)) = some cs
 | [], _ => rfl
 | x :: cs, h => by
  rw [List.all_cons, Bool.and_eq_true] at h
  have e : viewV H (d + 1) x = some x := by
   have := h.1
   cases x <;> first | rfl | (exfalso; simp [isFl] at this)
  simp only [List.mapM_cons, e, fl_view h.2, Option.pure_def, Option.bind_eq_bind, Option.bind_some]
theorem Vw_agg (H : Heap) {cs : List AV} (h : cs.all isFl = true) : Vw H (.agg cs) (.agg cs) := fun X => by
 rw [viewV_agg, fl_view h]
 rfl
theorem instL_leaf : ∀ (cs : List AV) (N : Nat) (ts : List Nat), cs.all isFl = true → (instL ti tp N ts cs).1.all isLeaf = true
 | [], _, _, _ => rfl
 | x :: cs, N, ts, h => by
  rw [List.all_cons, Bool.and_eq_true] at h
  simp only [instL, List.all_cons, Bool.and_eq_true]
  refine ⟨?_, instL_leaf cs _ _ h.2⟩
  have := h.1
  cases x <;> first | exact this | rfl | (exfalso; simp [isFl] at this)
theorem instL_append : ∀ (ts : List Nat) (cs : List AV) (ts' : List Nat) (cs' : List AV) (N : Nat), ts.length = cs.length →
  instL ti tp N (ts ++ ts') (cs ++ cs') = ((instL ti tp N ts cs).1 ++ (instL ti tp (N + (instL ti tp N ts cs).2.length) ts' cs').1, (instL ti tp N ts cs).2 ++ (instL ti tp (N + (instL ti tp N ts cs).2.length) ts' cs').2)
 | [], [], ts', cs', N, _ => by simp [instL]
 | t :: ts, x :: cs, ts', cs', N, h => by
  have ih := instL_append ts cs ts' cs' (N + (instT ti tp N t x).2.length) (by simpa using h)
  simp only [List.cons_append, instL, List.headD_cons, List.tail_cons, ih, List.length_append, List.append_assoc, Nat.add_assoc]
end gen
section ops
variable {β : Type}
theorem iadr_ro (w len : Nat) (cells : List AV) (i : Nat) (k : AV → Option β) (h : i < len) (h2 : i * w < cells.length) : pIadr w (.ro len cells) (.sc (.int .i64 i)) k = k (.rp (cells.drop (i * w))) := by
 simp only [pIadr, asI, Option.bind_some, Int.toNat_natCast]
 rw [if_pos ⟨by omega, by omega⟩, if_pos h2]
theorem iadr_sl (w len id off : Nat) (i : Nat) (k : AV → Option β) (h : i < len) : pIadr w (.sl id off len w) (.sc (.int .i64 i)) k = k (.ptr id (off + i * w)) := by
 simp only [pIadr, asI, Option.bind_some, Int.toNat_natCast, if_true]
 rw [if_pos ⟨by omega, by omega⟩]
theorem ld_rp (w : Nat) (cs r : List AV) (H : Heap) (k : AV → Option β) (h : cs.length = w) : pLoad true w (.rp (cs ++ r)) H k = k (.agg cs) := by
 simp only [pLoad, List.length_append, h, Nat.le_add_right, if_true, List.take_left' h]
theorem ld1_rp (c : AV) (r : List AV) (H : Heap) (k : AV → Option β) : pLoad false 1 (.rp (c :: r)) H k = k c := by
 simp only [pLoad, List.length_cons, Nat.le_add_left, if_true, Bool.false_eq_true, if_false]
 rfl
theorem st_at (w id off : Nat) (y : AV) (b : Blk) (cs : List AV) (H : Heap) (k : Heap → Option β) (h : H[id]? = some b) (hc : cellsA y = some cs) (hl : cs.length = w) (ho : off + w ≤ b.cells.length) (hb : b.live = true) : pStore w (.ptr id off) y H k = k (H.set id { b with cells := splice b.cells off cs }) := by
 simp only [pStore, h, hc, Option.bind_some, hb, if_true, hl, ho]
theorem splice_mid (A z C cs : List AV) (h : z.length = cs.length) : splice (A ++ (z ++ C)) A.length cs = A ++ (cs ++ C) := by
 unfold splice
 rw [List.take_left' rfl, ← List.append_assoc A z C, List.drop_append_of_le_length (by rw [List.length_append]; omega), ← h, ← List.length_append, List.drop_length, List.nil_append, List.append_assoc]
theorem lss_nat (a b : Nat) (k : AV → Option β) : pBin .lss (.sc (.int .i64 a)) (.sc (.int .i64 b)) k = k (.sc (.bool (decide (a < b)))) := by
 show k (.sc (.bool (decide ((a : Int) < (b : Int))))) = _
 rw [show decide ((a : Int) < (b : Int)) = decide (a < b) from by simp]
theorem inc_nat (a : Nat) (k : AV → Option β) (h : a < 9223372036854775807) : pBin .add (.sc (.int .i64 a)) (.sc (.int .i64 1)) k = k (.sc (.int .i64 (a + 1 : Nat))) := by
 show k (.sc (.int .i64 (IntKind.i64.wrap ((a : Int) + 1)))) = _
 have e : IntKind.i64.wrap ((a : Int) + 1) = ((a + 1 : Nat) : Int) := by
  rw [IntKind.wrap_i64, Int.natCast_add]
  simp only [Int.cast_ofNat_Int]
  omega
 rw [e]
theorem cond_b (b : Bool) (x y : Option β) : pCond (.sc (.bool b)) x y = if b then x else y := rfl
theorem len_ro (n : Nat) (cs : List AV) (k : AV → Option β) : pLen (.ro n cs) k = k (.sc (.int .i64 n)) := rfl
theorem wrap64 (n : Int) (h0 : -9223372036854775808 ≤ n) (h1 : n ≤ 9223372036854775807) : IntKind.i64.wrap n = n := by
 rw [IntKind.wrap_i64]; omega
theorem sub64 (a b : Int) (k : AV → Option β) (h0 : -9223372036854775808 ≤ a - b) (h1 : a - b ≤ 9223372036854775807) : pBin .sub (.sc (.int .i64 a)) (.sc (.int .i64 b)) k = k (.sc (.int .i64 (a - b))) := by
 show k (.sc (.int .i64 (IntKind.i64.wrap (a - b)))) = _
 rw [wrap64 _ h0 h1]
theorem lss64 (a b : Int) (k : AV → Option β) : pBin .lss (.sc (.int .i64 a)) (.sc (.int .i64 b)) k = k (.sc (.bool (decide (a < b)))) := rfl
theorem drop_rows {α : Type} {w : Nat} {enc : α → List AV} (hw : ∀ x, (enc x).length = w) (pre r : List α) : ((pre ++ r).map enc).flatten.drop (pre.length * w) = (r.map enc).flatten := by
 have hl : ((pre.map enc).flatten).length = pre.length * w := by
  induction pre with
  | nil => simp
  | cons x pre ih => rw [List.map_cons, List.flatten_cons, List.length_append, ih, hw, List.length_cons, Nat.succ_mul, Nat.add_comm]
 rw [List.map_append, List.flatten_append, List.drop_append_of_le_length (by omega), ← hl, List.drop_length, List.nil_append]
theorem rows_len {α : Type} {w : Nat} {enc : α → List AV} (hw : ∀ x, (enc x).length = w) (l : List α) : ((l.map enc).flatten).length = l.length * w := by
 induction l with
 | nil => simp
 | cons x l ih => rw [List.map_cons, List.flatten_cons, List.length_append, ih, hw, List.length_cons, Nat.succ_mul, Nat.add_comm]
theorem el_ro {α : Type} {w : Nat} {enc : α → List AV} (hw : ∀ x, (enc x).length = w) (h0 : 0 < w) (pre : List α) (x : α) (r : List α) (k : AV → Option β) :
  pIadr w (.ro (pre ++ x :: r).length ((pre ++ x :: r).map enc).flatten) (.sc (.int .i64 pre.length)) k = k (.rp (enc x ++ (r.map enc).flatten)) := by
 have hl := rows_len hw (pre ++ x :: r)
 have h1 : pre.length < (pre ++ x :: r).length := by simp
 rw [iadr_ro w _ _ pre.length k h1 (by rw [hl]; exact Nat.mul_lt_mul_of_pos_right h1 h0), drop_rows hw pre (x :: r), List.map_cons, List.flatten_cons]
theorem to_loop {α : Type} {n te g w : Nat} {cty : List Nat} (enc : α → List AV) (k : AV → Heap → Option β) (z : List AV) (hz : z.length = w) (hw : ∀ x, (enc x).length = w) (hc : cty.length = w) (h0 : 0 < w)
  (hte : ∃ i, ti0 te = some i ∧ i.cty = cty) (hfl : ∀ x, (enc x).all isFl = true) (hh : plainF g = false) (L : Nat → AV → AV → AV → Heap → Option β)
  (hL : ∀ m a o i H, L (m + 1) a o i H = pLen a fun t10 => pBin .lss i t10 fun t11 => pCond t11 (pIadr w a i fun t18 => pLoad true w t18 H fun t19 => (PR n β).call te (.fn g [] []) [t19] H fun t20 H => pIadr w o i fun t21 => pStore w t21 t20 H fun H => pBin .add i (.sc (.int .i64 1)) fun t13 => L m a o t13 H) (k o H))
  (l : List α) (hto : ∀ x ∈ l, tree E0 n te g [.agg (enc x)] = some (.agg (enc x))) (hlen : l.length ≤ 1048576) : ∀ (r pre : List α) (m : Nat), l = pre ++ r → r.length < m →
   L m (.ro l.length (l.map enc).flatten) (.sl 0 0 l.length w) (.sc (.int .i64 pre.length)) (⟨(instL ti0 E0.tp 1 (List.replicate pre.length cty).flatten (pre.map enc).flatten).1 ++ (List.replicate r.length z).flatten, true, true⟩ :: (instL ti0 E0.tp 1 (List.replicate pre.length cty).flatten (pre.map enc).flatten).2)
    = k (.sl 0 0 l.length w) (⟨(instL ti0 E0.tp 1 (List.replicate l.length cty).flatten (l.map enc).flatten).1, true, true⟩ :: (instL ti0 E0.tp 1 (List.replicate l.length cty).flatten (l.map enc).flatten).2)
 | [], pre, m + 1, hl, hm => by
  rw [List.append_nil] at hl
  subst hl
  rw [hL, len_ro, lss_nat, cond_b]
  simp
 | x :: r, pre, m + 1, hl, hm => by
  have hlt : pre.length < l.length := by rw [hl]; simp
  rw [hL, len_ro, lss_nat, cond_b, if_pos (by simpa using hlt)]
  have hel := fun k => el_ro (β := β) hw h0 pre x r k
  rw [← hl] at hel
  rw [hel, ld_rp w _ _ _ _ (hw x)]
  rw [PR_call (vs := [.agg (enc x)]) hh (by rw [List.mapM_cons, (Vw_agg _ (hfl x)).now]; rfl) (hto x (by rw [hl]; simp))]
  rw [iadr_sl w _ _ _ _ _ hlt]
  obtain ⟨i, hi, rfl⟩ := hte
  have hr : (List.replicate pre.length i.cty).flatten.length = ((pre.map enc).flatten).length := by rw [rows_len hw]; simp [hc]
  have hJ := instL_append (ti := ti0) (tp := E0.tp) (List.replicate pre.length i.cty).flatten (pre.map enc).flatten i.cty (enc x) 1 hr
  generalize hP : instL ti0 E0.tp 1 (List.replicate pre.length i.cty).flatten (pre.map enc).flatten = P at hJ ⊢
  have hPl : P.1.length = pre.length * w := by rw [← hP, instL_len, rows_len hw]
  have hN : (⟨P.1 ++ (List.replicate (x :: r).length z).flatten, true, true⟩ :: P.2 : Heap).length = 1 + P.2.length := by simp [Nat.add_comm]
  rw [hN, instT_agg, hi, Option.getD_some]
  simp only
  generalize hQ : instL ti0 E0.tp (1 + P.2.length) i.cty (enc x) = Q at hJ ⊢
  have hQl : Q.1.length = w := by rw [← hQ, instL_len, hw]
  have hcl : cellsA (.agg Q.1) = some Q.1 := by
   show (if Q.1.all isLeaf then some Q.1 else none) = _
   rw [if_pos (by rw [← hQ]; exact instL_leaf _ _ _ (hfl x))]
  rw [List.cons_append, st_at w 0 (0 + pre.length * w) (.agg Q.1) ⟨P.1 ++ (List.replicate (x :: r).length z).flatten, true, true⟩ Q.1 _ _ rfl hcl hQl (by simp [hPl, hz, Nat.succ_mul]) rfl]
  rw [List.set_cons_zero, inc_nat _ _ (by omega)]
  have ih := to_loop enc k z hz hw hc h0 ⟨i, hi, rfl⟩ hfl hh L hL l hto hlen r (pre ++ [x]) m (by rw [hl]; simp) (by simpa using hm)
  have e1 : (List.replicate (pre ++ [x]).length i.cty).flatten = (List.replicate pre.length i.cty).flatten ++ i.cty := by
   rw [List.length_append, List.length_singleton, List.replicate_succ', List.flatten_append]; simp
  have e2 : ((pre ++ [x]).map enc).flatten = (pre.map enc).flatten ++ enc x := by simp
  rw [e1, e2, hJ] at ih
  have e3 : splice (P.1 ++ (List.replicate (x :: r).length z).flatten) (0 + pre.length * w) Q.1 = P.1 ++ Q.1 ++ (List.replicate r.length z).flatten := by
   rw [List.length_cons, List.replicate_succ, List.flatten_cons, Nat.zero_add, ← hPl, splice_mid _ _ _ _ (by rw [hz, hQl]), List.append_assoc]
  simp only [e3]
  rw [List.length_append, List.length_singleton] at ih
  exact ih
theorem to_slice {α : Type} {n te tyS f g w bytes : Nat} {cty : List Nat} (enc : α → List AV) (z : List AV) (hz : z.length = w) (hw : ∀ x, (enc x).length = w) (hc : cty.length = w) (h0 : 0 < w)
  (hty : ∃ i j, ti0 tyS = some i ∧ ti0 i.elem = some j ∧ j.size = w ∧ j.cty = cty) (hte : ∃ i, ti0 te = some i ∧ i.cty = cty) (hfl : ∀ x, (enc x).all isFl = true) (hh : plainF g = false) (L : (AV → Heap → Option AV) → Nat → AV → AV → AV → Heap → Option AV)
  (hL : ∀ k m a o i H, L k (m + 1) a o i H = pLen a fun t10 => pBin .lss i t10 fun t11 => pCond t11 (pIadr w a i fun t18 => pLoad true w t18 H fun t19 => (PR n AV).call te (.fn g [] []) [t19] H fun t20 H => pIadr w o i fun t21 => pStore w t21 t20 H fun H => pBin .add i (.sc (.int .i64 1)) fun t13 => L k m a o t13 H) (k o H))
  (hF : ∀ a H k, evalFn E0 (n + 1) AV f [a] H k = pLen a fun t6 => pMake w bytes z t6 t6 H fun t7 H => L k n a t7 (.sc (.int .i64 0)) H)
  (hby : bytes ≤ 134217728) (l : List α) (hto : ∀ x ∈ l, tree E0 n te g [.agg (enc x)] = some (.agg (enc x))) (hok : ∀ x ∈ l, okLW (okW ti0 E0.tp 7) cty (enc x)) (hlen : l.length ≤ 1048576) (hn : 1048576 < n) :
  tree E0 (n + 1) tyS f [.ro l.length (l.map enc).flatten] = some (.ro l.length (l.map enc).flatten) := by
 rw [tree_def, hF, len_ro]
 have hb : l.length * bytes ≤ 140737488355328 := Nat.le_trans (Nat.mul_le_mul hlen hby) (by decide)
 simp only [pMake, asI, Option.bind_some, if_true, Int.toNat_natCast, hb, Int.natCast_nonneg, pNewSl, List.length_nil, List.nil_append]
 have key := to_loop (n := n) (te := te) (g := g) (cty := cty) enc (fun x H => ownTree ti0 E0.tp tyS H x) z hz hw hc h0 hte hfl hh _ (hL _) l hto hlen l [] n (by simp) (by omega)
 simp only [List.length_nil, List.replicate_zero, List.flatten_nil, List.map_nil, instL, List.nil_append, Int.natCast_zero] at key
 refine key.trans ?_
 obtain ⟨i, j, h1, h2, h3, rfl⟩ := hty
 have hok' : okW ti0 E0.tp 8 tyS (.ro l.length (l.map enc).flatten) := ⟨i, j, h1, h2, by rw [rows_len hw, h3], okLW_rows l hok⟩
 have := own_ret [] tyS _ hok'
 simp only [instT, h1, h2, Option.bind_some, Option.getD_some, List.length_nil, List.nil_append, Nat.zero_add, h3] at this
 exact this
theorem flat_loop {α : Type} {n : Nat} (e : α → Value) (k : AV → Heap → Option β) (z : AV) (hlf : ∀ x, leafV (e x) = true) (L : Nat → AV → AV → AV → Heap → Option β)
  (hL : ∀ m a o i H, L (m + 1) a o i H = pLen a fun t10 => pBin .lss i t10 fun t11 => pCond t11 (pIadr 1 a i fun t18 => pLoad false 1 t18 H fun t19 => pIadr 1 o i fun t21 => pStore 1 t21 t19 H fun H => pBin .add i (.sc (.int .i64 1)) fun t13 => L m a o t13 H) (k o H))
  (l : List α) (hlen : l.length ≤ 1048576) : ∀ (r pre : List α) (m : Nat), l = pre ++ r → r.length < m →
   L m (.ro l.length (l.map fun x => .sc (e x))) (.sl 0 0 l.length 1) (.sc (.int .i64 pre.length)) [⟨(pre.map fun x => .sc (e x)) ++ List.replicate r.length z, true, true⟩]
    = k (.sl 0 0 l.length 1) [⟨l.map fun x => .sc (e x), true, true⟩]
 | [], pre, m + 1, hl, hm => by
  rw [List.append_nil] at hl
  subst hl
  rw [hL, len_ro, lss_nat, cond_b]
  simp
 | x :: r, pre, m + 1, hl, hm => by
  have hlt : pre.length < l.length := by rw [hl]; simp
  rw [hL, len_ro, lss_nat, cond_b, if_pos (by simpa using hlt)]
  rw [iadr_ro 1 _ _ pre.length _ hlt (by simpa using hlt)]
  have hd : (l.map fun x => AV.sc (e x)).drop (pre.length * 1) = .sc (e x) :: r.map fun x => .sc (e x) := by
   rw [Nat.mul_one, hl, List.map_append, List.drop_append_of_le_length (by simp)]
   rw [show pre.length = (pre.map fun x => AV.sc (e x)).length by simp, List.drop_length]
   rfl
  rw [hd, ld1_rp, iadr_sl 1 _ _ _ _ _ hlt]
  have hc : cellsA (.sc (e x)) = some [.sc (e x)] := by
   show cellsA (.sc (e x)) = _
   simp only [cellsA, isLeaf, hlf, if_true]
  rw [st_at 1 0 (0 + pre.length * 1) (.sc (e x)) ⟨(pre.map fun x => .sc (e x)) ++ List.replicate (x :: r).length z, true, true⟩ [.sc (e x)] _ _ rfl hc rfl (by simp) rfl]
  rw [List.set_cons_zero, inc_nat _ _ (by omega)]
  have ih := flat_loop (n := n) e k z hlf L hL l hlen r (pre ++ [x]) m (by rw [hl]; simp) (by simpa using hm)
  have e3 : splice ((pre.map fun x => AV.sc (e x)) ++ List.replicate (x :: r).length z) (0 + pre.length * 1) [.sc (e x)] = ((pre ++ [x]).map fun x => AV.sc (e x)) ++ List.replicate r.length z := by
   have := splice_mid (pre.map fun x => AV.sc (e x)) [z] (List.replicate r.length z) [.sc (e x)] rfl
   rw [List.length_map] at this
   rw [List.length_cons, List.replicate_succ, Nat.zero_add, Nat.mul_one]
   refine this.trans ?_
   simp
  simp only [e3]
  rw [List.length_append, List.length_singleton] at ih
  exact ih
theorem to_flat {α : Type} {n tyS f bytes : Nat} (e : α → Value) (z : AV) (hlf : ∀ x, leafV (e x) = true) (hty : ∃ i j, ti0 tyS = some i ∧ ti0 i.elem = some j ∧ j.size = 1 ∧ j.cty.length = 1) (L : (AV → Heap → Option AV) → Nat → AV → AV → AV → Heap → Option AV)
  (hL : ∀ k m a o i H, L k (m + 1) a o i H = pLen a fun t10 => pBin .lss i t10 fun t11 => pCond t11 (pIadr 1 a i fun t18 => pLoad false 1 t18 H fun t19 => pIadr 1 o i fun t21 => pStore 1 t21 t19 H fun H => pBin .add i (.sc (.int .i64 1)) fun t13 => L k m a o t13 H) (k o H))
  (hF : ∀ a H k, evalFn E0 (n + 1) AV f [a] H k = pLen a fun t6 => pMake 1 bytes [z] t6 t6 H fun t7 H => L k n a t7 (.sc (.int .i64 0)) H)
  (hby : bytes ≤ 134217728) (l : List α) (hlen : l.length ≤ 1048576) (hn : 1048576 < n) :
  tree E0 (n + 1) tyS f [.ro l.length (l.map fun x => .sc (e x))] = some (.ro l.length (l.map fun x => .sc (e x))) := by
 rw [tree_def, hF, len_ro]
 have hb : l.length * bytes ≤ 140737488355328 := Nat.le_trans (Nat.mul_le_mul hlen hby) (by decide)
 have hz : (List.replicate l.length [z]).flatten = List.replicate l.length z := by
  generalize l.length = m
  induction m with
  | zero => rfl
  | succ m ih => rw [List.replicate_succ, List.flatten_cons, ih, List.replicate_succ]; rfl
 simp only [pMake, asI, Option.bind_some, if_true, Int.toNat_natCast, hb, Int.natCast_nonneg, pNewSl, List.length_nil, List.nil_append, hz]
 have key := flat_loop (n := n) e (fun x H => ownTree ti0 E0.tp tyS H x) z hlf _ (hL _) l hlen l [] n (by simp) (by omega)
 simp only [List.length_nil, List.map_nil, List.nil_append, Int.natCast_zero] at key
 refine key.trans ?_
 obtain ⟨i, j, h1, h2, h3, h4⟩ := hty
 have em : (l.map fun x => AV.sc (e x)) = (l.map e).map AV.sc := by rw [List.map_map]; rfl
 have hl1 : (List.replicate l.length j.cty).flatten.length = (l.map e).length := by simp [h4]
 have e3 := ownL_sc (ti := ti0) (tp := E0.tp) (H := [⟨l.map fun x => AV.sc (e x), true, true⟩]) (d := 6) _ _ hl1
 have e2 : rdCells [⟨l.map fun x => AV.sc (e x), true, true⟩] 0 0 (l.length * 1) = some (l.map fun x => AV.sc (e x)) := by
  simp [rdCells, List.take_of_length_le]
 rw [ownTree, ownT_sl]
 simp only [h1, h2, h3, Option.bind_some, if_true, e2, isApp, List.getElem?_cons_zero]
 rw [em] at e3 ⊢
 rw [e3]
 rfl
theorem eq_loop {α : Type} {n tb g w : Nat} (enc : α → List AV) (k : AV → Heap → Option β) (hw : ∀ x, (enc x).length = w) (h0 : 0 < w) (hfl : ∀ x, (enc x).all isFl = true) (hh : plainF g = false) (L : Nat → AV → AV → AV → Heap → Option β)
  (hL : ∀ m a b i H, L (m + 1) a b i H = pLen a fun t13 => pBin .lss i t13 fun t14 => pCond t14 (pIadr w a i fun t19 => pLoad true w t19 H fun t20 => pIadr w b i fun t23 => pLoad true w t23 H fun t24 => (PR n β).call tb (.fn g [] []) [t20, t24] H fun t25 H => pUn .not t25 fun t26 => pCond t26 (k (.sc (.bool false)) H) (pBin .add i (.sc (.int .i64 1)) fun t16 => L m a b t16 H)) (k (.sc (.bool true)) H))
  (l : List α) (heq : ∀ x ∈ l, tree E0 n tb g [.agg (enc x), .agg (enc x)] = some (.sc (.bool true))) (hlen : l.length ≤ 1048576) (H : Heap) : ∀ (r pre : List α) (m : Nat), l = pre ++ r → r.length < m →
   L m (.ro l.length (l.map enc).flatten) (.ro l.length (l.map enc).flatten) (.sc (.int .i64 pre.length)) H = k (.sc (.bool true)) H
 | [], pre, m + 1, hl, hm => by
  rw [List.append_nil] at hl
  subst hl
  rw [hL, len_ro, lss_nat, cond_b]
  simp
 | x :: r, pre, m + 1, hl, hm => by
  have hlt : pre.length < l.length := by rw [hl]; simp
  rw [hL, len_ro, lss_nat, cond_b, if_pos (by simpa using hlt)]
  have hel := fun k => el_ro (β := β) hw h0 pre x r k
  rw [← hl] at hel
  rw [hel, ld_rp w _ _ _ _ (hw x), hel, ld_rp w _ _ _ _ (hw x)]
  rw [PR_call (vs := [.agg (enc x), .agg (enc x)]) hh (by simp only [List.mapM_cons, (Vw_agg _ (hfl x)).now]; rfl) (heq x (by rw [hl]; simp))]
  rw [instT_sc]
  simp only [pUn, Bool.not_true, List.append_nil]
  rw [cond_b, if_neg (by simp), inc_nat _ _ (by omega)]
  have ih := eq_loop enc k hw h0 hfl hh L hL l heq hlen H r (pre ++ [x]) m (by rw [hl]; simp) (by simpa using hm)
  rw [List.length_append, List.length_singleton] at ih
  exact ih
theorem neq_nat (a b : Nat) (k : AV → Option β) : pBin .neq (.sc (.int .i64 a)) (.sc (.int .i64 b)) k = k (.sc (.bool (decide (a ≠ b)))) := by
 show k (.sc (.bool ((a : Int) != (b : Int)))) = _
 congr 3
 by_cases h : a = b
 ·subst h; simp
 ·simp [bne, h]; omega
theorem eq_slice {α : Type} {n tb f g w : Nat} (enc : α → List AV) (hw : ∀ x, (enc x).length = w) (h0 : 0 < w) (hfl : ∀ x, (enc x).all isFl = true) (hh : plainF g = false) (L : (AV → Heap → Option AV) → Nat → AV → AV → AV → Heap → Option AV)
  (hL : ∀ k m a b i H, L k (m + 1) a b i H = pLen a fun t13 => pBin .lss i t13 fun t14 => pCond t14 (pIadr w a i fun t19 => pLoad true w t19 H fun t20 => pIadr w b i fun t23 => pLoad true w t23 H fun t24 => (PR n AV).call tb (.fn g [] []) [t20, t24] H fun t25 H => pUn .not t25 fun t26 => pCond t26 (k (.sc (.bool false)) H) (pBin .add i (.sc (.int .i64 1)) fun t16 => L k m a b t16 H)) (k (.sc (.bool true)) H))
  (hF : ∀ a b H k, evalFn E0 (n + 1) AV f [a, b] H k = pLen a fun t7 => pLen b fun t9 => pBin .neq t7 t9 fun t10 => pCond t10 (k (.sc (.bool false)) H) (L k n a b (.sc (.int .i64 0)) H))
  (l : List α) (heq : ∀ x ∈ l, tree E0 n tb g [.agg (enc x), .agg (enc x)] = some (.sc (.bool true))) (hlen : l.length ≤ 1048576) (hn : 1048576 < n) (tb' : Nat) :
  tree E0 (n + 1) tb' f [.ro l.length (l.map enc).flatten, .ro l.length (l.map enc).flatten] = some (.sc (.bool true)) := by
 rw [tree_def, hF, len_ro, len_ro, neq_nat, cond_b, if_neg (by simp)]
 have key := eq_loop (n := n) (tb := tb) (g := g) enc (fun x H => ownTree ti0 E0.tp tb' H x) hw h0 hfl hh (L fun x H => ownTree ti0 E0.tp tb' H x) (hL fun x H => ownTree ti0 E0.tp tb' H x) l heq hlen [] l [] n (by simp) (by omega)
 simp only [List.length_nil, Int.natCast_zero] at key
 rw [key]
 rfl
theorem eqf_loop {α : Type} {n : Nat} (e : α → Value) (k : AV → Heap → Option β) (hne : ∀ (x : α) (γ : Type) (k : AV → Option γ), pBin .neq (.sc (e x)) (.sc (e x)) k = k (.sc (.bool false))) (L : Nat → AV → AV → AV → Heap → Option β)
  (hL : ∀ m a b i H, L (m + 1) a b i H = pLen a fun t13 => pBin .lss i t13 fun t14 => pCond t14 (pIadr 1 a i fun t19 => pLoad false 1 t19 H fun t20 => pIadr 1 b i fun t23 => pLoad false 1 t23 H fun t24 => pBin .neq t20 t24 fun t25 => pCond t25 (k (.sc (.bool false)) H) (pBin .add i (.sc (.int .i64 1)) fun t16 => L m a b t16 H)) (k (.sc (.bool true)) H))
  (l : List α) (hlen : l.length ≤ 1048576) (H : Heap) : ∀ (r pre : List α) (m : Nat), l = pre ++ r → r.length < m →
   L m (.ro l.length (l.map fun x => .sc (e x))) (.ro l.length (l.map fun x => .sc (e x))) (.sc (.int .i64 pre.length)) H = k (.sc (.bool true)) H
 | [], pre, m + 1, hl, hm => by
  rw [List.append_nil] at hl
  subst hl
  rw [hL, len_ro, lss_nat, cond_b]
  simp
 | x :: r, pre, m + 1, hl, hm => by
  have hlt : pre.length < l.length := by rw [hl]; simp
  rw [hL, len_ro, lss_nat, cond_b, if_pos (by simpa using hlt)]
  have hd : (l.map fun x => AV.sc (e x)).drop (pre.length * 1) = .sc (e x) :: r.map fun x => .sc (e x) := by
   rw [Nat.mul_one, hl, List.map_append, List.drop_append_of_le_length (by simp)]
   rw [show pre.length = (pre.map fun x => AV.sc (e x)).length by simp, List.drop_length]
   rfl
  rw [iadr_ro 1 _ _ pre.length _ hlt (by simpa using hlt), hd, ld1_rp, iadr_ro 1 _ _ pre.length _ hlt (by simpa using hlt), hd, ld1_rp, hne, cond_b, if_neg (by simp), inc_nat _ _ (by omega)]
  have ih := eqf_loop (n := n) e k hne L hL l hlen H r (pre ++ [x]) m (by rw [hl]; simp) (by simpa using hm)
  rw [List.length_append, List.length_singleton] at ih
  exact ih
theorem eq_flat {α : Type} {n f : Nat} (e : α → Value) (hne : ∀ (x : α) (γ : Type) (k : AV → Option γ), pBin .neq (.sc (e x)) (.sc (e x)) k = k (.sc (.bool false))) (L : (AV → Heap → Option AV) → Nat → AV → AV → AV → Heap → Option AV)
  (hL : ∀ k m a b i H, L k (m + 1) a b i H = pLen a fun t13 => pBin .lss i t13 fun t14 => pCond t14 (pIadr 1 a i fun t19 => pLoad false 1 t19 H fun t20 => pIadr 1 b i fun t23 => pLoad false 1 t23 H fun t24 => pBin .neq t20 t24 fun t25 => pCond t25 (k (.sc (.bool false)) H) (pBin .add i (.sc (.int .i64 1)) fun t16 => L k m a b t16 H)) (k (.sc (.bool true)) H))
  (hF : ∀ a b H k, evalFn E0 (n + 1) AV f [a, b] H k = pLen a fun t7 => pLen b fun t9 => pBin .neq t7 t9 fun t10 => pCond t10 (k (.sc (.bool false)) H) (L k n a b (.sc (.int .i64 0)) H))
  (l : List α) (hlen : l.length ≤ 1048576) (hn : 1048576 < n) (tb' : Nat) :
  tree E0 (n + 1) tb' f [.ro l.length (l.map fun x => .sc (e x)), .ro l.length (l.map fun x => .sc (e x))] = some (.sc (.bool true)) := by
 rw [tree_def, hF, len_ro, len_ro, neq_nat, cond_b, if_neg (by simp)]
 have key := eqf_loop (n := n) e (fun x H => ownTree ti0 E0.tp tb' H x) hne (L fun x H => ownTree ti0 E0.tp tb' H x) (hL fun x H => ownTree ti0 E0.tp tb' H x) l hlen [] l [] n (by simp) (by omega)
 simp only [List.length_nil, Int.natCast_zero] at key
 rw [key]
 rfl
def szR (w : Nat) (left : Int) : Int := if left < w then -1 else left - w
def wtL {α : Type} (wt : α → Nat) : List α → Nat
 | [] => 0
 | x :: l => 1 + wt x + wtL wt l
def wtS {α : Type} (wt : α → Nat) : List α → Nat
 | [] => 0
 | x :: l => wt x + wtS wt l
theorem wtL_eq {α : Type} (wt : α → Nat) : ∀ l : List α, wtL wt l = l.length + wtS wt l
 | [] => rfl
 | x :: l => by rw [wtL, wtS, wtL_eq wt l, List.length_cons]; omega
theorem wtS_mem {α : Type} {wt : α → Nat} : ∀ {l : List α} {x : α}, x ∈ l → wt x ≤ wtS wt l
 | y :: l, x, h => by
  rw [wtS]
  rcases List.mem_cons.1 h with rfl | h
  ·omega
  ·have := wtS_mem (wt := wt) h
   omega
theorem sz_loop {α : Type} {n ty g w : Nat} (enc : α → List AV) (wt : α → Nat) (k : AV → Heap → Option β) (hw : ∀ x, (enc x).length = w) (h0 : 0 < w) (hfl : ∀ x, (enc x).all isFl = true) (hh : plainF g = false) (L : Nat → AV → AV → AV → Heap → Option β)
  (hL : ∀ m a l i H, L (m + 1) a l i H = pLen a fun t14 => pBin .lss i t14 fun t15 => pCond t15 (pIadr w a i fun t20 => pLoad true w t20 H fun t21 => (PR n β).call ty (.fn g [] []) [t21, l] H fun t23 H => pBin .lss t23 (.sc (.int .i64 0)) fun t25 => pCond t25 (k (.sc (.int .i64 (-1))) H) (pBin .add i (.sc (.int .i64 1)) fun t17 => L m a t23 t17 H)) (k l H))
  (l : List α) (hsz : ∀ x ∈ l, ∀ left : Int, 0 ≤ left → left ≤ 1048576 → tree E0 n ty g [.agg (enc x), .sc (.int .i64 left)] = some (.sc (.int .i64 (szR (wt x) left)))) (hlen : l.length ≤ 1048576) (H : Heap) : ∀ (r pre : List α) (m : Nat) (left : Int), 0 ≤ left → left ≤ 1048576 → l = pre ++ r → r.length < m →
   L m (.ro l.length (l.map enc).flatten) (.sc (.int .i64 left)) (.sc (.int .i64 pre.length)) H = k (.sc (.int .i64 (szR (wtS wt r) left))) H
 | [], pre, m + 1, left, hl0, hl1, hl, hm => by
  rw [List.append_nil] at hl
  subst hl
  rw [hL, len_ro, lss_nat, cond_b]
  have : szR (wtS wt []) left = left := by simp [szR, wtS]; omega
  rw [this]
  simp
 | x :: r, pre, m + 1, left, hl0, hl1, hl, hm => by
  have hlt : pre.length < l.length := by rw [hl]; simp
  rw [hL, len_ro, lss_nat, cond_b, if_pos (by simpa using hlt)]
  have hel := fun k => el_ro (β := β) hw h0 pre x r k
  rw [← hl] at hel
  rw [hel, ld_rp w _ _ _ _ (hw x)]
  rw [PR_call (vs := [.agg (enc x), .sc (.int .i64 left)]) hh (by simp only [List.mapM_cons, (Vw_agg _ (hfl x)).now]; rfl) (hsz x (by rw [hl]; simp) left hl0 hl1)]
  rw [instT_sc]
  simp only [List.append_nil]
  rw [lss64, cond_b]
  by_cases hs : left < wt x
  ·have e1 : szR (wt x) left = -1 := by simp [szR, hs]
   have e2 : szR (wtS wt (x :: r)) left = -1 := by
    rw [wtS, szR, if_pos]; omega
   rw [e1, e2]
   simp
  ·have e1 : szR (wt x) left = left - wt x := by simp [szR, hs]
   have e2 : szR (wtS wt (x :: r)) left = szR (wtS wt r) (left - wt x) := by
    unfold szR
    rw [wtS]
    by_cases h : left < ((wt x + wtS wt r : Nat) : Int)
    ·rw [if_pos h, if_pos (by omega)]
    ·rw [if_neg h, if_neg (by omega)]; omega
   rw [e1, e2, if_neg (by simp; omega), inc_nat _ _ (by omega)]
   have ih := sz_loop enc wt k hw h0 hfl hh L hL l hsz hlen H r (pre ++ [x]) m (left - wt x) (by omega) (by omega) (by rw [hl]; simp) (by simpa using hm)
   rw [List.length_append, List.length_singleton] at ih
   exact ih
theorem sz_slice {α : Type} {n ty f g w : Nat} (enc : α → List AV) (wt : α → Nat) (hw : ∀ x, (enc x).length = w) (h0 : 0 < w) (hfl : ∀ x, (enc x).all isFl = true) (hh : plainF g = false) (L : (AV → Heap → Option AV) → Nat → AV → AV → AV → Heap → Option AV)
  (hL : ∀ k m a l i H, L k (m + 1) a l i H = pLen a fun t14 => pBin .lss i t14 fun t15 => pCond t15 (pIadr w a i fun t20 => pLoad true w t20 H fun t21 => (PR n AV).call ty (.fn g [] []) [t21, l] H fun t23 H => pBin .lss t23 (.sc (.int .i64 0)) fun t25 => pCond t25 (k (.sc (.int .i64 (-1))) H) (pBin .add i (.sc (.int .i64 1)) fun t17 => L k m a t23 t17 H)) (k l H))
  (hF : ∀ a b H k, evalFn E0 (n + 1) AV f [a, b] H k = pLen a fun t8 => pBin .sub b t8 fun t9 => pBin .lss t9 (.sc (.int .i64 0)) fun t11 => pCond t11 (k (.sc (.int .i64 (-1))) H) (L k n a t9 (.sc (.int .i64 0)) H))
  (l : List α) (hsz : ∀ x ∈ l, ∀ left : Int, 0 ≤ left → left ≤ 1048576 → tree E0 n ty g [.agg (enc x), .sc (.int .i64 left)] = some (.sc (.int .i64 (szR (wt x) left)))) (hmax : l.length ≤ 9223372036854775807) (hn : 1048576 < n) (left : Int) (hl0 : 0 ≤ left) (hl1 : left ≤ 1048576) (ty' : Nat) :
  tree E0 (n + 1) ty' f [.ro l.length (l.map enc).flatten, .sc (.int .i64 left)] = some (.sc (.int .i64 (szR (wtL wt l) left))) := by
 rw [tree_def, hF, len_ro, sub64 _ _ _ (by omega) (by omega), lss64, cond_b]
 by_cases h : left - (l.length : Int) < 0
 ·have e : szR (wtL wt l) left = -1 := by rw [wtL_eq, szR, if_pos]; omega
  rw [if_pos (by simpa using h), e]
  rfl
 ·have e : szR (wtL wt l) left = szR (wtS wt l) (left - l.length) := by
   rw [wtL_eq]
   unfold szR
   by_cases h : left < ((l.length + wtS wt l : Nat) : Int)
   ·rw [if_pos h, if_pos (by omega)]
   ·rw [if_neg h, if_neg (by omega)]; omega
  rw [if_neg (by simpa using h), e]
  have key := sz_loop (n := n) (ty := ty) (g := g) enc wt (fun x H => ownTree ti0 E0.tp ty' H x) hw h0 hfl hh (L fun x H => ownTree ti0 E0.tp ty' H x) (hL fun x H => ownTree ti0 E0.tp ty' H x) l hsz (by omega) [] l [] n (left - l.length) (by omega) (by omega) (by simp) (by omega)
  simp only [List.length_nil, Int.natCast_zero] at key
  rw [key]
  rfl
theorem sz_len {n f : Nat} (hF : ∀ a b H k, evalFn E0 (n + 1) AV f [a, b] H k = pLen a fun t8 => pBin .sub b t8 fun t9 => pBin .lss t9 (.sc (.int .i64 0)) fun t11 => pCond t11 (k (.sc (.int .i64 (-1))) H) (k t9 H))
  (len : Nat) (cells : List AV) (hmax : len ≤ 9223372036854775807) (left : Int) (hl0 : 0 ≤ left) (hl1 : left ≤ 1048576) (ty' : Nat) :
  tree E0 (n + 1) ty' f [.ro len cells, .sc (.int .i64 left)] = some (.sc (.int .i64 (szR len left))) := by
 rw [tree_def, hF, len_ro, sub64 _ _ _ (by omega) (by omega), lss64, cond_b]
 by_cases h : left - (len : Int) < 0
 ·have e : szR len left = -1 := by rw [szR, if_pos]; omega
  rw [if_pos (by simpa using h), e]
  rfl
 ·have e : szR len left = left - len := by rw [szR, if_neg]; omega
  rw [if_neg (by simpa using h), e]
  rfl
end ops
end Go.Proofs.YtejjggnchdldoaaDoor.Abs
set_option linter.unusedVariables false
set_option linter.unusedSimpArgs false
namespace Go.Proofs.YtejjggnchdldoaaDoor.Abs
open Go
variable {β : Type} {n : Nat}
theorem box_fl (cs : List AV) (H : Heap) (k : AV → Heap → Option β) (h : cs.all isFl = true) : pBox (.agg cs) H k = k (.ptr H.length 0) (H ++ [⟨cs, true, true⟩]) := by
 rw [pBox, fl_cells h]
 rfl
theorem ldT {m id off : Nat} {H : Heap} {cs : List AV} (h : rdCells H id off m = some cs) (k : AV → Option β) : pLoad true m (.ptr id off) H k = k (.agg cs) := by
 simp only [pLoad, h, Option.bind_some, if_true]
theorem ldF {id off : Nat} {H : Heap} {c : AV} (h : rdCells H id off 1 = some [c]) (k : AV → Option β) : pLoad false 1 (.ptr id off) H k = k c := by
 simp only [pLoad, h, Option.bind_some, Bool.false_eq_true, if_false, one]
noncomputable def FrB (b0 b1 : Blk) (ts : List Nat) (cs z : List AV) : Heap := b0 :: b1 :: ⟨(instL ti0 E0.tp 3 ts cs).1 ++ z, true, true⟩ :: (instL ti0 E0.tp 3 ts cs).2
theorem fr_put {b0 b1 : Blk} {ts : List Nat} {cs z0 z : List AV} {w o : Nat} {y : AV} {ys : List AV} {B : List Blk} {ts' : List Nat} {cs' : List AV} (hl : ts.length = cs.length) (ho : o = cs.length) (hw : z0.length = w) (hc : cellsA y = some ys) (hy : ys.length = w)
  (hB : instL ti0 E0.tp (3 + (instL ti0 E0.tp 3 ts cs).2.length) ts' cs' = (ys, B)) (K : Heap → Option β) :
  pStore w (.ptr 2 o) y (FrB b0 b1 ts cs (z0 ++ z) ++ B) K = K (FrB b0 b1 (ts ++ ts') (cs ++ cs') z) := by
 have hP : (instL ti0 E0.tp 3 ts cs).1.length = cs.length := instL_len _ _ _
 rw [st_at w 2 o y ⟨(instL ti0 E0.tp 3 ts cs).1 ++ (z0 ++ z), true, true⟩ ys _ _ rfl hc hy (by simp [hP, ho, hw]) rfl]
 congr 1
 have hs : splice ((instL ti0 E0.tp 3 ts cs).1 ++ (z0 ++ z)) o ys = (instL ti0 E0.tp 3 ts cs).1 ++ (ys ++ z) := by
  rw [ho, ← hP]
  exact splice_mid _ _ _ _ (by rw [hw, hy])
 simp only [FrB, List.cons_append, List.set_cons_succ, List.set_cons_zero, hs, instL_append ts cs ts' cs' 3 hl, hB, List.append_assoc]
theorem to_sc {b0 b1 : Blk} {ts : List Nat} {cs z z' : List AV} {o : Nat} {t : Nat} {v : Value} {c : AV} {K : Heap → Option β} {r : Option β} (hr : rdCells (FrB b0 b1 ts cs z) 0 o 1 = some [.sc v]) (hv : leafV v = true) (hl : ts.length = cs.length) (ho : o = cs.length) (hz : z = c :: z')
  (h : K (FrB b0 b1 (ts ++ [t]) (cs ++ [.sc v]) z') = r) :
  (pFadr o (.ptr 0 0) fun t4 => pLoad false 1 t4 (FrB b0 b1 ts cs z) fun t5 => pFadr o (.ptr 2 0) fun t6 => pStore 1 t6 t5 (FrB b0 b1 ts cs z) fun H => K H) = r := by
 subst hz
 simp only [pFadr, Nat.zero_add]
 rw [ldF hr]
 have := fr_put (β := β) (b0 := b0) (b1 := b1) (ts := ts) (cs := cs) (z0 := [c]) (z := z') (w := 1) (o := o) (y := .sc v) (ys := [.sc v]) (B := []) (ts' := [t]) (cs' := [.sc v]) hl ho rfl (by simp only [cellsA, isLeaf, hv, if_true]) rfl (by simp [instL, instT]) K
 rw [List.append_nil] at this
 exact this.trans h
theorem to_ro {b0 b1 : Blk} {ts : List Nat} {cs z z' : List AV} {o t g len : Nat} {c : AV} {cells : List AV} {K : Heap → Option β} {r : Option β} (hr : rdCells (FrB b0 b1 ts cs z) 0 o 1 = some [.ro len cells]) (hh : plainF g = false) (ht : tree E0 n t g [.ro len cells] = some (.ro len cells)) (hl : ts.length = cs.length) (ho : o = cs.length) (hz : z = c :: z')
  (h : K (FrB b0 b1 (ts ++ [t]) (cs ++ [.ro len cells]) z') = r) :
  (pFadr o (.ptr 0 0) fun t4 => pLoad false 1 t4 (FrB b0 b1 ts cs z) fun t5 => (PR n β).call t (.fn g [] []) [t5] (FrB b0 b1 ts cs z) fun t9 H => pFadr o (.ptr 2 0) fun t6 => pStore 1 t6 t9 H fun H => K H) = r := by
 subst hz
 simp only [pFadr, Nat.zero_add]
 rw [ldF hr, PR_call (vs := [.ro len cells]) hh (by simp only [List.mapM_cons, viewV_ro]; rfl) ht]
 have hH : (FrB b0 b1 ts cs (c :: z')).length = 3 + (instL ti0 E0.tp 3 ts cs).2.length := by simp [FrB]; omega
 rw [hH]
 have hi : ∀ N, ∃ s : AV, isLeaf s = true ∧ (instT ti0 E0.tp N t (.ro len cells)).1 = s ∧ cellsA s = some [s] := fun N => by
  refine ⟨_, ?_, rfl, ?_⟩ <;> simp [instT, isLeaf, cellsA]
 obtain ⟨s, _, hs, hc⟩ := hi (3 + (instL ti0 E0.tp 3 ts cs).2.length)
 have := fr_put (β := β) (b0 := b0) (b1 := b1) (ts := ts) (cs := cs) (z0 := [c]) (z := z') (w := 1) (o := o) (y := s) (ys := [s]) (ts' := [t]) (cs' := [.ro len cells]) (B := (instT ti0 E0.tp (3 + (instL ti0 E0.tp 3 ts cs).2.length) t (.ro len cells)).2) hl ho rfl hc rfl (by simp only [instL, List.headD_cons, List.append_nil, hs]) K
 rw [hs]
 exact this.trans h
theorem to_agg {b0 b1 : Blk} {ts cty : List Nat} {cs z z0 z' : List AV} {o t g w : Nat} {cells : List AV} {K : Heap → Option β} {r : Option β} (hr : rdCells (FrB b0 b1 ts cs z) 0 o w = some cells) (hh : plainF g = false) (hfl : cells.all isFl = true) (ht : tree E0 n t g [.agg cells] = some (.agg cells)) (hty : ∃ i, ti0 t = some i ∧ i.cty = cty) (hw : cells.length = w) (hl : ts.length = cs.length) (ho : o = cs.length) (hz : z = z0 ++ z') (hz0 : z0.length = w)
  (h : K (FrB b0 b1 (ts ++ cty) (cs ++ cells) z') = r) :
  (pFadr o (.ptr 0 0) fun t4 => pLoad true w t4 (FrB b0 b1 ts cs z) fun t5 => (PR n β).call t (.fn g [] []) [t5] (FrB b0 b1 ts cs z) fun t9 H => pFadr o (.ptr 2 0) fun t6 => pStore w t6 t9 H fun H => K H) = r := by
 subst hz
 obtain ⟨i, hi, rfl⟩ := hty
 simp only [pFadr, Nat.zero_add]
 rw [ldT hr, PR_call (vs := [.agg cells]) hh (by rw [List.mapM_cons, (Vw_agg _ hfl).now]; rfl) ht]
 have hH : (FrB b0 b1 ts cs (z0 ++ z')).length = 3 + (instL ti0 E0.tp 3 ts cs).2.length := by simp [FrB]; omega
 rw [hH, instT_agg, hi, Option.getD_some]
 have hleaf := instL_leaf (ti := ti0) (tp := E0.tp) cells (3 + (instL ti0 E0.tp 3 ts cs).2.length) i.cty hfl
 have hlen := instL_len (ti := ti0) (tp := E0.tp) (3 + (instL ti0 E0.tp 3 ts cs).2.length) i.cty cells
 have := fr_put (β := β) (b0 := b0) (b1 := b1) (ts := ts) (cs := cs) (z0 := z0) (z := z') (w := w) (o := o) (y := .agg (instL ti0 E0.tp (3 + (instL ti0 E0.tp 3 ts cs).2.length) i.cty cells).1) (ys := (instL ti0 E0.tp (3 + (instL ti0 E0.tp 3 ts cs).2.length) i.cty cells).1) (ts' := i.cty) (cs' := cells) (B := (instL ti0 E0.tp (3 + (instL ti0 E0.tp 3 ts cs).2.length) i.cty cells).2) hl ho hz0 (by
  show (if _ then _ else none) = _
  rw [if_pos hleaf]) (by rw [hlen, hw]) rfl K
 exact this.trans h
theorem to_end {b0 : Blk} {z1 cells : List AV} {cty : List Nat} {w ty : Nat} (hw : cells.length = w) (hz : z1.length = w) (hfl : cells.all isFl = true) (hty : ∃ i, ti0 ty = some i ∧ i.cty = cty) (hok : okLW (okW ti0 E0.tp 7) cty cells) :
  (pLoad true w (.ptr 2 0) (FrB b0 ⟨z1, true, true⟩ cty cells []) fun t14 => pStore w (.ptr 1 0) t14 (FrB b0 ⟨z1, true, true⟩ cty cells []) fun H => pLoad true w (.ptr 1 0) H fun r0 => ownTree ti0 E0.tp ty H r0) = some (.agg cells) := by
 obtain ⟨i, hi, rfl⟩ := hty
 have hlen := instL_len (ti := ti0) (tp := E0.tp) 3 i.cty cells
 have hleaf := instL_leaf (ti := ti0) (tp := E0.tp) cells 3 i.cty hfl
 have h1 : rdCells (FrB b0 ⟨z1, true, true⟩ i.cty cells []) 2 0 w = some (instL ti0 E0.tp 3 i.cty cells).1 := by
  simp [rdCells, FrB, hlen, hw, List.take_of_length_le]
 rw [ldT h1]
 have hc : cellsA (.agg (instL ti0 E0.tp 3 i.cty cells).1) = some (instL ti0 E0.tp 3 i.cty cells).1 := by
  show (if _ then _ else none) = _
  rw [if_pos hleaf]
 rw [st_at w 1 0 _ ⟨z1, true, true⟩ _ _ _ rfl hc (by rw [hlen, hw]) (by simp [hz]) rfl]
 have hs : splice z1 0 (instL ti0 E0.tp 3 i.cty cells).1 = (instL ti0 E0.tp 3 i.cty cells).1 := by
  unfold splice
  rw [List.take_zero, List.nil_append, List.drop_of_length_le (by rw [hlen, hw, hz]; omega), List.append_nil]
 simp only [hs]
 have h2 : rdCells ((FrB b0 ⟨z1, true, true⟩ i.cty cells []).set 1 ⟨(instL ti0 E0.tp 3 i.cty cells).1, true, true⟩) 1 0 w = some (instL ti0 E0.tp 3 i.cty cells).1 := by
  simp [rdCells, FrB, hlen, hw, List.take_of_length_le]
 rw [ldT h2]
 have hok' : okW ti0 E0.tp 8 ty (.agg cells) := ⟨i, hi, hok⟩
 have := own_ret [b0, ⟨(instL ti0 E0.tp 3 i.cty cells).1, true, true⟩, ⟨(instL ti0 E0.tp 3 i.cty cells).1 ++ [], true, true⟩] ty _ hok'
 rw [instT_agg, hi] at this
 exact this
noncomputable def StB (T : List Nat) (C Z : List AV) (o : Nat) : Heap := FrB ⟨C, true, true⟩ ⟨Z, true, true⟩ (T.take o) (C.take o) (Z.drop o)
theorem StB_rd {T : List Nat} {C Z : List AV} {o p w : Nat} {cs : List AV} (h : (C.drop p).take w = cs) (hl : cs.length = w) (hw : 0 < w) : rdCells (StB T C Z o) 0 p w = some cs := by
 have hle : p + w ≤ C.length := by
  have := congrArg List.length h
  rw [hl, List.length_take, List.length_drop] at this
  omega
 show (match (some ⟨C, true, true⟩ : Option Blk) with | some b => if b.live then (if p + w ≤ b.cells.length then some ((b.cells.drop p).take w) else none) else none | none => none) = _
 simp only [if_true, hle, h]
theorem one_of {C : List AV} {o : Nat} {c : AV} (h : C[o]? = some c) : (C.drop o).take 1 = [c] := by
 obtain ⟨hlt, e⟩ := List.getElem?_eq_some_iff.1 h
 rw [List.drop_eq_getElem_cons hlt, e]
 rfl
theorem take_w {α : Type} {T : List α} {o w o' : Nat} {c : List α} (h : (T.drop o).take w = c) (ho : o' = o + w) : T.take o' = T.take o ++ c := by
 rw [ho, List.take_add, h]
theorem st_sc {T : List Nat} {C Z : List AV} {o o' : Nat} {v : Value} {K : Heap → Option β} {r : Option β} (hT : T.length = C.length) (hZ : Z.length = C.length) (hC : C[o]? = some (.sc v)) (hv : leafV v = true) (ho : o' = o + 1) (h : K (StB T C Z o') = r) :
  (pFadr o (.ptr 0 0) fun t4 => pLoad false 1 t4 (StB T C Z o) fun t5 => pFadr o (.ptr 2 0) fun t6 => pStore 1 t6 t5 (StB T C Z o) fun H => K H) = r := by
 obtain ⟨hlt, _⟩ := List.getElem?_eq_some_iff.1 hC
 have hz : Z.drop o = Z[o]'(by omega) :: Z.drop o' := by rw [ho]; exact List.drop_eq_getElem_cons _
 refine to_sc (t := T[o]'(by omega)) (z' := Z.drop o') (StB_rd (one_of hC) rfl (by decide)) hv (by simp [hT]) (by simp; omega) hz ?_
 have e1 : T.take o' = T.take o ++ [T[o]'(by omega)] := take_w (w := 1) (by rw [List.drop_eq_getElem_cons (by omega)]; rfl) ho
 have e2 : C.take o' = C.take o ++ [.sc v] := take_w (one_of hC) ho
 rw [← e1, ← e2]
 exact h
theorem st_ro {T : List Nat} {C Z : List AV} {o o' t g len : Nat} {cells : List AV} {K : Heap → Option β} {r : Option β} (hT : T.length = C.length) (hZ : Z.length = C.length) (hC : C[o]? = some (.ro len cells)) (hTt : T[o]? = some t) (hh : plainF g = false) (ht : tree E0 n t g [.ro len cells] = some (.ro len cells)) (ho : o' = o + 1) (h : K (StB T C Z o') = r) :
  (pFadr o (.ptr 0 0) fun t4 => pLoad false 1 t4 (StB T C Z o) fun t5 => (PR n β).call t (.fn g [] []) [t5] (StB T C Z o) fun t9 H => pFadr o (.ptr 2 0) fun t6 => pStore 1 t6 t9 H fun H => K H) = r := by
 obtain ⟨hlt, _⟩ := List.getElem?_eq_some_iff.1 hC
 obtain ⟨hlt2, hTe⟩ := List.getElem?_eq_some_iff.1 hTt
 have hz : Z.drop o = Z[o]'(by omega) :: Z.drop o' := by rw [ho]; exact List.drop_eq_getElem_cons _
 refine to_ro (z' := Z.drop o') (StB_rd (one_of hC) rfl (by decide)) hh ht (by simp [hT]) (by simp; omega) hz ?_
 have e1 : T.take o' = T.take o ++ [t] := take_w (w := 1) (by rw [List.drop_eq_getElem_cons hlt2, hTe]; rfl) ho
 have e2 : C.take o' = C.take o ++ [.ro len cells] := take_w (one_of hC) ho
 rw [← e1, ← e2]
 exact h
theorem st_agg {T cty : List Nat} {C Z : List AV} {o o' t g w : Nat} {cells : List AV} {K : Heap → Option β} {r : Option β} (hT : T.length = C.length) (hZ : Z.length = C.length) (hC : (C.drop o).take w = cells) (hTt : (T.drop o).take w = cty) (hh : plainF g = false) (hfl : cells.all isFl = true) (ht : tree E0 n t g [.agg cells] = some (.agg cells)) (hty : ∃ i, ti0 t = some i ∧ i.cty = cty) (hw : cells.length = w) (hw0 : 0 < w) (ho : o' = o + w) (h : K (StB T C Z o') = r) :
  (pFadr o (.ptr 0 0) fun t4 => pLoad true w t4 (StB T C Z o) fun t5 => (PR n β).call t (.fn g [] []) [t5] (StB T C Z o) fun t9 H => pFadr o (.ptr 2 0) fun t6 => pStore w t6 t9 H fun H => K H) = r := by
 have hle : o + w ≤ C.length := by
  have := congrArg List.length hC
  rw [hw, List.length_take, List.length_drop] at this
  omega
 have hz : Z.drop o = (Z.drop o).take w ++ Z.drop o' := by
  rw [ho]
  conv => lhs; rw [← List.take_append_drop w (Z.drop o)]
  rw [List.drop_drop]
 refine to_agg (z0 := (Z.drop o).take w) (z' := Z.drop o') (StB_rd hC hw hw0) hh hfl ht hty hw (by simp [hT]) (by simp; omega) hz (by simp; omega) ?_
 have e1 : T.take o' = T.take o ++ cty := take_w hTt ho
 have e2 : C.take o' = C.take o ++ cells := take_w hC ho
 rw [← e1, ← e2]
 exact h
theorem st_end {T : List Nat} {C Z : List AV} {w ty : Nat} (hT : T.length = C.length) (hZ : Z.length = C.length) (hw : C.length = w) (hfl : C.all isFl = true) (hty : ∃ i, ti0 ty = some i ∧ i.cty = T) (hok : okLW (okW ti0 E0.tp 7) T C) :
  (pLoad true w (.ptr 2 0) (StB T C Z w) fun t14 => pStore w (.ptr 1 0) t14 (StB T C Z w) fun H => pLoad true w (.ptr 1 0) H fun r0 => ownTree ti0 E0.tp ty H r0) = some (.agg C) := by
 have e : StB T C Z w = FrB ⟨C, true, true⟩ ⟨Z, true, true⟩ T C [] := by
  unfold StB
  rw [List.take_of_length_le (by omega), List.take_of_length_le (by omega), List.drop_of_length_le (by omega)]
 rw [e]
 exact to_end hw (by omega) hfl hty hok
theorem eq_sc {o : Nat} {H : Heap} {v : Value} {A K r : Option β} (h0 : rdCells H 0 o 1 = some [.sc v]) (h1 : rdCells H 1 o 1 = some [.sc v]) (hv : ∀ k : AV → Option β, pBin .neq (.sc v) (.sc v) k = k (.sc (.bool false))) (h : K = r) :
  (pFadr o (.ptr 0 0) fun t5 => pLoad false 1 t5 H fun t6 => pFadr o (.ptr 1 0) fun t7 => pLoad false 1 t7 H fun t8 => pBin .neq t6 t8 fun t9 => pCond t9 A K) = r := by
 simp only [pFadr, Nat.zero_add]
 rw [ldF h0, ldF h1, hv, cond_b]
 exact h
theorem eq_b {o : Nat} {H : Heap} {b : Bool} {A K r : Option β} (h0 : rdCells H 0 o 1 = some [.sc (.bool b)]) (h1 : rdCells H 1 o 1 = some [.sc (.bool b)]) (h : K = r) :
  (pFadr o (.ptr 0 0) fun t5 => pLoad false 1 t5 H fun t6 => pFadr o (.ptr 1 0) fun t7 => pLoad false 1 t7 H fun t8 => pBinB .neq t6 t8 fun t9 => pCond t9 A K) = r := by
 simp only [pFadr, Nat.zero_add]
 rw [ldF h0, ldF h1]
 simp only [pBinB, asB, Option.bind_some, binB, beq_self_eq_true, Bool.not_true]
 exact h
theorem eq_ro {o tb g : Nat} {H : Heap} {len : Nat} {cells : List AV} {A : Heap → Option β} {K : Heap → Option β} {r : Option β} (h0 : rdCells H 0 o 1 = some [.ro len cells]) (h1 : rdCells H 1 o 1 = some [.ro len cells]) (hh : plainF g = false) (ht : tree E0 n tb g [.ro len cells, .ro len cells] = some (.sc (.bool true))) (h : K H = r) :
  (pFadr o (.ptr 0 0) fun t5 => pLoad false 1 t5 H fun t6 => pFadr o (.ptr 1 0) fun t7 => pLoad false 1 t7 H fun t8 => (PR n β).call tb (.fn g [] []) [t6, t8] H fun t H => pUn .not t fun t9 => pCond t9 (A H) (K H)) = r := by
 simp only [pFadr, Nat.zero_add]
 rw [ldF h0, ldF h1, PR_call (vs := [.ro len cells, .ro len cells]) hh (by simp only [List.mapM_cons, viewV_ro]; rfl) ht, instT_sc, List.append_nil]
 exact h
theorem eq_agg {o tb g w : Nat} {H : Heap} {cells : List AV} {A : Heap → Option β} {K : Heap → Option β} {r : Option β} (h0 : rdCells H 0 o w = some cells) (h1 : rdCells H 1 o w = some cells) (hh : plainF g = false) (hfl : cells.all isFl = true) (ht : tree E0 n tb g [.agg cells, .agg cells] = some (.sc (.bool true))) (h : K H = r) :
  (pFadr o (.ptr 0 0) fun t5 => pLoad true w t5 H fun t6 => pFadr o (.ptr 1 0) fun t7 => pLoad true w t7 H fun t8 => (PR n β).call tb (.fn g [] []) [t6, t8] H fun t H => pUn .not t fun t9 => pCond t9 (A H) (K H)) = r := by
 simp only [pFadr, Nat.zero_add]
 rw [ldT h0, ldT h1, PR_call (vs := [.agg cells, .agg cells]) hh (by simp only [List.mapM_cons, (Vw_agg _ hfl).now]; rfl) ht, instT_sc, List.append_nil]
 exact h
theorem ne_int (z : Int) (k : AV → Option β) : pBin .neq (.sc (.int .i64 z)) (.sc (.int .i64 z)) k = k (.sc (.bool false)) := by
 show k (.sc (.bool (z != z))) = _
 rw [bne_self_eq_false]
theorem ne_str (s : ByteArray) (k : AV → Option β) : pBin .neq (.sc (.string s)) (.sc (.string s)) k = k (.sc (.bool false)) := by
 show k (.sc (.bool (!(s.toList == s.toList)))) = _
 rw [beq_self_eq_true, Bool.not_true]
theorem ne_u8 (z : Int) (k : AV → Option β) : pBin .neq (.sc (.int .u8 z)) (.sc (.int .u8 z)) k = k (.sc (.bool false)) := by
 show k (.sc (.bool (z != z))) = _
 rw [bne_self_eq_false]
def szA (W : Nat) (left : Int) : Option AV := some (.sc (.int .i64 (szR W left)))
theorem szR_cut {s W : Nat} {left : Int} (h : left < s) : szR (s + W) left = -1 := by rw [szR, if_pos]; omega
theorem szR_go {s W : Nat} {left : Int} (h : ¬ left < s) : szR (s + W) left = szR W (left - s) := by
 unfold szR
 by_cases h2 : left < ((s + W : Nat) : Int)
 ·rw [if_pos h2, if_pos (by omega)]
 ·rw [if_neg h2, if_neg (by omega)]; omega
theorem sz_str {o : Nat} {H : Heap} {s : ByteArray} {W : Nat} {left : Int} {A : Option AV} {K : AV → Option AV} (hr : rdCells H 0 o 1 = some [.sc (.string s)]) (h0 : 0 ≤ left) (h1 : left ≤ 1048576) (hs : s.size ≤ 9223372036854775807) (hA : A = some (.sc (.int .i64 (-1)))) (hK : 0 ≤ left - s.size → left - s.size ≤ 1048576 → K (.sc (.int .i64 (left - s.size))) = szA W (left - s.size)) :
  (pFadr o (.ptr 0 0) fun t6 => pLoad false 1 t6 H fun t7 => pLenS t7 fun t8 => pBin .sub (.sc (.int .i64 left)) t8 fun t9 => pBin .lss t9 (.sc (.int .i64 0)) fun t11 => pCond t11 A (K t9)) = szA (s.size + W) left := by
 simp only [pFadr, Nat.zero_add]
 rw [ldF hr]
 simp only [pLenS, asS, Option.bind_some]
 rw [sub64 _ _ _ (by omega) (by omega), lss64, cond_b]
 by_cases h : left < s.size
 ·rw [if_pos (by simpa using (show left - (s.size : Int) < 0 by omega)), hA, szA, szR_cut h]
 ·rw [if_neg (by simpa using (show ¬ left - (s.size : Int) < 0 by omega)), hK (by omega) (by omega), szA, szA, szR_go h]
theorem sz_ro {o ty g : Nat} {H : Heap} {len : Nat} {cells : List AV} {w W : Nat} {left : Int} {A : Heap → Option AV} {K : AV → Heap → Option AV} (hr : rdCells H 0 o 1 = some [.ro len cells]) (h0 : 0 ≤ left) (h1 : left ≤ 1048576) (hh : plainF g = false) (ht : tree E0 n ty g [.ro len cells, .sc (.int .i64 left)] = some (.sc (.int .i64 (szR w left)))) (hA : A H = some (.sc (.int .i64 (-1)))) (hK : 0 ≤ left - w → left - w ≤ 1048576 → K (.sc (.int .i64 (left - w))) H = szA W (left - w)) :
  (pFadr o (.ptr 0 0) fun t6 => pLoad false 1 t6 H fun t7 => (PR n AV).call ty (.fn g [] []) [t7, .sc (.int .i64 left)] H fun t15 H => pBin .lss t15 (.sc (.int .i64 0)) fun t11 => pCond t11 (A H) (K t15 H)) = szA (w + W) left := by
 simp only [pFadr, Nat.zero_add]
 rw [ldF hr, PR_call (vs := [.ro len cells, .sc (.int .i64 left)]) hh (by simp only [List.mapM_cons, viewV_ro, viewV_sc]; rfl) ht, instT_sc, List.append_nil]
 simp only
 rw [lss64, cond_b]
 by_cases h : left < w
 ·have e : szR w left = -1 := by rw [szR, if_pos h]
  rw [e, if_pos (by decide), hA, szA, szR_cut h]
 ·have e : szR w left = left - w := by rw [szR, if_neg h]
  rw [e, if_neg (by simpa using (show ¬ left - (w : Int) < 0 by omega)), hK (by omega) (by omega), szA, szA, szR_go h]
theorem sz_agg {o ty g wd : Nat} {H : Heap} {cells : List AV} {w W : Nat} {left : Int} {A : Heap → Option AV} {K : AV → Heap → Option AV} (hr : rdCells H 0 o wd = some cells) (h0 : 0 ≤ left) (h1 : left ≤ 1048576) (hh : plainF g = false) (hfl : cells.all isFl = true) (ht : tree E0 n ty g [.agg cells, .sc (.int .i64 left)] = some (.sc (.int .i64 (szR w left)))) (hA : A H = some (.sc (.int .i64 (-1)))) (hK : 0 ≤ left - w → left - w ≤ 1048576 → K (.sc (.int .i64 (left - w))) H = szA W (left - w)) :
  (pFadr o (.ptr 0 0) fun t6 => pLoad true wd t6 H fun t7 => (PR n AV).call ty (.fn g [] []) [t7, .sc (.int .i64 left)] H fun t15 H => pBin .lss t15 (.sc (.int .i64 0)) fun t11 => pCond t11 (A H) (K t15 H)) = szA (w + W) left := by
 simp only [pFadr, Nat.zero_add]
 rw [ldT hr, PR_call (vs := [.agg cells, .sc (.int .i64 left)]) hh (by simp only [List.mapM_cons, (Vw_agg _ hfl).now, viewV_sc]; rfl) ht, instT_sc, List.append_nil]
 simp only
 rw [lss64, cond_b]
 by_cases h : left < w
 ·have e : szR w left = -1 := by rw [szR, if_pos h]
  rw [e, if_pos (by decide), hA, szA, szR_cut h]
 ·have e : szR w left = left - w := by rw [szR, if_neg h]
  rw [e, if_neg (by simpa using (show ¬ left - (w : Int) < 0 by omega)), hK (by omega) (by omega), szA, szA, szR_go h]
theorem sz_end {left : Int} (h0 : 0 ≤ left) : some (AV.sc (.int .i64 left)) = szA 0 left := by
 rw [szA, szR, if_neg (by omega)]
 simp
abbrev bytesC (s : ByteArray) : AV := .ro s.size (bytesAV s)
abbrev intsC (l : List Int) : AV := .ro l.length (l.map fun z => .sc (.int .i64 z))
abbrev strsC (l : List ByteArray) : AV := .ro l.length (l.map fun s => .sc (.string s))
abbrev rowsC {α : Type} (enc : α → List AV) (l : List α) : AV := .ro l.length (l.map enc).flatten
def okI (z : Int) : Prop := -9223372036854775808 ≤ z ∧ z ≤ 9223372036854775807
def okS (s : ByteArray) : Prop := s.size ≤ 9223372036854775807
theorem okLW_flat {f : Nat → AV → Prop} {α : Type} (e : α → Value) (hf : ∀ t v, f t (.sc v)) : ∀ (ts : List Nat) (l : List α), ts.length = l.length → okLW f ts (l.map fun x => .sc (e x))
 | [], [], _ => trivial
 | t :: ts, x :: l, h => ⟨hf _ _, okLW_flat e hf ts l (by simpa using h)⟩
 | [], _ :: _, h => by simp at h
 | _ :: _, [], h => by simp at h
theorem okW_flat {α : Type} {ty d : Nat} (e : α → Value) (hty : ∃ i j, ti0 ty = some i ∧ ti0 i.elem = some j ∧ j.size = 1 ∧ j.cty.length = 1) (l : List α) : okW ti0 E0.tp (d + 2) ty (.ro l.length (l.map fun x => .sc (e x))) := by
 obtain ⟨i, j, h1, h2, h3, h4⟩ := hty
 exact ⟨i, j, h1, h2, by simp [h3], okLW_flat e (fun _ _ => trivial) _ l (by simp [h4])⟩
theorem okW_bytes {d ty : Nat} (hty : ∃ i j, ti0 ty = some i ∧ ti0 i.elem = some j ∧ j.size = 1 ∧ j.cty.length = 1) (s : ByteArray) : okW ti0 E0.tp (d + 2) ty (bytesC s) := by
 have := okW_flat (d := d) (fun b : UInt8 => .int .u8 b.toNat) hty s.data.toList
 have e : s.data.toList.length = s.size := by simp
 rw [e] at this
 exact this
theorem okW_rows {α : Type} {ty d w : Nat} {cty : List Nat} {enc : α → List AV} (hw : ∀ x, (enc x).length = w) (hty : ∃ i j, ti0 ty = some i ∧ ti0 i.elem = some j ∧ j.size = w ∧ j.cty = cty) (he : ∀ x, okLW (okW ti0 E0.tp d) cty (enc x)) (l : List α) : okW ti0 E0.tp (d + 1) ty (rowsC enc l) := by
 obtain ⟨i, j, h1, h2, h3, rfl⟩ := hty
 exact ⟨i, j, h1, h2, by rw [rows_len hw, h3], okLW_rows l fun x _ => he x⟩
theorem okT_rows {α : Type} {enc : α → List AV} {ok : α → Prop} {n t e : Nat} {cs : List AV} (hi : ∃ i, ti0 t = some i ∧ i.isB = false ∧ i.ik = none ∧ i.isStr = false ∧ i.sl = true ∧ i.elem = e) (hel : ∀ n cs, okT ti0 n e cs → ∃ x, cs = enc x ∧ ok x) (h : okT ti0 n t cs) :
  ∃ l : List α, cs = [rowsC enc l] ∧ l.length ≤ 9223372036854775807 ∧ ∀ x ∈ l, ok x := by
 cases n with
 | zero => cases h
 | succ n =>
  obtain ⟨i, h1, h2, h3, h4, h5, rfl⟩ := hi
  obtain ⟨i', hi', h⟩ := h
  rw [h1] at hi'
  obtain rfl := Option.some.inj hi'
  simp only [h2, h3, h4, h5] at h
  obtain ⟨rows, rfl, hl, hr⟩ := h
  have hm : maxLen = 9223372036854775807 := by decide
  rw [hm] at hl
  have key : ∀ rows : List (List AV), (∀ r ∈ rows, okT ti0 n i.elem r) → ∃ l : List α, rows = l.map enc ∧ ∀ x ∈ l, ok x := by
   intro rows
   induction rows with
   | nil => intro _; exact ⟨[], rfl, fun x h => by cases h⟩
   | cons r rows ih =>
    intro h
    obtain ⟨l, h1, h2⟩ := ih fun r hr => h r (List.mem_cons_of_mem _ hr)
    obtain ⟨x, hx, hox⟩ := hel n r (h r List.mem_cons_self)
    exact ⟨x :: l, by rw [h1, hx]; rfl, fun y hy => by rcases List.mem_cons.1 hy with rfl | hy; exact hox; exact h2 y hy⟩
  obtain ⟨l, rfl, h2⟩ := key rows hr
  exact ⟨l, by simp, by simpa using hl, h2⟩
theorem okT_str' {n : Nat} {cs : List AV} (h : okT ti0 n 9 cs) : ∃ s : ByteArray, cs = [.sc (.string s)] ∧ okS s := by
 cases n with
 | zero => cases h
 | succ n =>
  obtain ⟨i, hi, h⟩ := h
  obtain rfl := Option.some.inj (show some _ = some i from hi)
  have hm : maxLen = 9223372036854775807 := by decide
  obtain ⟨s, h1, h2⟩ := (show ∃ s : ByteArray, cs = [.sc (.string s)] ∧ s.size ≤ maxLen from h)
  exact ⟨s, h1, by rw [hm] at h2; exact h2⟩
theorem okT_int' {n : Nat} {cs : List AV} (h : okT ti0 n 3 cs) : ∃ z : Int, cs = [.sc (.int .i64 z)] ∧ okI z := by
 cases n with
 | zero => cases h
 | succ n =>
  obtain ⟨i, hi, h⟩ := h
  obtain rfl := Option.some.inj (show some _ = some i from hi)
  obtain ⟨z, h1, h2⟩ := (show ∃ z, cs = [.sc (.int .i64 z)] ∧ (Lit.int .i64 z).wf = true from h)
  refine ⟨z, h1, ?_⟩
  have hw' : IntKind.i64.min ≤ z ∧ z ≤ IntKind.i64.max := by simpa [Lit.wf] using h2
  have e1 : IntKind.i64.min = -9223372036854775808 := by decide
  have e2 : IntKind.i64.max = 9223372036854775807 := by decide
  rw [e1, e2] at hw'
  exact hw'
theorem okT_bool' {n : Nat} {cs : List AV} (h : okT ti0 n 4 cs) : ∃ b : Bool, cs = [.sc (.bool b)] := by
 cases n with
 | zero => cases h
 | succ n =>
  obtain ⟨i, hi, h⟩ := h
  obtain rfl := Option.some.inj (show some _ = some i from hi)
  exact h
theorem okT_byte' {n : Nat} {cs : List AV} (h : okT ti0 n 5 cs) : ∃ b : UInt8, cs = [.sc (.int .u8 b.toNat)] := by
 cases n with
 | zero => cases h
 | succ n =>
  obtain ⟨i, hi, h⟩ := h
  obtain rfl := Option.some.inj (show some _ = some i from hi)
  obtain ⟨z, rfl, hw⟩ := (show ∃ z, cs = [.sc (.int .u8 z)] ∧ (Lit.int .u8 z).wf = true from h)
  have hz : 0 ≤ z ∧ z < 256 := by
   have hw' : IntKind.u8.min ≤ z ∧ z ≤ IntKind.u8.max := by simpa [Lit.wf] using hw
   have e1 : IntKind.u8.min = 0 := by decide
   have e2 : IntKind.u8.max = 255 := by decide
   rw [e1, e2] at hw'
   omega
  refine ⟨UInt8.ofNat z.toNat, ?_⟩
  have : (UInt8.ofNat z.toNat).toNat = z.toNat := by simp [UInt8.toNat_ofNat']; omega
  rw [this, Int.toNat_of_nonneg hz.1]
theorem flat_one {α : Type} (e : α → AV) (l : List α) : (l.map fun x => [e x]).flatten = l.map e := by
 induction l with
 | nil => rfl
 | cons x l ih => rw [List.map_cons, List.flatten_cons, ih]; rfl
theorem okT_bytes' {n t : Nat} {cs : List AV} (hi : ∃ i, ti0 t = some i ∧ i.isB = false ∧ i.ik = none ∧ i.isStr = false ∧ i.sl = true ∧ i.elem = 5) (h : okT ti0 n t cs) : ∃ s : ByteArray, cs = [bytesC s] ∧ okS s := by
 obtain ⟨l, rfl, h1, _⟩ := okT_rows (α := UInt8) (enc := fun b => [.sc (.int .u8 b.toNat)]) (ok := fun _ => True) hi (fun n cs h => by obtain ⟨b, h⟩ := okT_byte' h; exact ⟨b, h, trivial⟩) h
 refine ⟨⟨l.toArray⟩, ?_, ?_⟩
 ·rw [rowsC, flat_one]
  simp [bytesC, bytesAV]
  rfl
 ·exact h1
theorem okT_ints' {n t : Nat} {cs : List AV} (hi : ∃ i, ti0 t = some i ∧ i.isB = false ∧ i.ik = none ∧ i.isStr = false ∧ i.sl = true ∧ i.elem = 3) (h : okT ti0 n t cs) : ∃ l : List Int, cs = [intsC l] ∧ l.length ≤ 9223372036854775807 ∧ ∀ z ∈ l, okI z := by
 obtain ⟨l, rfl, h1, h2⟩ := okT_rows (α := Int) (enc := fun z => [.sc (.int .i64 z)]) (ok := okI) hi (fun n cs h => okT_int' h) h
 exact ⟨l, by rw [rowsC, flat_one], h1, h2⟩
theorem okT_strs' {n t : Nat} {cs : List AV} (hi : ∃ i, ti0 t = some i ∧ i.isB = false ∧ i.ik = none ∧ i.isStr = false ∧ i.sl = true ∧ i.elem = 9) (h : okT ti0 n t cs) : ∃ l : List ByteArray, cs = [strsC l] ∧ l.length ≤ 9223372036854775807 ∧ ∀ s ∈ l, okS s := by
 obtain ⟨l, rfl, h1, h2⟩ := okT_rows (α := ByteArray) (enc := fun s => [.sc (.string s)]) (ok := okS) hi (fun n cs h => okT_str' h) h
 exact ⟨l, by rw [rowsC, flat_one], h1, h2⟩
theorem okT_struct {n t : Nat} {cs : List AV} {fs : List (Nat × Nat)} (hi : ∃ i, ti0 t = some i ∧ i.isB = false ∧ i.ik = none ∧ i.isStr = false ∧ i.sl = false ∧ i.isAgg = true ∧ i.fields = fs) (h : okT ti0 n t cs) : ∃ m, okFs (okT ti0 m) fs cs := by
 cases n with
 | zero => cases h
 | succ n =>
  obtain ⟨i, h1, h2, h3, h4, h5, h6, rfl⟩ := hi
  obtain ⟨i', hi', h⟩ := h
  rw [h1] at hi'
  obtain rfl := Option.some.inj hi'
  simp only [h2, h3, h4, h5, h6] at h
  exact ⟨n, h⟩
end Go.Proofs.YtejjggnchdldoaaDoor.Abs
set_option linter.unusedVariables false
set_option linter.unusedSimpArgs false
set_option maxRecDepth 100000
namespace Go.Proofs.YtejjggnchdldoaaDoor.Abs
open Go
theorem tyByteS : ∃ i j, ti0 23 = some i ∧ ti0 i.elem = some j ∧ j.size = 1 ∧ j.cty.length = 1 := ⟨_, _, rfl, rfl, rfl, rfl⟩
theorem eqF_ByteS (n : Nat) (hn : 1048576 < n) (tb : Nat) (s : ByteArray) (h : s.size ≤ 1048576) : tree E0 (n + 1) tb 33 [bytesC s, bytesC s] = some (.sc (.bool true)) := by
 have e : s.data.toList.length = s.size := by simp
 have h0 := eq_flat (n := n) (fun b : UInt8 => .int .u8 b.toNat) (fun x γ k => ne_u8 _ k) (fun k => f33_l0 (PR n AV) n k) (fun k m a b i H => rfl) (fun a b H k => f33_eq n a b H k) s.data.toList (by rw [e]; exact h) hn tb
 rw [e] at h0
 exact h0
theorem tyIntS : ∃ i j, ti0 22 = some i ∧ ti0 i.elem = some j ∧ j.size = 1 ∧ j.cty.length = 1 := ⟨_, _, rfl, rfl, rfl, rfl⟩
theorem toF_IntS (n : Nat) (hn : 1048576 < n) (s : List Int) (h : s.length ≤ 1048576) : tree E0 (n + 1) 22 6 [intsC s] = some (intsC s) :=
 to_flat (n := n) (bytes := 8) (fun z : Int => .int .i64 z) (.sc (.int .i64 0)) (fun _ => rfl) tyIntS (fun k => f6_l0 (PR n AV) n k) (fun k m a o i H => rfl) (fun a H k => f6_eq n a H k) (by decide) s h hn
theorem eqF_IntS (n : Nat) (hn : 1048576 < n) (tb : Nat) (s : List Int) (h : s.length ≤ 1048576) : tree E0 (n + 1) tb 8 [intsC s, intsC s] = some (.sc (.bool true)) :=
 eq_flat (n := n) (fun z : Int => .int .i64 z) (fun x γ k => ne_int _ k) (fun k => f8_l0 (PR n AV) n k) (fun k m a b i H => rfl) (fun a b H k => f8_eq n a b H k) s h hn tb
theorem tyStringS : ∃ i j, ti0 25 = some i ∧ ti0 i.elem = some j ∧ j.size = 1 ∧ j.cty.length = 1 := ⟨_, _, rfl, rfl, rfl, rfl⟩
theorem eqF_StringS (n : Nat) (hn : 1048576 < n) (tb : Nat) (s : List ByteArray) (h : s.length ≤ 1048576) : tree E0 (n + 1) tb 35 [strsC s, strsC s] = some (.sc (.bool true)) :=
 eq_flat (n := n) (fun s : ByteArray => .string s) (fun x γ k => ne_str _ k) (fun k => f35_l0 (PR n AV) n k) (fun k m a b i H => rfl) (fun a b H k => f35_eq n a b H k) s h hn tb
structure WantV where
 fFilter : ByteArray
 fQos : Int
def encWant (x : WantV) : List AV := .sc (.string x.fFilter) :: .sc (.int .i64 x.fQos) :: []
def wtWant (x : WantV) : Nat := x.fFilter.size + 0
def okWant (x : WantV) : Prop := okS x.fFilter ∧ okI x.fQos
theorem lenWant (x : WantV) : (encWant x).length = 2 := rfl
theorem flWant (x : WantV) : (encWant x).all isFl = true := rfl
def ctyWant : List Nat := [9, 3]
theorem tyWant : ∃ i, ti0 72 = some i ∧ i.cty = ctyWant := ⟨_, rfl, rfl⟩
theorem okWWant (d : Nat) (x : WantV) : okLW (okW ti0 E0.tp (d + 1)) ctyWant (encWant x) := ⟨trivial, ⟨trivial, trivial⟩⟩
theorem tyWantS : ∃ i j, ti0 24 = some i ∧ ti0 i.elem = some j ∧ j.size = 2 ∧ j.cty = ctyWant := ⟨_, _, rfl, rfl, rfl, rfl⟩
def zzWant : List AV := [(.sc (.string ⟨#[]⟩)), (.sc (.int .i64 0))]
theorem eqF_Want (n : Nat) (hn : 1048576 < n) (tb : Nat) (x : WantV) (h : wtWant x ≤ 1048576) : tree E0 (n + 1) tb 61 [.agg (encWant x), .agg (encWant x)] = some (.sc (.bool true)) := by
 rw [tree_def, f61_eq, f61]
 simp only [PR_box, PR_fadr, PR_load, PR_bin, PR_binB, PR_un, PR_cond]
 rw [box_fl _ _ _ (flWant x), box_fl _ _ _ (flWant x)]
 simp only [List.length_nil, List.nil_append, List.length_cons, List.cons_append, Nat.zero_add, Nat.reduceAdd]
 refine eq_sc (v := .string x.fFilter) rfl rfl (fun k => ne_str _ k) ?_
 refine eq_sc (v := .int .i64 x.fQos) rfl rfl (fun k => ne_int _ k) ?_
 rfl
theorem eqF_WantS (n : Nat) (hn : 1048576 < n) (tb : Nat) (l : List WantV) (h : wtL wtWant l ≤ 1048576) : tree E0 (n + 2) tb 34 [rowsC encWant l, rowsC encWant l] = some (.sc (.bool true)) := by
 have e := wtL_eq wtWant l
 exact eq_slice (n := n + 1) encWant lenWant (by decide) flWant rfl (fun k => f34_l0 (PR (n + 1) AV) (n + 1) k) (fun k m a b i H => rfl) (fun a b H k => f34_eq (n + 1) a b H k) l (fun x hx => eqF_Want n hn _ x (by have := wtS_mem (wt := wtWant) hx; omega)) (by omega) (by omega) tb
structure PacketV where
 fType : Int
 fDup : Bool
 fQos : Int
 fRetain : Bool
 fId : Int
 fTopic : ByteArray
 fBody : ByteArray
 fClient : ByteArray
 fLevel : Int
 fClean : Bool
 fKeep : Int
 fHasWill : Bool
 fWTopic : ByteArray
 fWBody : ByteArray
 fWQos : Int
 fWRetain : Bool
 fHasUser : Bool
 fUser : ByteArray
 fHasPass : Bool
 fPass : ByteArray
 fCode : Int
 fPresent : Bool
 fWants : List WantV
 fNames : List ByteArray
 fCodes : List Int
def encPacket (x : PacketV) : List AV := .sc (.int .i64 x.fType) :: .sc (.bool x.fDup) :: .sc (.int .i64 x.fQos) :: .sc (.bool x.fRetain) :: .sc (.int .i64 x.fId) :: .sc (.string x.fTopic) :: bytesC x.fBody :: .sc (.string x.fClient) :: .sc (.int .i64 x.fLevel) :: .sc (.bool x.fClean) :: .sc (.int .i64 x.fKeep) :: .sc (.bool x.fHasWill) :: .sc (.string x.fWTopic) :: bytesC x.fWBody :: .sc (.int .i64 x.fWQos) :: .sc (.bool x.fWRetain) :: .sc (.bool x.fHasUser) :: .sc (.string x.fUser) :: .sc (.bool x.fHasPass) :: bytesC x.fPass :: .sc (.int .i64 x.fCode) :: .sc (.bool x.fPresent) :: rowsC encWant x.fWants :: strsC x.fNames :: intsC x.fCodes :: []
def wtPacket (x : PacketV) : Nat := x.fTopic.size + (x.fBody.size + (x.fClient.size + (x.fWTopic.size + (x.fWBody.size + (x.fUser.size + (x.fPass.size + (wtL wtWant x.fWants + (wtL ByteArray.size x.fNames + (x.fCodes.length + 0)))))))))
def okPacket (x : PacketV) : Prop := okI x.fType ∧ True ∧ okI x.fQos ∧ True ∧ okI x.fId ∧ okS x.fTopic ∧ okS x.fBody ∧ okS x.fClient ∧ okI x.fLevel ∧ True ∧ okI x.fKeep ∧ True ∧ okS x.fWTopic ∧ okS x.fWBody ∧ okI x.fWQos ∧ True ∧ True ∧ okS x.fUser ∧ True ∧ okS x.fPass ∧ okI x.fCode ∧ True ∧ (x.fWants.length ≤ 9223372036854775807 ∧ ∀ z ∈ x.fWants, okWant z) ∧ (x.fNames.length ≤ 9223372036854775807 ∧ ∀ z ∈ x.fNames, okS z) ∧ (x.fCodes.length ≤ 9223372036854775807 ∧ ∀ z ∈ x.fCodes, okI z)
theorem lenPacket (x : PacketV) : (encPacket x).length = 25 := rfl
theorem flPacket (x : PacketV) : (encPacket x).all isFl = true := rfl
def ctyPacket : List Nat := [3, 4, 3, 4, 3, 9, 23, 9, 3, 4, 3, 4, 9, 23, 3, 4, 4, 9, 4, 23, 3, 4, 24, 25, 22]
theorem tyPacket : ∃ i, ti0 27 = some i ∧ i.cty = ctyPacket := ⟨_, rfl, rfl⟩
theorem okWPacket (d : Nat) (x : PacketV) : okLW (okW ti0 E0.tp (d + 2)) ctyPacket (encPacket x) := ⟨trivial, ⟨trivial, ⟨trivial, ⟨trivial, ⟨trivial, ⟨trivial, ⟨okW_bytes (d := d + 0) tyByteS x.fBody, ⟨trivial, ⟨trivial, ⟨trivial, ⟨trivial, ⟨trivial, ⟨trivial, ⟨okW_bytes (d := d + 0) tyByteS x.fWBody, ⟨trivial, ⟨trivial, ⟨trivial, ⟨trivial, ⟨trivial, ⟨okW_bytes (d := d + 0) tyByteS x.fPass, ⟨trivial, ⟨trivial, ⟨okW_rows (d := d + 1) lenWant tyWantS (okWWant (d + 0)) x.fWants, ⟨okW_flat (d := d + 0) (fun s : ByteArray => .string s) tyStringS x.fNames, ⟨okW_flat (d := d + 0) (fun z : Int => .int .i64 z) tyIntS x.fCodes, trivial⟩⟩⟩⟩⟩⟩⟩⟩⟩⟩⟩⟩⟩⟩⟩⟩⟩⟩⟩⟩⟩⟩⟩⟩⟩
def zzPacket : List AV := [(.sc (.int .i64 0)), (.sc (.bool false)), (.sc (.int .i64 0)), (.sc (.bool false)), (.sc (.int .i64 0)), (.sc (.string ⟨#[]⟩)), .nl, (.sc (.string ⟨#[]⟩)), (.sc (.int .i64 0)), (.sc (.bool false)), (.sc (.int .i64 0)), (.sc (.bool false)), (.sc (.string ⟨#[]⟩)), .nl, (.sc (.int .i64 0)), (.sc (.bool false)), (.sc (.bool false)), (.sc (.string ⟨#[]⟩)), (.sc (.bool false)), .nl, (.sc (.int .i64 0)), (.sc (.bool false)), .nl, .nl, .nl]
theorem eqF_Packet (n : Nat) (hn : 1048576 < n) (tb : Nat) (x : PacketV) (h : wtPacket x ≤ 1048576) : tree E0 (n + 3) tb 9 [.agg (encPacket x), .agg (encPacket x)] = some (.sc (.bool true)) := by
 rw [tree_def, f9_eq, f9]
 simp only [PR_box, PR_fadr, PR_load, PR_bin, PR_binB, PR_un, PR_cond]
 rw [box_fl _ _ _ (flPacket x), box_fl _ _ _ (flPacket x)]
 simp only [List.length_nil, List.nil_append, List.length_cons, List.cons_append, Nat.zero_add, Nat.reduceAdd]
 refine eq_sc (v := .int .i64 x.fType) rfl rfl (fun k => ne_int _ k) ?_
 refine eq_b (b := x.fDup) rfl rfl ?_
 refine eq_sc (v := .int .i64 x.fQos) rfl rfl (fun k => ne_int _ k) ?_
 refine eq_b (b := x.fRetain) rfl rfl ?_
 refine eq_sc (v := .int .i64 x.fId) rfl rfl (fun k => ne_int _ k) ?_
 refine eq_sc (v := .string x.fTopic) rfl rfl (fun k => ne_str _ k) ?_
 refine eq_ro rfl rfl rfl (eqF_ByteS (n + 1) (by omega) _ x.fBody (by unfold wtPacket at h; omega)) ?_
 refine eq_sc (v := .string x.fClient) rfl rfl (fun k => ne_str _ k) ?_
 refine eq_sc (v := .int .i64 x.fLevel) rfl rfl (fun k => ne_int _ k) ?_
 refine eq_b (b := x.fClean) rfl rfl ?_
 refine eq_sc (v := .int .i64 x.fKeep) rfl rfl (fun k => ne_int _ k) ?_
 refine eq_b (b := x.fHasWill) rfl rfl ?_
 refine eq_sc (v := .string x.fWTopic) rfl rfl (fun k => ne_str _ k) ?_
 refine eq_ro rfl rfl rfl (eqF_ByteS (n + 1) (by omega) _ x.fWBody (by unfold wtPacket at h; omega)) ?_
 refine eq_sc (v := .int .i64 x.fWQos) rfl rfl (fun k => ne_int _ k) ?_
 refine eq_b (b := x.fWRetain) rfl rfl ?_
 refine eq_b (b := x.fHasUser) rfl rfl ?_
 refine eq_sc (v := .string x.fUser) rfl rfl (fun k => ne_str _ k) ?_
 refine eq_b (b := x.fHasPass) rfl rfl ?_
 refine eq_ro rfl rfl rfl (eqF_ByteS (n + 1) (by omega) _ x.fPass (by unfold wtPacket at h; omega)) ?_
 refine eq_sc (v := .int .i64 x.fCode) rfl rfl (fun k => ne_int _ k) ?_
 refine eq_b (b := x.fPresent) rfl rfl ?_
 refine eq_ro rfl rfl rfl (eqF_WantS (n + 0) (by omega) _ x.fWants (by unfold wtPacket at h; omega)) ?_
 refine eq_ro rfl rfl rfl (eqF_StringS (n + 1) (by omega) _ x.fNames (by unfold wtPacket at h; have := wtL_eq ByteArray.size x.fNames; omega)) ?_
 refine eq_ro rfl rfl rfl (eqF_IntS (n + 1) (by omega) _ x.fCodes (by unfold wtPacket at h; omega)) ?_
 rfl
end Go.Proofs.YtejjggnchdldoaaDoor.Abs
set_option linter.unusedVariables false
set_option linter.unusedSimpArgs false
namespace Go.Proofs.YtejjggnchdldoaaDoor.Abs
open Go
variable {β : Type} {n : Nat} {H : Heap} {r : Option β}
theorem vnil : ([] : List AV).mapM (viewV H 8) = some [] := rfl
theorem vcons {x v : AV} {xs vs : List AV} (h : Vw H x v) (hs : xs.mapM (viewV H 8) = some vs) : (x :: xs).mapM (viewV H 8) = some (v :: vs) := by
 simp only [List.mapM_cons, h.now, hs, Option.pure_def, Option.bind_eq_bind, Option.bind_some]
theorem blk_grow {i : Nat} {b : Blk} (h : H[i]? = some b) (X : List Blk) : (H ++ X)[i]? = some b := by
 rw [List.getElem?_append_left (List.getElem?_eq_some_iff.1 h).1]
 exact h
theorem lw_box {cs : List AV} {K : AV → Heap → Option β} (hf : cs.all isFl = true) (h : ∀ i, (H ++ [⟨cs, true, true⟩])[i]? = some ⟨cs, true, true⟩ → K (.ptr i 0) (H ++ [⟨cs, true, true⟩]) = r) : pBox (.agg cs) H (fun x H => K x H) = r := by
 rw [box_fl cs H _ hf]
 exact h _ (by rw [List.getElem?_append_right (Nat.le_refl _), Nat.sub_self]; rfl)
theorem lw_ld {i w : Nat} {cs : List AV} {K : AV → Option β} (hi : H[i]? = some ⟨cs, true, true⟩) (hw : cs.length = w) (h : K (.agg cs) = r) : pLoad true w (.ptr i 0) H (fun x => K x) = r := by
 have e : rdCells H i 0 w = some cs := by
  simp only [rdCells, hi, if_true, List.drop_zero, Nat.zero_add, ← hw, Nat.le_refl, List.take_length]
 rw [ldT e]
 exact h
theorem lw_sc {ty f : Nat} {args vs : List AV} {v : Value} {K : AV → Heap → Option β} (hh : plainF f = false) (hv : args.mapM (viewV H 8) = some vs) (ht : tree E0 n ty f vs = some (.sc v)) (h : K (.sc v) H = r) : (PR n β).call ty (.fn f [] []) args H (fun x H => K x H) = r := by
 rw [PR_call hh hv ht, instT_sc, List.append_nil]
 exact h
theorem lw_tree {ty f : Nat} {args vs : List AV} {t : AV} {K : AV → Heap → Option β} (hh : plainF f = false) (hv : args.mapM (viewV H 8) = some vs) (ht : tree E0 n ty f vs = some t) (hok : okW ti0 E0.tp 8 ty t) (h : ∀ X y, Vw (H ++ X) y t → K y (H ++ X) = r) : (PR n β).call ty (.fn f [] []) args H (fun x H => K x H) = r := by
 rw [PR_call hh hv ht]
 exact h _ _ (Vw_inst H ty t hok)
theorem lw_agg {ty f : Nat} {args vs cs : List AV} {K : AV → Heap → Option β} (hh : plainF f = false) (hv : args.mapM (viewV H 8) = some vs) (ht : tree E0 n ty f vs = some (.agg cs)) (hf : cs.all isFl = true) (hok : okW ti0 E0.tp 8 ty (.agg cs)) (h : ∀ X (ys : List AV), ys.length = cs.length → ys.all isLeaf = true → Vw (H ++ X) (.agg ys) (.agg cs) → K (.agg ys) (H ++ X) = r) : (PR n β).call ty (.fn f [] []) args H (fun x H => K x H) = r := by
 rw [PR_call hh hv ht, instT_agg]
 refine h _ _ (instL_len _ _ _) (instL_leaf _ _ _ hf) ?_
 have := Vw_inst H ty (.agg cs) hok
 rwa [instT_agg] at this
theorem lw_put {w : Nat} {z ys : List AV} {K : AV → Heap → Option β} (hz : z.length = w) (hy : ys.length = w) (hl : ys.all isLeaf = true) (h : ∀ i, (H ++ [⟨ys, true, true⟩])[i]? = some ⟨ys, true, true⟩ → K (.ptr i 0) (H ++ [⟨ys, true, true⟩]) = r) :
  pNew z H (fun t H => pStore w t (.agg ys) H fun H => K t H) = r := by
 have hg : (H ++ [(⟨z, true, true⟩ : Blk)])[H.length]? = some ⟨z, true, true⟩ := by rw [List.getElem?_append_right (Nat.le_refl _), Nat.sub_self]; rfl
 have hc : cellsA (.agg ys) = some ys := by
  show (if ys.all isLeaf then some ys else none) = _
  rw [if_pos hl]
 show pStore w (.ptr H.length 0) (.agg ys) (H ++ [⟨z, true, true⟩]) _ = r
 rw [st_at w H.length 0 _ ⟨z, true, true⟩ ys _ _ hg hc hy (by rw [hz]; omega) rfl]
 have hs : splice z 0 ys = ys := by
  unfold splice
  rw [List.take_zero, List.nil_append, List.drop_of_length_le (by rw [hz, hy]; omega), List.append_nil]
 have e : (H ++ [(⟨z, true, true⟩ : Blk)]).set H.length ⟨ys, true, true⟩ = H ++ [⟨ys, true, true⟩] := by
  rw [List.set_append_right _ _ (Nat.le_refl _), Nat.sub_self]
  rfl
 simp only [hs, e]
 exact h _ (by rw [List.getElem?_append_right (Nat.le_refl _), Nat.sub_self]; rfl)
theorem lw_sz {ty f W : Nat} {args vs : List AV} {left : Int} {A : Heap → Option β} {K : AV → Heap → Option β} (hh : plainF f = false) (hv : args.mapM (viewV H 8) = some vs) (ht : tree E0 n ty f vs = some (.sc (.int .i64 (szR W left)))) (h0 : 0 ≤ left) (hA : A H = r) (h : (W : Int) ≤ left → K (.sc (.int .i64 (left - W))) H = r) :
  (PR n β).call ty (.fn f [] []) args H (fun t H => pBin .lss t (.sc (.int .i64 0)) fun t' => pCond t' (A H) (K t H)) = r := by
 rw [PR_call hh hv ht, instT_sc, List.append_nil]
 simp only
 rw [lss64, cond_b]
 by_cases hw : left < W
 ·have e : szR W left = -1 := by rw [szR, if_pos hw]
  rw [e, if_pos (by decide)]
  exact hA
 ·have e : szR W left = left - W := by rw [szR, if_neg hw]
  rw [e, if_neg (by simpa using (show ¬ left - (W : Int) < 0 by omega))]
  exact h (by omega)
theorem lw_str {s : ByteArray} {A K : Option β} (hA : A = r) (h : s.size ≤ 1048576 → K = r) : (pLenS (.sc (.string s)) fun t => pBin .gtr t (.sc (.int .i64 1048576)) fun t' => pCond t' A K) = r := by
 simp only [pLenS, asS, Option.bind_some]
 show pCond (.sc (.bool (decide ((s.size : Int) > 1048576)))) A K = r
 rw [cond_b]
 by_cases hs : s.size ≤ 1048576
 ·rw [if_neg (by simp; omega)]
  exact h hs
 ·rw [if_pos (by simp; omega)]
  exact hA
theorem lw_neb {b : Bool} {A K : Option β} (h : K = r) : (pBinB .neq (.sc (.bool b)) (.sc (.bool b)) fun t => pCond t A K) = r := by
 simp only [pBinB, asB, Option.bind_some, binB, beq_self_eq_true, Bool.not_true]
 exact h
theorem lw_nei {z : Int} {A K : Option β} (h : K = r) : (pBin .neq (.sc (.int .i64 z)) (.sc (.int .i64 z)) fun t => pCond t A K) = r := by
 rw [ne_int, cond_b]
 exact h
theorem lw_eq {ty f : Nat} {args vs : List AV} {A : Heap → Option β} {K : Heap → Option β} (hh : plainF f = false) (hv : args.mapM (viewV H 8) = some vs) (ht : tree E0 n ty f vs = some (.sc (.bool true))) (h : K H = r) : (PR n β).call ty (.fn f [] []) args H (fun t H => pUn .not t fun t' => pCond t' (A H) (K H)) = r := by
 rw [PR_call hh hv ht, instT_sc, List.append_nil]
 exact h
theorem eql64 (a b : Int) (k : AV → Option β) : pBin .eql (.sc (.int .i64 a)) (.sc (.int .i64 b)) k = k (.sc (.bool (a == b))) := rfl
theorem neq64 (a b : Int) (k : AV → Option β) : pBin .neq (.sc (.int .i64 a)) (.sc (.int .i64 b)) k = k (.sc (.bool (a != b))) := rfl
theorem leq64 (a b : Int) (k : AV → Option β) : pBin .leq (.sc (.int .i64 a)) (.sc (.int .i64 b)) k = k (.sc (.bool (decide (a ≤ b)))) := rfl
theorem gtr64 (a b : Int) (k : AV → Option β) : pBin .gtr (.sc (.int .i64 a)) (.sc (.int .i64 b)) k = k (.sc (.bool (decide (a > b)))) := rfl
theorem geq64 (a b : Int) (k : AV → Option β) : pBin .geq (.sc (.int .i64 a)) (.sc (.int .i64 b)) k = k (.sc (.bool (decide (a ≥ b)))) := rfl
theorem add64 (a b : Int) (k : AV → Option β) : pBin .add (.sc (.int .i64 a)) (.sc (.int .i64 b)) k = k (.sc (.int .i64 (IntKind.i64.wrap (a + b)))) := rfl
theorem sub64w (a b : Int) (k : AV → Option β) : pBin .sub (.sc (.int .i64 a)) (.sc (.int .i64 b)) k = k (.sc (.int .i64 (IntKind.i64.wrap (a - b)))) := rfl
theorem mul64 (a b : Int) (k : AV → Option β) : pBin .mul (.sc (.int .i64 a)) (.sc (.int .i64 b)) k = k (.sc (.int .i64 (IntKind.i64.wrap (a * b)))) := rfl
theorem eqlS (a b : ByteArray) (k : AV → Option β) : pBin .eql (.sc (.string a)) (.sc (.string b)) k = k (.sc (.bool (a.toList == b.toList))) := rfl
theorem neqS (a b : ByteArray) (k : AV → Option β) : pBin .neq (.sc (.string a)) (.sc (.string b)) k = k (.sc (.bool (!(a.toList == b.toList)))) := rfl
theorem eqlB (a b : Bool) (k : AV → Option β) : pBinB .eql (.sc (.bool a)) (.sc (.bool b)) k = k (.sc (.bool (a == b))) := rfl
theorem neqB (a b : Bool) (k : AV → Option β) : pBinB .neq (.sc (.bool a)) (.sc (.bool b)) k = k (.sc (.bool (!(a == b)))) := rfl
theorem notB (a : Bool) (k : AV → Option β) : pUn .not (.sc (.bool a)) k = k (.sc (.bool (!a))) := rfl
theorem gdT (m : (AV → Heap → Option β) → Option β) (k : AV → Heap → Option β) : pGuard (.sc (.bool true)) true H m k = m k := rfl
theorem gdF (m : (AV → Heap → Option β) → Option β) (k : AV → Heap → Option β) : pGuard (.sc (.bool false)) true H m k = k (.sc undef) H := rfl
theorem gfT (m : (AV → Heap → Option β) → Option β) (k : AV → Heap → Option β) : pGuard (.sc (.bool true)) false H m k = k (.sc undef) H := rfl
theorem gfF (m : (AV → Heap → Option β) → Option β) (k : AV → Heap → Option β) : pGuard (.sc (.bool false)) false H m k = m k := rfl
theorem pkT (a b : Value) (k : AV → Option β) : pPick (.sc (.bool true)) (.sc a) (.sc b) k = k (.sc a) := rfl
theorem pkF (a b : Value) (k : AV → Option β) : pPick (.sc (.bool false)) (.sc a) (.sc b) k = k (.sc b) := rfl
theorem fadr_p (o id off : Nat) (k : AV → Option β) : pFadr o (.ptr id off) k = k (.ptr id (off + o)) := rfl
theorem lenSc (s : ByteArray) (k : AV → Option β) : pLenS (.sc (.string s)) k = k (.sc (.int .i64 s.size)) := rfl
theorem own_v (ty : Nat) (H : Heap) (v : Value) : ownTree ti0 E0.tp ty H (.sc v) = some (.sc v) := rfl
theorem okW_agg {ty : Nat} {cty : List Nat} {cs : List AV} (hty : ∃ i, ti0 ty = some i ∧ i.cty = cty) (h : okLW (okW ti0 E0.tp 7) cty cs) : okW ti0 E0.tp 8 ty (.agg cs) := by
 obtain ⟨i, hi, rfl⟩ := hty
 exact ⟨i, hi, h⟩
end Go.Proofs.YtejjggnchdldoaaDoor.Abs
set_option linter.unusedVariables false
set_option linter.unusedSimpArgs false
namespace Go.Proofs.YtejjggnchdldoaaDoor.Abs
open Go
section
variable {β : Type} {n : Nat} {H : Heap} {r : Option β} {K : AV → Option β} {KH : AV → Heap → Option β}
theorem w_box {cs : List AV} (hf : cs.all isFl = true) (h : ∀ i, i = H.length → (H ++ [⟨cs, true, true⟩])[i]? = some ⟨cs, true, true⟩ → KH (.ptr i 0) (H ++ [⟨cs, true, true⟩]) = r) : pBox (.agg cs) H (fun x H => KH x H) = r := by
 rw [box_fl cs H _ hf]
 exact h _ rfl (by rw [List.getElem?_append_right (Nat.le_refl _), Nat.sub_self]; rfl)
theorem w_new {cs : List AV} (h : ∀ i, i = H.length → (H ++ [⟨cs, true, true⟩])[i]? = some ⟨cs, true, true⟩ → KH (.ptr i 0) (H ++ [⟨cs, true, true⟩]) = r) : pNew cs H (fun x H => KH x H) = r :=
 h _ rfl (by rw [List.getElem?_append_right (Nat.le_refl _), Nat.sub_self]; rfl)
theorem w_newSl {len sz : Nat} {cs : List AV} (h : ∀ i, i = H.length → (H ++ [⟨cs, true, true⟩])[i]? = some ⟨cs, true, true⟩ → KH (.sl i 0 len sz) (H ++ [⟨cs, true, true⟩]) = r) : pNewSl len sz cs true H (fun x H => KH x H) = r :=
 h _ rfl (by rw [List.getElem?_append_right (Nat.le_refl _), Nat.sub_self]; rfl)
theorem w_fill {zs cs : List AV} {ps : List (Nat × Nat × AV)} {KL : List AV → Option β} (hf : fillA zs ps = some cs) (h : KL cs = r) : ((fillA zs ps).bind fun c => KL c) = r := by
 rw [hf]
 exact h
theorem w_fadr {o id off : Nat} (h : K (.ptr id (off + o)) = r) : pFadr o (.ptr id off) (fun x => K x) = r := h
theorem w_fadr_rp {o : Nat} {cells : List AV} (h : K (.rp (cells.drop o)) = r) : pFadr o (.rp cells) (fun x => K x) = r := h
theorem w_ld {i off : Nat} {cs : List AV} {c : AV} (hi : H[i]? = some ⟨cs, true, true⟩) (hl : off < cs.length) (hc : (cs.drop off).take 1 = [c]) (h : K c = r) : pLoad false 1 (.ptr i off) H (fun x => K x) = r := by
 have e : rdCells H i off 1 = some [c] := by
  simp only [rdCells, hi, if_true]
  rw [if_pos (by omega), hc]
 rw [ldF e]
 exact h
theorem w_ldA {i off w : Nat} {cs ds : List AV} (hi : H[i]? = some ⟨cs, true, true⟩) (hl : off + w ≤ cs.length) (hc : (cs.drop off).take w = ds) (h : K (.agg ds) = r) : pLoad true w (.ptr i off) H (fun x => K x) = r := by
 have e : rdCells H i off w = some ds := by
  simp only [rdCells, hi, if_true]
  rw [if_pos hl, hc]
 rw [ldT e]
 exact h
theorem w_ld_rp {cells : List AV} {c : AV} (hc : cells.take 1 = [c]) (h : K c = r) : pLoad false 1 (.rp cells) H (fun x => K x) = r := by
 cases cells with
 | nil => cases hc
 | cons x xs =>
  obtain rfl : x = c := by simpa using hc
  rw [ld1_rp]
  exact h
theorem w_ldA_rp {w : Nat} {cells ds : List AV} (hl : w ≤ cells.length) (hc : cells.take w = ds) (h : K (.agg ds) = r) : pLoad true w (.rp cells) H (fun x => K x) = r := by
 simp only [pLoad, hl, if_true, hc]
 exact h
theorem w_bin {op : BinOp} {x y v : AV} (e : ∀ k : AV → Option β, pBin op x y k = k v) (h : K v = r) : pBin op x y (fun t => K t) = r := (e _).trans h
theorem w_binB {op : BinOp} {x y v : AV} (e : ∀ k : AV → Option β, pBinB op x y k = k v) (h : K v = r) : pBinB op x y (fun t => K t) = r := (e _).trans h
theorem w_binA {op : BinOp} {qs : List Nat} {x y v : AV} (e : ∀ k : AV → Option β, pBinA op qs x y k = k v) (h : K v = r) : pBinA op qs x y (fun t => K t) = r := (e _).trans h
theorem w_not {b : Bool} (h : K (.sc (.bool (!b))) = r) : pUn .not (.sc (.bool b)) (fun t => K t) = r := h
theorem w_lenS {s : ByteArray} (h : K (.sc (.int .i64 s.size)) = r) : pLenS (.sc (.string s)) (fun t => K t) = r := h
theorem w_len {m : Nat} {cs : List AV} (h : K (.sc (.int .i64 m)) = r) : pLen (.ro m cs) (fun t => K t) = r := h
theorem w_split {g : Prop} (b : Bool) (ht : b = true → g) (hf : b = false → g) : g := by
 cases h : b
 ·exact hf h
 ·exact ht h
theorem w_cT {b : Bool} {x y : Option β} (hb : b = true) (h : x = r) : pCond (.sc (.bool b)) x y = r := by subst hb; exact h
theorem w_cF {b : Bool} {x y : Option β} (hb : b = false) (h : y = r) : pCond (.sc (.bool b)) x y = r := by subst hb; exact h
theorem w_gT {b : Bool} {m : (AV → Heap → Option β) → Option β} (hb : b = true) (h : m (fun x H => KH x H) = r) : pGuard (.sc (.bool b)) true H m (fun x H => KH x H) = r := by subst hb; exact h
theorem w_gF {b : Bool} {m : (AV → Heap → Option β) → Option β} (hb : b = false) (h : KH (.sc undef) H = r) : pGuard (.sc (.bool b)) true H m (fun x H => KH x H) = r := by subst hb; exact h
theorem w_hT {b : Bool} {m : (AV → Heap → Option β) → Option β} (hb : b = false) (h : m (fun x H => KH x H) = r) : pGuard (.sc (.bool b)) false H m (fun x H => KH x H) = r := by subst hb; exact h
theorem w_hF {b : Bool} {m : (AV → Heap → Option β) → Option β} (hb : b = true) (h : KH (.sc undef) H = r) : pGuard (.sc (.bool b)) false H m (fun x H => KH x H) = r := by subst hb; exact h
theorem w_u {t : Bool} {m : (AV → Heap → Option β) → Option β} (h : KH (.sc undef) H = r) : pGuard (.sc undef) t H m (fun x H => KH x H) = r := h
theorem w_pT {b : Bool} {x y : AV} (hb : b = true) (h : K x = r) : pPick (.sc (.bool b)) x y (fun t => K t) = r := by
 subst hb
 cases x <;> cases y <;> exact h
theorem w_pF {b : Bool} {x y : AV} (hb : b = false) (h : K y = r) : pPick (.sc (.bool b)) x y (fun t => K t) = r := by
 subst hb
 cases x <;> cases y <;> exact h
def all2 {α : Type} (p : α → α → Bool) : List α → List α → Bool
 | x :: a, y :: b => if p x y then all2 p a b else false
 | _, _ => true
theorem eqv_loop {α : Type} {w : Nat} (enc : α → List AV) (hw : ∀ x, (enc x).length = w) (h0 : 0 < w) (pk : α → AV) (LOAD : AV → (AV → Option β) → Option β) (hld : ∀ x rest k, LOAD (.rp (enc x ++ rest)) k = k (pk x)) (NE : AV → AV → (AV → Option β) → Option β) (pr : α → α → Bool) (hne : ∀ x y k, NE (pk x) (pk y) k = k (.sc (.bool (!(pr x y)))))
  (l q : List α) (hlq : l.length = q.length) (hlen : l.length ≤ 1048576) (L : Nat → AV → Option β) (KF KT : Option β)
  (hL : ∀ m i, L (m + 1) i = pBin .lss i (.sc (.int .i64 l.length)) fun t14 => pCond t14 (pIadr w (rowsC enc l) i fun t19 => LOAD t19 fun t20 => pIadr w (rowsC enc q) i fun t23 => LOAD t23 fun t24 => NE t20 t24 fun t25 => pCond t25 KF (pBin .add i (.sc (.int .i64 1)) fun t16 => L m t16)) KT) :
  ∀ (s t pl pq : List α) (m : Nat), l = pl ++ s → q = pq ++ t → pl.length = pq.length → s.length < m → L m (.sc (.int .i64 pl.length)) = if all2 pr s t then KT else KF
 | [], t, pl, pq, m + 1, hl, hq, hpp, hm => by
  rw [List.append_nil] at hl
  subst hl
  rw [hL, lss_nat, cond_b]
  cases t <;> simp [all2]
 | x :: s, [], pl, pq, m + 1, hl, hq, hpp, hm => by
  have h1 := congrArg List.length hl
  have h2 := congrArg List.length hq
  simp only [List.length_append, List.length_cons, List.length_nil] at h1 h2
  omega
 | x :: s, y :: t, pl, pq, m + 1, hl, hq, hpp, hm => by
  have hlt : pl.length < l.length := by rw [hl]; simp
  rw [hL, lss_nat, cond_b, if_pos (by simpa using hlt)]
  have hel := fun k => el_ro (β := β) hw h0 pl x s k
  rw [← hl] at hel
  have heq := fun k => el_ro (β := β) hw h0 pq y t k
  rw [← hq, ← hpp] at heq
  rw [hel, hld, heq, hld, hne, cond_b, all2]
  cases hpx : pr x y
  ·simp
  ·simp only [Bool.not_true, Bool.false_eq_true, if_false, if_true]
   rw [inc_nat _ _ (by omega)]
   have ih := eqv_loop enc hw h0 pk LOAD hld NE pr hne l q hlq hlen L KF KT hL s t (pl ++ [x]) (pq ++ [y]) m (by rw [hl]; simp) (by rw [hq]; simp) (by simp [hpp]) (by simpa using hm)
   rw [List.length_append, List.length_singleton] at ih
   exact ih
def encI (z : Int) : List AV := [.sc (.int .i64 z)]
def encS (s : ByteArray) : List AV := [.sc (.string s)]
theorem ints_rows (l : List Int) : intsC l = rowsC encI l := by
 rw [rowsC, show (encI) = fun z => [AV.sc (.int .i64 z)] from rfl, flat_one]
theorem strs_rows (l : List ByteArray) : strsC l = rowsC encS l := by
 rw [rowsC, show (encS) = fun z => [AV.sc (.string z)] from rfl, flat_one]
theorem ldI (z : Int) (rest : List AV) (H : Heap) (k : AV → Option β) : pLoad false 1 (.rp (encI z ++ rest)) H k = k (.sc (.int .i64 z)) := ld1_rp _ _ _ _
theorem ldS (z : ByteArray) (rest : List AV) (H : Heap) (k : AV → Option β) : pLoad false 1 (.rp (encS z ++ rest)) H k = k (.sc (.string z)) := ld1_rp _ _ _ _
def eqI (x y : Int) : Bool := x == y
def eqSt (x y : ByteArray) : Bool := x.toList == y.toList
def eqList {α : Type} (p : α → α → Bool) (a b : List α) : Bool := if a.length = b.length then all2 p a b else false
theorem neI (x y : Int) (k : AV → Option β) : pBin .neq (.sc (.int .i64 x)) (.sc (.int .i64 y)) k = k (.sc (.bool (!(eqI x y)))) := rfl
theorem neS (x y : ByteArray) (k : AV → Option β) : pBin .neq (.sc (.string x)) (.sc (.string y)) k = k (.sc (.bool (!(eqSt x y)))) := rfl
theorem binA_ne (qs : List Nat) (cs ds : List AV) (b : Bool) (h : eqCells qs cs ds = some b) (k : AV → Option β) : pBinA .neq qs (.agg cs) (.agg ds) k = k (.sc (.bool (!b))) := by
 simp only [pBinA, h, Option.bind_some]
theorem w_merge {X : Option β} (e : Bool) {K : Bool → Option β} (h1 : ∀ b, b = e → X = K b) (h2 : ∀ b, b = e → K b = r) : X = r := (h1 e rfl).trans (h2 e rfl)
theorem w_pTb {c v b : Bool} {y : AV} (hc : c = true) (hv : v = b) (h : K (.sc (.bool b)) = r) : pPick (.sc (.bool c)) (.sc (.bool v)) y (fun t => K t) = r := by
 subst hc
 subst hv
 cases y <;> exact h
theorem w_pFb {c v b : Bool} {x : AV} (hc : c = false) (hv : v = b) (h : K (.sc (.bool b)) = r) : pPick (.sc (.bool c)) x (.sc (.bool v)) (fun t => K t) = r := by
 subst hc
 subst hv
 cases x <;> exact h
theorem mAT {b c v : Bool} (hb : b = (c && v)) (h : c = true) : v = b := by rw [hb, h]; rfl
theorem mAF {b c v : Bool} (hb : b = (c && v)) (h : c = false) : false = b := by rw [hb, h]; rfl
theorem mOT {b c v : Bool} (hb : b = (c || v)) (h : c = true) : true = b := by rw [hb, h]; rfl
theorem mOF {b c v : Bool} (hb : b = (c || v)) (h : c = false) : v = b := by rw [hb, h]; rfl
theorem w_letJ {α : Sort _} {γ : Type} {x : α} {f : α → Option γ} {r : Option γ} (h : f x = r) : letJ x f = r := h
theorem w_endB {ty : Nat} {b b' : Bool} (h : b = b') : ownTree ti0 E0.tp ty H (.sc (.bool b)) = some (.sc (.bool b')) := by subst h; rfl
theorem w_endI {ty : Nat} {b b' : Int} (h : b = b') : ownTree ti0 E0.tp ty H (.sc (.int .i64 b)) = some (.sc (.int .i64 b')) := by subst h; rfl
theorem w_iadr0 {α : Type} {w : Nat} {enc : α → List AV} {l : List α} (hw : ∀ x, (enc x).length = w) (h0 : 0 < w) (hl : 0 < l.length) (h : ∀ x t, l = x :: t → K (.rp (enc x ++ (t.map enc).flatten)) = r) : pIadr w (rowsC enc l) (.sc (.int .i64 0)) (fun t => K t) = r := by
 cases l with
 | nil => simp at hl
 | cons x t =>
  have := el_ro (β := β) hw h0 [] x t (fun t => K t)
  simp only [List.nil_append, List.length_nil, Int.natCast_zero] at this
  rw [this]
  exact h x t rfl
theorem PR_callC {ty : Nat} {f : FuncId} {caps args vs : List AV} {t : AV} {k : AV → Heap → Option β} (hh : plainF f = false) (hv : (args ++ caps).mapM (viewV H 8) = some vs) (ht : tree E0 n ty f vs = some t) :
  (PR n β).call ty (.fn f [] caps) args H k = k (instT ti0 E0.tp H.length ty t).1 (H ++ (instT ti0 E0.tp H.length ty t).2) := by
 show callF E0 (evalFn E0 n) ty f ([] ++ args ++ caps) H k = _
 simp only [callF, plain_ext hh, plain_hm hh, List.nil_append, Bool.false_eq_true, if_false, callT, hv, Option.bind_some]
 have ht : treeOf E0 (evalFn E0 n) ty f vs = some t := ht
 rw [ht]
 rfl
theorem Vw_rp (H : Heap) (cs : List AV) : Vw H (.rp cs) (.rp cs) := fun _ => rfl
def idxOf {α : Type} (p : α → Bool) : List α → Nat → Int
 | [], _ => -1
 | x :: l, i => if p x then i else idxOf p l (i + 1)
theorem index_loop {α : Type} {tb g w : Nat} {caps : List AV} (enc : α → List AV) (pr : α → Bool) (k : AV → Heap → Option β) (hw : ∀ x, (enc x).length = w) (h0 : 0 < w) (hfl : ∀ x, (enc x).all isFl = true) (hh : plainF g = false) (hcv : ∀ H, caps.mapM (viewV H 8) = some caps) (L : Nat → AV → AV → AV → AV → Heap → Option β)
  (hL : ∀ m a b c i H, L (m + 1) a b c i H = pBin .lss i c fun t9 => pCond t9 (pIadr w a i fun t14 => pLoad true w t14 H fun t15 => (PR n β).call tb b [t15] H fun t16 H => pCond t16 (k i H) (pBin .add i (.sc (.int .i64 1)) fun t18 => L m a b c t18 H)) (k (.sc (.int .i64 (-1))) H))
  (l : List α) (hp : ∀ x ∈ l, tree E0 n tb g (.agg (enc x) :: caps) = some (.sc (.bool (pr x)))) (hlen : l.length ≤ 1048576) (H : Heap) : ∀ (t pre : List α) (m : Nat), l = pre ++ t → t.length < m →
   L m (rowsC enc l) (.fn g [] caps) (.sc (.int .i64 l.length)) (.sc (.int .i64 pre.length)) H = k (.sc (.int .i64 (idxOf pr t pre.length))) H
 | [], pre, m + 1, hl, hm => by
  rw [List.append_nil] at hl
  subst hl
  rw [hL, lss_nat, cond_b]
  simp [idxOf]
 | x :: t, pre, m + 1, hl, hm => by
  have hlt : pre.length < l.length := by rw [hl]; simp
  rw [hL, lss_nat, cond_b, if_pos (by simpa using hlt)]
  have hel := fun k => el_ro (β := β) hw h0 pre x t k
  rw [← hl] at hel
  rw [hel, ld_rp w _ _ _ _ (hw x)]
  rw [PR_callC (vs := .agg (enc x) :: caps) hh (by simp only [List.cons_append, List.nil_append, List.mapM_cons, (Vw_agg _ (hfl x)).now, hcv]; rfl) (hp x (by rw [hl]; simp)), instT_sc, List.append_nil]
  simp only
  rw [cond_b, idxOf]
  cases hpx : pr x
  ·simp only [Bool.false_eq_true, if_false]
   rw [inc_nat _ _ (by omega)]
   have ih := index_loop enc pr k hw h0 hfl hh hcv L hL l hp hlen H t (pre ++ [x]) m (by rw [hl]; simp) (by simpa using hm)
   rw [List.length_append, List.length_singleton] at ih
   exact ih
  ·simp only [if_true]
theorem Vw_fn1 {i g : Nat} {cs : List AV} (hi : H[i]? = some ⟨cs, true, true⟩) (hfl : cs.all isFl = true) : Vw H (.fn g [] [.ptr i 0]) (.fn g [] [.rp cs]) := fun X => by
 have hg : (H ++ X)[i]? = some ⟨cs, true, true⟩ := blk_grow hi X
 have hr : rdCells (H ++ X) i 0 (cs.length - 0) = some cs := by
  simp only [rdCells, hg, if_true, Nat.sub_zero, Nat.zero_add, Nat.le_refl, List.drop_zero, List.take_length]
 have hp : viewV (H ++ X) 7 (.ptr i 0) = some (.rp cs) := by
  show ((H ++ X)[i]?).bind (fun b => (rdCells (H ++ X) i 0 (b.cells.length - 0)).bind fun cs => (cs.mapM (viewV (H ++ X) 6)).bind fun vs => some (AV.rp vs)) = _
  rw [hg, Option.bind_some]
  show (rdCells (H ++ X) i 0 (cs.length - 0)).bind _ = _
  rw [hr, Option.bind_some, fl_view hfl]
  rfl
 show (([] : List AV).mapM (viewV (H ++ X) 7)).bind (fun us => ([AV.ptr i 0].mapM (viewV (H ++ X) 7)).bind fun cs => some (AV.fn g us cs)) = _
 simp only [List.mapM_cons, List.mapM_nil, hp, Option.pure_def, Option.bind_eq_bind, Option.bind_some]
theorem w_boxS {v : Value} (hv : leafV v = true) (h : ∀ i, i = H.length → (H ++ [⟨[.sc v], true, true⟩])[i]? = some ⟨[.sc v], true, true⟩ → KH (.ptr i 0) (H ++ [⟨[.sc v], true, true⟩]) = r) : pBox (.sc v) H (fun x H => KH x H) = r := by
 have e : cellsA (.sc v) = some [.sc v] := by simp only [cellsA, isLeaf, hv, if_true]
 show (cellsA (.sc v)).bind _ = r
 rw [e]
 exact h _ rfl (by rw [List.getElem?_append_right (Nat.le_refl _), Nat.sub_self]; rfl)
theorem idx_s (s : ByteArray) (i : Nat) (b : UInt8) (k : AV → Option β) (h : s.data.toList[i]? = some b) : pIdx (.sc (.string s)) (.sc (.int .i64 i)) k = k (.sc (.int .u8 b.toNat)) := by
 have hlt : i < s.size := by
  have := (List.getElem?_eq_some_iff.1 h).1
  simpa using this
 have hb : s[i]'hlt = b := by
  have := (List.getElem?_eq_some_iff.1 h).2
  simp only [Array.getElem_toList] at this
  exact this
 simp only [pIdx, asI, asS, Option.bind_some, Int.toNat_natCast]
 rw [dif_pos ⟨by omega, hlt⟩, hb]
theorem slice_rows {α : Type} {w : Nat} {enc : α → List AV} (hw : ∀ x, (enc x).length = w) (l : List α) (d : Nat) (hd : d ≤ l.length) (k : AV → Option β) : pSlice w (rowsC enc l) (some (.sc (.int .i64 d))) none k = k (rowsC enc (l.drop d)) := by
 simp only [pSlice, lenA, bound, asI, Option.bind_some]
 rw [if_pos (by omega)]
 have h1 : ((l.length : Int) - d).toNat = (l.drop d).length := by rw [List.length_drop]; omega
 have h2 : ((l.map enc).flatten.drop (d * w)) = ((l.drop d).map enc).flatten := by
  have := drop_rows hw (l.take d) (l.drop d)
  rw [List.take_append_drop, List.length_take, Nat.min_eq_left hd] at this
  exact this
 rw [h1, Int.toNat_natCast, h2, ← rows_len hw, List.take_length]
theorem eqfunc_loop {α : Type} {tb g w : Nat} (enc : α → List AV) (pr : α → α → Bool) (k : AV → Heap → Option β) (hk : ∀ v H H', k (.sc v) H = k (.sc v) H') (z : List AV) (hz : z.length = w) (hw : ∀ x, (enc x).length = w) (h0 : 0 < w) (hfl : ∀ x, (enc x).all isFl = true) (hh : plainF g = false) (L : Nat → AV → AV → AV → AV → AV → Heap → Option β)
  (hL : ∀ m b f a c i H, L (m + 1) b f a c i H = pBin .lss i c fun t18 => pCond t18 (pIadr w a i fun t20 => pLoad true w t20 H fun t21 => pNew z H fun t8 H => pStore w t8 t21 H fun H => pIadr w b i fun t24 => pLoad true w t24 H fun t25 => pNew z H fun t9 H => pStore w t9 t25 H fun H => pLoad true w t8 H fun t27 => pLoad true w t9 H fun t28 => (PR n β).call tb f [t27, t28] H fun t29 H => pUn .not t29 fun t30 => pCond t30 (k (.sc (.bool false)) H) (pBin .add i (.sc (.int .i64 1)) fun t31 => L m b f a c t31 H)) (k (.sc (.bool true)) H))
  (l q : List α) (hp : ∀ x y, x ∈ l → y ∈ q → tree E0 n tb g [.agg (enc x), .agg (enc y)] = some (.sc (.bool (pr x y)))) (hlq : l.length = q.length) (hlen : l.length ≤ 1048576) : ∀ (s t pl pq : List α) (m : Nat) (H : Heap), l = pl ++ s → q = pq ++ t → pl.length = pq.length → s.length < m →
   L m (rowsC enc q) (.fn g [] []) (rowsC enc l) (.sc (.int .i64 l.length)) (.sc (.int .i64 pl.length)) H = k (.sc (.bool (all2 pr s t))) []
 | [], t, pl, pq, m + 1, H, hl, hq, hpp, hm => by
  have ht : t = [] := by
   have h1 := congrArg List.length hl
   have h2 := congrArg List.length hq
   simp only [List.length_append, List.length_nil] at h1 h2
   exact List.eq_nil_of_length_eq_zero (by omega)
  subst ht
  rw [List.append_nil] at hl
  subst hl
  rw [hL, lss_nat, cond_b]
  simp only [Nat.lt_irrefl, decide_false, Bool.false_eq_true, if_false, all2]
  exact hk _ _ _
 | x :: s, [], pl, pq, m + 1, H, hl, hq, hpp, hm => by
  have h1 := congrArg List.length hl
  have h2 := congrArg List.length hq
  simp only [List.length_append, List.length_cons, List.length_nil] at h1 h2
  omega
 | x :: s, y :: t, pl, pq, m + 1, H, hl, hq, hpp, hm => by
  have hlt : pl.length < l.length := by rw [hl]; simp
  rw [hL, lss_nat, cond_b, if_pos (by simpa using hlt)]
  have hel := fun k => el_ro (β := β) hw h0 pl x s k
  rw [← hl] at hel
  have heq := fun k => el_ro (β := β) hw h0 pq y t k
  rw [← hq, ← hpp] at heq
  rw [hel, ld_rp w _ _ _ _ (hw x)]
  refine lw_put hz (hw x) (fl_leaf (hfl x)) fun i hi => ?_
  rw [heq, ld_rp w _ _ _ _ (hw y)]
  refine lw_put hz (hw y) (fl_leaf (hfl y)) fun j hj => ?_
  replace hi := blk_grow hi [⟨enc y, true, true⟩]
  refine lw_ld hi (hw x) ?_
  refine lw_ld hj (hw y) ?_
  refine lw_sc hh (vcons (Vw_agg _ (hfl x)) (vcons (Vw_agg _ (hfl y)) vnil)) (hp x y (by rw [hl]; simp) (by rw [hq]; simp)) ?_
  rw [notB, cond_b, all2]
  cases hpx : pr x y
  ·simp only [Bool.not_false, if_true, Bool.false_eq_true, if_false]
   exact hk _ _ _
  ·simp only [Bool.not_true, Bool.false_eq_true, if_false, if_true]
   rw [inc_nat _ _ (by omega)]
   have ih := eqfunc_loop enc pr k hk z hz hw h0 hfl hh L hL l q hp hlq hlen s t (pl ++ [x]) (pq ++ [y]) m ((H ++ [⟨enc x, true, true⟩]) ++ [⟨enc y, true, true⟩]) (by rw [hl]; simp) (by rw [hq]; simp) (by simp [hpp]) (by simpa using hm)
   rw [List.length_append, List.length_singleton] at ih
   exact ih
theorem ends_loop {α : Type} {tb g w : Nat} (enc : α → List AV) (pr : α → α → Bool) (k : AV → Heap → Option β) (hw : ∀ x, (enc x).length = w) (h0 : 0 < w) (hfl : ∀ x, (enc x).all isFl = true) (hh : plainF g = false) (L : Nat → AV → AV → AV → Heap → Option β)
  (hL : ∀ m a b i H, L (m + 1) a b i H = pLen b fun t13 => pBin .lss i t13 fun t14 => pCond t14 (pLen a fun t19 => pLen b fun t21 => pBin .sub t19 t21 fun t22 => pBin .add t22 i fun t24 => pIadr w a t24 fun t25 => pLoad true w t25 H fun t26 => pIadr w b i fun t29 => pLoad true w t29 H fun t30 => (PR n β).call tb (.fn g [] []) [t26, t30] H fun t31 H => pUn .not t31 fun t32 => pCond t32 (k (.sc (.bool false)) H) (pBin .add i (.sc (.int .i64 1)) fun t16 => L m a b t16 H)) (k (.sc (.bool true)) H))
  (l q : List α) (hp : ∀ x y, x ∈ l → y ∈ q → tree E0 n tb g [.agg (enc x), .agg (enc y)] = some (.sc (.bool (pr x y)))) (hlq : q.length ≤ l.length) (hlen : l.length ≤ 1048576) (H : Heap) : ∀ (t s pq pl : List α) (m : Nat), l = pl ++ s → q = pq ++ t → pl.length = l.length - q.length + pq.length → t.length < m →
   L m (rowsC enc l) (rowsC enc q) (.sc (.int .i64 pq.length)) H = k (.sc (.bool (all2 pr s t))) H
 | [], s, pq, pl, m + 1, hl, hq, hpp, hm => by
  rw [List.append_nil] at hq
  subst hq
  have e : all2 pr s [] = true := by cases s <;> rfl
  rw [hL, len_ro, lss_nat, cond_b, e]
  simp
 | y :: t, [], pq, pl, m + 1, hl, hq, hpp, hm => by
  have h1 := congrArg List.length hl
  have h2 := congrArg List.length hq
  simp only [List.length_append, List.length_cons, List.length_nil] at h1 h2
  omega
 | y :: t, x :: s, pq, pl, m + 1, hl, hq, hpp, hm => by
  have hlt : pq.length < q.length := by rw [hq]; simp
  rw [hL, len_ro, lss_nat, cond_b, if_pos (by simpa using hlt)]
  have hel := fun k => el_ro (β := β) hw h0 pl x s k
  rw [← hl] at hel
  have heq := fun k => el_ro (β := β) hw h0 pq y t k
  rw [← hq] at heq
  have hi : ((l.length : Int) - (q.length : Int)) = ((l.length - q.length : Nat) : Int) := by omega
  have ha : (((l.length - q.length : Nat) : Int) + (pq.length : Int)) = (pl.length : Int) := by omega
  rw [len_ro, len_ro, sub64 _ _ _ (by omega) (by omega), hi, add64, ha, wrap64 _ (by omega) (by omega)]
  rw [hel, ld_rp w _ _ _ _ (hw x), heq, ld_rp w _ _ _ _ (hw y)]
  refine lw_sc hh (vcons (Vw_agg _ (hfl x)) (vcons (Vw_agg _ (hfl y)) vnil)) (hp x y (by rw [hl]; simp) (by rw [hq]; simp)) ?_
  rw [notB, cond_b, all2]
  cases hpx : pr x y
  ·simp only [Bool.not_false, if_true, Bool.false_eq_true, if_false]
  ·simp only [Bool.not_true, Bool.false_eq_true, if_false, if_true]
   rw [inc_nat _ _ (by omega)]
   have ih := ends_loop enc pr k hw h0 hfl hh L hL l q hp hlq hlen H t s (pq ++ [y]) (pl ++ [x]) m (by rw [hl]; simp) (by rw [hq]; simp) (by simp [hpp]; omega) (by simpa using hm)
   rw [List.length_append, List.length_singleton] at ih
   exact ih
theorem nT {b : Bool} (h : b = false) : (!b) = true := by rw [h]; rfl
theorem nF {b : Bool} (h : b = true) : (!b) = false := by rw [h]; rfl
end
end Go.Proofs.YtejjggnchdldoaaDoor.Abs
set_option linter.unusedVariables false
set_option linter.unusedSimpArgs false
set_option maxRecDepth 100000
namespace Go.Proofs.YtejjggnchdldoaaDoor.Abs
open Go
def vIn (x lo hi : Int) : Bool := decide (lo ≤ x) && decide (x ≤ hi)
theorem l1InF (n : Nat) (ty : Nat) (x : Int) (lo : Int) (hi : Int) : tree E0 (n + 1) ty 53 [.sc (.int .i64 x), .sc (.int .i64 lo), .sc (.int .i64 hi)] = some (.sc (.bool (vIn x lo hi))) := by
 rw [tree_def, f53_eq, f53]
 try simp only [PR_box, PR_new, PR_fadr, PR_load, PR_store, PR_bin, PR_binB, PR_binA, PR_un, PR_cond, PR_guard, PR_pick, PR_len, PR_lenS, PR_iadr, PR_idx, PR_slice, PR_sliceS, PR_newSl, PR_fill, PR_make, PR_app, PR_cvI, PR_cvBS]
 refine w_bin (v := .sc (.bool (decide (x ≥ lo)))) (fun k => rfl) ?_
 apply w_merge ((decide (x ≥ lo)) && (decide (x ≤ hi)))
 ·intro b1 q1
  refine w_split ((decide (x ≥ lo))) (fun h1 => ?_) (fun h1 => ?_)
  ·refine w_gT h1 ?_
   refine w_gT h1 ?_
   refine w_gT h1 ?_
   refine w_bin (v := .sc (.bool (decide (x ≤ hi)))) (fun k => rfl) ?_
   refine w_pTb h1 (mAT q1 h1) ?_
   exact rfl
  ·refine w_gF h1 ?_
   refine w_gF h1 ?_
   refine w_gF h1 ?_
   refine w_pFb h1 (mAF q1 h1) ?_
   exact rfl
 intro b1 q1
 exact w_endB (by first | (simp_all [vIn]; done) | (rw [Bool.eq_iff_iff]; simp [vIn] at *; omega))
theorem withinF (n : Nat) (ty : Nat) (x : Int) (lo : Int) (hi : Int) : tree E0 (n + 1) ty 59 [.sc (.int .i64 x), .sc (.int .i64 lo), .sc (.int .i64 hi)] = some (.sc (.bool (vIn x lo hi))) := by
 rw [tree_def, f59_eq, f59]
 try simp only [PR_box, PR_new, PR_fadr, PR_load, PR_store, PR_bin, PR_binB, PR_binA, PR_un, PR_cond, PR_guard, PR_pick, PR_len, PR_lenS, PR_iadr, PR_idx, PR_slice, PR_sliceS, PR_newSl, PR_fill, PR_make, PR_app, PR_cvI, PR_cvBS]
 refine w_bin (v := .sc (.bool (decide (x ≥ lo)))) (fun k => rfl) ?_
 apply w_merge ((decide (x ≥ lo)) && (decide (x ≤ hi)))
 ·intro b1 q1
  refine w_split ((decide (x ≥ lo))) (fun h1 => ?_) (fun h1 => ?_)
  ·refine w_gT h1 ?_
   refine w_gT h1 ?_
   refine w_gT h1 ?_
   refine w_bin (v := .sc (.bool (decide (x ≤ hi)))) (fun k => rfl) ?_
   refine w_pTb h1 (mAT q1 h1) ?_
   exact rfl
  ·refine w_gF h1 ?_
   refine w_gF h1 ?_
   refine w_gF h1 ?_
   refine w_pFb h1 (mAF q1 h1) ?_
   exact rfl
 intro b1 q1
 exact w_endB (by first | (simp_all [vIn]; done) | (rw [Bool.eq_iff_iff]; simp [vIn] at *; omega))
theorem l1SameF (n : Nat) (ty : Nat) (s t : ByteArray) : tree E0 (n + 1) ty 93 [bytesC s, bytesC t] = some (.sc (.bool (s.toList == t.toList))) := by
 rw [tree_def, f93_eq, f93]
 have e : ∀ u : ByteArray, content [] 1 (.ro u.size (bytesAV u)) = some (bytesAV u) := by
  intro u
  simp [content, bytesAV_len]
 have eb : ∀ u : ByteArray, (bytesAV u).mapM byteOf = some u.data.toList := fun u => byteOf_bytes _
 simp only [PR_cvBS, PR_bin, pCvBS, e, eb, Option.bind_some, pBin, binS]
 simp
theorem bytesEqualF (n : Nat) (ty : Nat) (s t : ByteArray) : tree E0 (n + 1) ty 54 [bytesC s, bytesC t] = some (.sc (.bool (s.toList == t.toList))) := by
 rw [tree_def, f54_eq, f54]
 have e : ∀ u : ByteArray, content [] 1 (.ro u.size (bytesAV u)) = some (bytesAV u) := by
  intro u
  simp [content, bytesAV_len]
 have eb : ∀ u : ByteArray, (bytesAV u).mapM byteOf = some u.data.toList := fun u => byteOf_bytes _
 simp only [PR_cvBS, PR_bin, pCvBS, e, eb, Option.bind_some, pBin, binS]
 simp
end Go.Proofs.YtejjggnchdldoaaDoor.Abs
set_option linter.unusedVariables false
set_option linter.unusedSimpArgs false
set_option maxRecDepth 100000
namespace Go.Proofs.YtejjggnchdldoaaDoor.Abs
open Go
theorem and31 : ∀ X : Fin 256, bits .and .i64 ((X.val : Nat) : Int) 31 = ((X.val % 32 : Nat) : Int) := by decide +kernel
theorem and15 : ∀ X : Fin 256, bits .and .i64 ((X.val : Nat) : Int) 15 = ((X.val % 16 : Nat) : Int) := by decide +kernel
theorem and7' : ∀ X : Fin 256, bits .and .i64 ((X.val : Nat) : Int) 7 = ((X.val % 8 : Nat) : Int) := by decide +kernel
def runeAV (d : Nat × Nat) (i : Nat) : AV := if d.1 = 65533 ∧ d.2 = 1 then .tup [.sc (.int .i64 0), .sc (.int .i64 0), .sc (.bool false)] else .tup [.sc (.int .i64 d.1), .sc (.int .i64 ((i + d.2 : Nat) : Int)), .sc (.bool true)]
def failAV : AV := .tup [.sc (.int .i64 0), .sc (.int .i64 0), .sc (.bool false)]
theorem by_at (s : ByteArray) (i : Nat) (h : i < s.size) (H : Heap) (k : AV → Option AV) : (pIadr 1 (bytesC s) (.sc (.int .i64 i)) fun t => pLoad false 1 t H k) = k (.sc (.int .u8 (s.data.toList.getD i 0).toNat)) := by
 rw [iadr_ro 1 _ _ i _ h (by rw [bytesAV_len]; omega)]
 have hl : i < s.data.toList.length := by simpa using h
 have hd : (bytesAV s).drop (i * 1) = .sc (.int .u8 (s.data.toList.getD i 0).toNat) :: (bytesAV s).drop (i + 1) := by
  rw [Nat.mul_one, List.drop_eq_getElem_cons (by rw [bytesAV_len]; omega)]
  congr 1
  simp [bytesAV, List.getD_eq_getElem?_getD, h]
 rw [hd, ld1_rp]
section loop
variable (n : Nat) (k : AV → Heap → Option AV) (H : Heap) (s : ByteArray)
theorem rune_step (m at' N v i : Nat) (least : Int) (hi : i ≤ N) (hb : at' + i < s.size) (hN : N ≤ 3) (hv : v < 100000000) (hs : s.size ≤ 1048576) :
  f105_l0 (PR n AV) n k (m + 1) (bytesC s) (.sc (.int .i64 at')) (.sc (.int .i64 N)) (.sc (.int .i64 least)) (.sc (.int .i64 v)) (.sc (.int .i64 i)) H =
   if (s.data.toList.getD (at' + i) 0).toNat / 64 = 2 then f105_l0 (PR n AV) n k m (bytesC s) (.sc (.int .i64 at')) (.sc (.int .i64 N)) (.sc (.int .i64 least)) (.sc (.int .i64 ((v * 64 + (s.data.toList.getD (at' + i) 0).toNat % 64 : Nat) : Int))) (.sc (.int .i64 ((i + 1 : Nat) : Int))) H else k failAV H := by
 obtain ⟨y, hy⟩ : ∃ y, (s.data.toList.getD (at' + i) 0).toNat = y := ⟨_, rfl⟩
 have hylt : y < 256 := by rw [← hy]; exact (s.data.toList.getD (at' + i) 0).toNat_lt
 have hba := by_at s (at' + i) hb H
 rw [hy] at hba ⊢
 rw [f105_l0]
 simp only [PR_bin, PR_cond, PR_iadr, PR_load, PR_cvI, PR_guard, PR_pick]
 rw [leq64, cond_b, if_pos (by simp; omega), add64, ← Int.natCast_add, wrap64 _ (by omega) (by omega), hba]
 simp only [pCvI, asI, Option.bind_some]
 rw [wrap64 _ (by omega) (by omega), lss64]
 by_cases h1 : y < 128
 ·refine w_hF (by simp; omega) ?_
  refine w_hF (by simp; omega) ?_
  refine w_pT (by simp; omega) ?_
  rw [if_neg (by omega)]
  rfl
 ·refine w_hT (by simp; omega) ?_
  refine w_hT (by simp; omega) ?_
  rw [gtr64]
  refine w_pF (by simp; omega) ?_
  by_cases h2 : y ≤ 191
  ·rw [cond_b, if_neg (by simp; omega), if_pos (by omega), mul64, show (v : Int) * 64 = ((v * 64 : Nat) : Int) by omega, wrap64 _ (by omega) (by omega), add64, ← Int.natCast_add, wrap64 _ (by omega) (by omega), sub64 _ _ _ (by omega) (by omega), inc_nat _ _ (by omega)]
   congr 3
   omega
  ·rw [cond_b, if_pos (by simp; omega), if_neg (by omega)]
   rfl
theorem rune_end (n' : Nat) (hnn : n = n' + 1) (m at' N v least : Nat) (hN : N ≤ 3) (hv : v < 100000000) (ha : at' ≤ 1048576) :
  f105_l0 (PR n AV) n k (m + 1) (bytesC s) (.sc (.int .i64 at')) (.sc (.int .i64 N)) (.sc (.int .i64 least)) (.sc (.int .i64 v)) (.sc (.int .i64 ((N + 1 : Nat) : Int))) H =
   if v ≥ least ∧ (v < 55296 ∨ (57344 ≤ v ∧ v ≤ 1114111)) then k (.tup [.sc (.int .i64 v), .sc (.int .i64 ((at' + (N + 1) : Nat) : Int)), .sc (.bool true)]) H else k failAV H := by
 subst hnn
 rw [f105_l0]
 simp only [PR_bin, PR_cond, PR_iadr, PR_load, PR_cvI, PR_guard, PR_pick]
 rw [leq64, cond_b, if_neg (by simp; omega), lss64]
 by_cases h1 : v < least
 ·have e : decide ((v : Int) < (least : Int)) = true := by simp; omega
  refine w_hF e ?_
  refine w_hF e ?_
  refine w_pT e ?_
  refine w_hF rfl ?_
  refine w_hF rfl ?_
  refine w_pT rfl ?_
  refine w_cT rfl ?_
  rw [if_neg (by omega)]
  rfl
 ·have e : decide ((v : Int) < (least : Int)) = false := by simp; omega
  refine w_hT e ?_
  refine w_hT e ?_
  refine w_bin (v := .sc (.bool (decide ((v : Int) > 1114111)))) (fun k => rfl) ?_
  refine w_pF e ?_
  by_cases h2 : v > 1114111
  ·have e2 : decide ((v : Int) > 1114111) = true := by simp; omega
   refine w_hF e2 ?_
   refine w_hF e2 ?_
   refine w_pT e2 ?_
   refine w_cT rfl ?_
   rw [if_neg (by omega)]
   rfl
  ·have e2 : decide ((v : Int) > 1114111) = false := by simp; omega
   refine w_hT e2 ?_
   refine w_hT e2 ?_
   refine lw_sc rfl (vcons (Vw_sc _ _) (vcons (Vw_sc _ _) (vcons (Vw_sc _ _) vnil))) (l1InF n' _ v 55296 57343) ?_
   refine w_pF e2 ?_
   by_cases h3 : 55296 ≤ v ∧ v ≤ 57343
   ·refine w_cT (by simp [vIn]; omega) ?_
    rw [if_neg (by omega)]
    rfl
   ·refine w_cF (by simp [vIn]; omega) ?_
    have e5 : ((at' : Int) + 1 + (N : Int)) = ((at' + (N + 1) : Nat) : Int) := by omega
    rw [if_pos (by omega), add64, wrap64 _ (by omega) (by omega), add64, wrap64 _ (by omega) (by omega), e5]
    rfl
end loop
theorem own_tup3 (H : Heap) (a b c : Value) : ownTree ti0 E0.tp 107 H (.tup [.sc a, .sc b, .sc c]) = some (.tup [.sc a, .sc b, .sc c]) := rfl
set_option maxHeartbeats 1600000 in
theorem runeAtF (n : Nat) (hn : 1048576 < n) (s : ByteArray) (i : Nat) (hs : s.size ≤ 1048576) (hi : i < s.size) : tree E0 (n + 2) 107 105 [bytesC s, .sc (.int .i64 i)] = some (runeAV (Lib.decodeL (s.data.toList.drop i)) i) := by
 have hg : ∀ j, (s.data.toList.drop i).getD j 0 = s.data.toList.getD (i + j) 0 := fun j => by simp [List.getD_eq_getElem?_getD, List.getElem?_drop]
 have hL : (s.data.toList.drop i).length = s.size - i := by simp
 have hg0 : (s.data.toList.drop i).getD 0 0 = s.data.toList.getD i 0 := hg 0
 rw [Lib.decodeL_N, hL, hg0, hg 1, hg 2, hg 3]
 obtain ⟨x, hx⟩ : ∃ x, (s.data.toList.getD i 0).toNat = x := ⟨_, rfl⟩
 have hxl : x < 256 := by rw [← hx]; exact (s.data.toList.getD i 0).toNat_lt
 obtain ⟨y1, hy1⟩ : ∃ x, (s.data.toList.getD (i + 1) 0).toNat = x := ⟨_, rfl⟩
 obtain ⟨y2, hy2⟩ : ∃ x, (s.data.toList.getD (i + 2) 0).toNat = x := ⟨_, rfl⟩
 obtain ⟨y3, hy3⟩ : ∃ x, (s.data.toList.getD (i + 3) 0).toNat = x := ⟨_, rfl⟩
 have b1 : y1 < 256 := by rw [← hy1]; exact (s.data.toList.getD (i + 1) 0).toNat_lt
 have b2 : y2 < 256 := by rw [← hy2]; exact (s.data.toList.getD (i + 2) 0).toNat_lt
 have b3 : y3 < 256 := by rw [← hy3]; exact (s.data.toList.getD (i + 3) 0).toNat_lt
 have hba := by_at s i hi []
 rw [hx] at hba
 rw [hx, hy1, hy2, hy3]
 have fails : Lib.decodeN (s.size - i) x y1 y2 y3 = (65533, 1) → some failAV = some (runeAV (Lib.decodeN (s.size - i) x y1 y2 y3) i) := fun h => by rw [h]; rfl
 have goes : ∀ v w, Lib.decodeN (s.size - i) x y1 y2 y3 = (v, w) → (w = 1 → v < 128) → some (.tup [.sc (.int .i64 v), .sc (.int .i64 ((i + w : Nat) : Int)), .sc (.bool true)]) = some (runeAV (Lib.decodeN (s.size - i) x y1 y2 y3) i) := fun v w h hw => by
  rw [h, runeAV, if_neg (by intro h; simp only at h; omega)]
 rw [tree_def, f105_eq, f105]
 simp only [PR_bin, PR_cond, PR_iadr, PR_load, PR_cvI, PR_guard, PR_pick, PR_len]
 have e0 : decide ((i : Int) < 0) = false := by simp
 rw [lss64]
 refine w_hT e0 ?_
 refine w_hT e0 ?_
 refine w_hT e0 ?_
 refine w_len ?_
 refine w_hT e0 ?_
 refine w_bin (v := .sc (.bool (decide ((i : Int) ≥ (s.size : Int))))) (fun k => rfl) ?_
 refine w_pF e0 ?_
 refine w_cF (by simp; omega) ?_
 rw [hba]
 simp only [pCvI, asI, Option.bind_some]
 rw [wrap64 _ (by omega) (by omega), lss64]
 by_cases c1 : x < 128
 ·refine w_cT (by simp; omega) ?_
  rw [inc_nat _ _ (by omega)]
  exact (own_tup3 _ _ _ _).trans (goes x 1 (by rw [Lib.decodeN, if_pos c1]) (fun _ => c1))
 ·refine w_cF (by simp; omega) ?_
  obtain ⟨q, rfl⟩ : ∃ q, n = q + 4 := ⟨n - 4, by omega⟩
  apply w_merge (decide ((x : Int) ≥ 192) && decide ((x : Int) < 224))
  ·intro b hb
   refine w_bin (v := .sc (.bool (decide ((x : Int) ≥ 192)))) (fun k => rfl) ?_
   refine w_split (decide ((x : Int) ≥ 192)) (fun h => ?_) (fun h => ?_)
   ·refine w_gT h ?_
    refine w_gT h ?_
    refine w_bin (v := .sc (.bool (decide ((x : Int) < 224)))) (fun k => rfl) ?_
    refine w_pTb h (mAT hb h) ?_
    exact rfl
   ·refine w_gF h ?_
    refine w_gF h ?_
    refine w_pFb h (mAF hb h) ?_
    exact rfl
  intro b0 hb0
  by_cases d0 : 192 ≤ x ∧ x < 224
  ·refine w_cT (by rw [hb0]; simp; omega) ?_
   refine w_bin (v := .sc (.int .i64 ((x % 32 : Nat) : Int))) (fun k => by show k (.sc (.int .i64 (bits .and .i64 (x : Int) 31))) = _; rw [and31 ⟨x, hxl⟩]) ?_
   refine w_len ?_
   refine w_bin (v := .sc (.int .i64 ((s.size : Int) - 1))) (fun k => sub64 _ _ _ (by omega) (by omega)) ?_
   refine w_bin (v := .sc (.int .i64 ((s.size : Int) - 1 - 1))) (fun k => sub64 _ _ _ (by omega) (by omega)) ?_
   refine w_bin (v := .sc (.bool (decide ((i : Int) > (s.size : Int) - 1 - 1)))) (fun k => rfl) ?_
   by_cases c3 : i + 1 < s.size
   ·refine w_cF (by simp; omega) ?_
    have r1 := rune_step (q + 4 + 1) (fun x H => ownTree ti0 E0.tp 107 H x) [] s (q + 4) i 1 (x % 32) 1 128 (by omega) (by omega) (by omega) (by omega) hs
    rw [hy1] at r1
    refine r1.trans ?_
    by_cases k1 : y1 / 64 = 2
    rotate_left
    ·rw [if_neg k1]
     exact (own_tup3 _ _ _ _).trans (fails (by unfold Lib.decodeN; rw [if_neg c1, if_neg (by omega), if_neg (by omega), if_neg (by omega)]))
    rw [if_pos k1]
    refine (rune_end (q + 4 + 1) (fun x H => ownTree ti0 E0.tp 107 H x) [] s (q + 4) rfl (q + 3) i 1 ((x % 32) * 64 + y1 % 64) 128 (by omega) (by omega) (by omega)).trans ?_
    have hv : (x % 32) * 64 + y1 % 64 = x % 32 * 64 + y1 % 64 := by omega
    rw [hv]
    split
    ·exact (own_tup3 _ _ _ _).trans (goes _ 2 (by unfold Lib.decodeN; rw [if_neg c1, if_pos (by omega), if_pos (by omega)]) (by omega))
    ·exact (own_tup3 _ _ _ _).trans (fails (by unfold Lib.decodeN; rw [if_neg c1, if_pos (by omega), if_neg (by omega)]))
   ·refine w_cT (by simp; omega) ?_
    exact (own_tup3 _ _ _ _).trans (fails (by unfold Lib.decodeN; rw [if_neg c1, if_neg (by omega), if_neg (by omega), if_neg (by omega)]))
  ·refine w_cF (by rw [hb0]; simp; omega) ?_
   apply w_merge (decide ((x : Int) ≥ 224) && decide ((x : Int) < 240))
   ·intro b hb
    refine w_bin (v := .sc (.bool (decide ((x : Int) ≥ 224)))) (fun k => rfl) ?_
    refine w_split (decide ((x : Int) ≥ 224)) (fun h => ?_) (fun h => ?_)
    ·refine w_gT h ?_
     refine w_gT h ?_
     refine w_bin (v := .sc (.bool (decide ((x : Int) < 240)))) (fun k => rfl) ?_
     refine w_pTb h (mAT hb h) ?_
     exact rfl
    ·refine w_gF h ?_
     refine w_gF h ?_
     refine w_pFb h (mAF hb h) ?_
     exact rfl
   intro b1 hb1
   by_cases d1 : 224 ≤ x ∧ x < 240
   ·refine w_cT (by rw [hb1]; simp; omega) ?_
    refine w_bin (v := .sc (.int .i64 ((x % 16 : Nat) : Int))) (fun k => by show k (.sc (.int .i64 (bits .and .i64 (x : Int) 15))) = _; rw [and15 ⟨x, hxl⟩]) ?_
    refine w_len ?_
    refine w_bin (v := .sc (.int .i64 ((s.size : Int) - 1))) (fun k => sub64 _ _ _ (by omega) (by omega)) ?_
    refine w_bin (v := .sc (.int .i64 ((s.size : Int) - 1 - 2))) (fun k => sub64 _ _ _ (by omega) (by omega)) ?_
    refine w_bin (v := .sc (.bool (decide ((i : Int) > (s.size : Int) - 1 - 2)))) (fun k => rfl) ?_
    by_cases c3 : i + 2 < s.size
    ·refine w_cF (by simp; omega) ?_
     have r1 := rune_step (q + 4 + 1) (fun x H => ownTree ti0 E0.tp 107 H x) [] s (q + 4) i 2 (x % 16) 1 2048 (by omega) (by omega) (by omega) (by omega) hs
     rw [hy1] at r1
     refine r1.trans ?_
     by_cases k1 : y1 / 64 = 2
     rotate_left
     ·rw [if_neg k1]
      exact (own_tup3 _ _ _ _).trans (fails (by unfold Lib.decodeN; rw [if_neg c1, if_neg (by omega), if_neg (by omega), if_neg (by omega)]))
     rw [if_pos k1]
     have r2 := rune_step (q + 4 + 1) (fun x H => ownTree ti0 E0.tp 107 H x) [] s (q + 3) i 2 ((x % 16) * 64 + y1 % 64) 2 2048 (by omega) (by omega) (by omega) (by omega) hs
     rw [hy2] at r2
     refine r2.trans ?_
     by_cases k2 : y2 / 64 = 2
     rotate_left
     ·rw [if_neg k2]
      exact (own_tup3 _ _ _ _).trans (fails (by unfold Lib.decodeN; rw [if_neg c1, if_neg (by omega), if_neg (by omega), if_neg (by omega)]))
     rw [if_pos k2]
     refine (rune_end (q + 4 + 1) (fun x H => ownTree ti0 E0.tp 107 H x) [] s (q + 4) rfl (q + 2) i 2 (((x % 16) * 64 + y1 % 64) * 64 + y2 % 64) 2048 (by omega) (by omega) (by omega)).trans ?_
     have hv : ((x % 16) * 64 + y1 % 64) * 64 + y2 % 64 = x % 16 * 4096 + y1 % 64 * 64 + y2 % 64 := by omega
     rw [hv]
     split
     ·exact (own_tup3 _ _ _ _).trans (goes _ 3 (by unfold Lib.decodeN; rw [if_neg c1, if_neg (by omega), if_pos (by omega), if_pos (by omega)]) (by omega))
     ·exact (own_tup3 _ _ _ _).trans (fails (by unfold Lib.decodeN; rw [if_neg c1, if_neg (by omega), if_pos (by omega), if_neg (by omega)]))
    ·refine w_cT (by simp; omega) ?_
     exact (own_tup3 _ _ _ _).trans (fails (by unfold Lib.decodeN; rw [if_neg c1, if_neg (by omega), if_neg (by omega), if_neg (by omega)]))
   ·refine w_cF (by rw [hb1]; simp; omega) ?_
    apply w_merge (decide ((x : Int) ≥ 240) && decide ((x : Int) < 248))
    ·intro b hb
     refine w_bin (v := .sc (.bool (decide ((x : Int) ≥ 240)))) (fun k => rfl) ?_
     refine w_split (decide ((x : Int) ≥ 240)) (fun h => ?_) (fun h => ?_)
     ·refine w_gT h ?_
      refine w_gT h ?_
      refine w_bin (v := .sc (.bool (decide ((x : Int) < 248)))) (fun k => rfl) ?_
      refine w_pTb h (mAT hb h) ?_
      exact rfl
     ·refine w_gF h ?_
      refine w_gF h ?_
      refine w_pFb h (mAF hb h) ?_
      exact rfl
    intro b2 hb2
    by_cases d2 : 240 ≤ x ∧ x < 248
    ·refine w_cT (by rw [hb2]; simp; omega) ?_
     refine w_bin (v := .sc (.int .i64 ((x % 8 : Nat) : Int))) (fun k => by show k (.sc (.int .i64 (bits .and .i64 (x : Int) 7))) = _; rw [and7' ⟨x, hxl⟩]) ?_
     refine w_len ?_
     refine w_bin (v := .sc (.int .i64 ((s.size : Int) - 1))) (fun k => sub64 _ _ _ (by omega) (by omega)) ?_
     refine w_bin (v := .sc (.int .i64 ((s.size : Int) - 1 - 3))) (fun k => sub64 _ _ _ (by omega) (by omega)) ?_
     refine w_bin (v := .sc (.bool (decide ((i : Int) > (s.size : Int) - 1 - 3)))) (fun k => rfl) ?_
     by_cases c3 : i + 3 < s.size
     ·refine w_cF (by simp; omega) ?_
      have r1 := rune_step (q + 4 + 1) (fun x H => ownTree ti0 E0.tp 107 H x) [] s (q + 4) i 3 (x % 8) 1 65536 (by omega) (by omega) (by omega) (by omega) hs
      rw [hy1] at r1
      refine r1.trans ?_
      by_cases k1 : y1 / 64 = 2
      rotate_left
      ·rw [if_neg k1]
       exact (own_tup3 _ _ _ _).trans (fails (by unfold Lib.decodeN; rw [if_neg c1, if_neg (by omega), if_neg (by omega), if_neg (by omega)]))
      rw [if_pos k1]
      have r2 := rune_step (q + 4 + 1) (fun x H => ownTree ti0 E0.tp 107 H x) [] s (q + 3) i 3 ((x % 8) * 64 + y1 % 64) 2 65536 (by omega) (by omega) (by omega) (by omega) hs
      rw [hy2] at r2
      refine r2.trans ?_
      by_cases k2 : y2 / 64 = 2
      rotate_left
      ·rw [if_neg k2]
       exact (own_tup3 _ _ _ _).trans (fails (by unfold Lib.decodeN; rw [if_neg c1, if_neg (by omega), if_neg (by omega), if_neg (by omega)]))
      rw [if_pos k2]
      have r3 := rune_step (q + 4 + 1) (fun x H => ownTree ti0 E0.tp 107 H x) [] s (q + 2) i 3 (((x % 8) * 64 + y1 % 64) * 64 + y2 % 64) 3 65536 (by omega) (by omega) (by omega) (by omega) hs
      rw [hy3] at r3
      refine r3.trans ?_
      by_cases k3 : y3 / 64 = 2
      rotate_left
      ·rw [if_neg k3]
       exact (own_tup3 _ _ _ _).trans (fails (by unfold Lib.decodeN; rw [if_neg c1, if_neg (by omega), if_neg (by omega), if_neg (by omega)]))
      rw [if_pos k3]
      refine (rune_end (q + 4 + 1) (fun x H => ownTree ti0 E0.tp 107 H x) [] s (q + 4) rfl (q + 1) i 3 ((((x % 8) * 64 + y1 % 64) * 64 + y2 % 64) * 64 + y3 % 64) 65536 (by omega) (by omega) (by omega)).trans ?_
      have hv : (((x % 8) * 64 + y1 % 64) * 64 + y2 % 64) * 64 + y3 % 64 = x % 8 * 262144 + y1 % 64 * 4096 + y2 % 64 * 64 + y3 % 64 := by omega
      rw [hv]
      split
      ·exact (own_tup3 _ _ _ _).trans (goes _ 4 (by unfold Lib.decodeN; rw [if_neg c1, if_neg (by omega), if_neg (by omega), if_pos (by omega), if_pos (by omega)]) (by omega))
      ·exact (own_tup3 _ _ _ _).trans (fails (by unfold Lib.decodeN; rw [if_neg c1, if_neg (by omega), if_neg (by omega), if_pos (by omega), if_neg (by omega)]))
     ·refine w_cT (by simp; omega) ?_
      exact (own_tup3 _ _ _ _).trans (fails (by unfold Lib.decodeN; rw [if_neg c1, if_neg (by omega), if_neg (by omega), if_neg (by omega)]))
    ·refine w_cF (by rw [hb2]; simp; omega) ?_
     exact (own_tup3 _ _ _ _).trans (fails (by unfold Lib.decodeN; rw [if_neg c1, if_neg (by omega), if_neg (by omega), if_neg (by omega)]))
theorem inst_tup3 (N ty : Nat) (a b c : Value) : instT ti0 E0.tp N ty (.tup [.sc a, .sc b, .sc c]) = (.tup [.sc a, .sc b, .sc c], []) := rfl
theorem Vw_bytes (s : ByteArray) : Vw [⟨bytesAV s, true, false⟩] (.sl 0 0 s.size 1) (bytesC s) := fun X => by
 have e2 : rdCells ([⟨bytesAV s, true, false⟩] ++ X) 0 0 (s.size * 1) = some (bytesAV s) := by
  have hl := bytesAV_len s
  show (if (0 + s.size * 1 ≤ (bytesAV s).length) then some (((bytesAV s).drop 0).take (s.size * 1)) else none) = _
  rw [if_pos (by omega), List.drop_zero, Nat.mul_one, ← hl, List.take_length]
 rw [viewV_sl, e2, Option.bind_some]
 have e3 : (bytesAV s).mapM (viewV ([⟨bytesAV s, true, false⟩] ++ X) 7) = some (bytesAV s) := by
  rw [bytesAV_eq]
  exact mapM_sc _
 rw [e3]
 rfl
theorem w_extr {vs : List AV} {i : Nat} {x : AV} {K : AV → Option AV} {r : Option AV} (hx : vs[i]? = some x) (h : K x = r) : pExtr (.tup vs) i (fun t => K t) = r := by
 show (vs[i]?).bind _ = r
 rw [hx]
 exact h
theorem count_loop (n : Nat) (hn : 1048576 < n) (k : AV → Heap → Option AV) (s : ByteArray) (hs : s.size ≤ 60) : ∀ (b m pos c : Nat), s.size ≤ pos + b → pos ≤ s.size → c ≤ pos → b < m →
  ∃ r : Int, f92_l0 (PR (n + 2) AV) (n + 2) k m (.sl 0 0 s.size 1) (.sc (.int .i64 c)) (.sc (.int .i64 pos)) [⟨bytesAV s, true, false⟩] = k (.sc (.int .i64 r)) [⟨bytesAV s, true, false⟩] ∧ (textGo b (s.data.toList.drop pos) = true → 0 ≤ r) ∧ (textGo b (s.data.toList.drop pos) = false → r = -1)
 | b, m + 1, pos, c, hb, hp, hc, hm => by
  rw [f92_l0]
  simp only [PR_len, PR_bin, PR_cond, PR_extr, PR_un, PR_guard, PR_pick]
  have hlen : ∀ k : AV → Option AV, pLen (.sl 0 0 s.size 1) k = k (.sc (.int .i64 s.size)) := fun _ => rfl
  rw [hlen, lss_nat, cond_b]
  by_cases hlt : pos < s.size
  ·rw [if_pos (by simpa using hlt)]
   obtain ⟨b, rfl⟩ : ∃ b', b = b' + 1 := ⟨b - 1, by omega⟩
   have hne : s.data.toList.drop pos ≠ [] := by
    intro h
    have := congrArg List.length h
    simp at this
    omega
   have hw := Lib.decodeL_width (s.data.toList.drop pos)
   have hle := Lib.decodeL_le (s.data.toList.drop pos) hne
   have hll : (s.data.toList.drop pos).length = s.size - pos := by simp
   rw [hll] at hle
   rw [textGo, if_neg hne]
   generalize hd : Lib.decodeL (s.data.toList.drop pos) = d at hw hle ⊢
   have ht := runeAtF n hn s pos (by omega) hlt
   rw [hd] at ht
   rw [PR_call (vs := [bytesC s, .sc (.int .i64 pos)]) rfl (vcons (Vw_bytes s) (vcons (Vw_sc _ _) vnil)) ht]
   by_cases hf : d.1 = 65533 ∧ d.2 = 1
   ·rw [runeAV, if_pos hf, inst_tup3, List.append_nil, if_pos hf]
    refine ⟨-1, ?_, (fun h => by cases h), (fun _ => rfl)⟩
    refine w_extr rfl ?_
    refine w_extr rfl ?_
    refine w_extr rfl ?_
    refine w_not ?_
    refine w_hF rfl ?_
    refine w_hF rfl ?_
    refine w_pT rfl ?_
    refine w_cT rfl ?_
    rfl
   ·rw [runeAV, if_neg hf, inst_tup3, List.append_nil, if_neg hf]
    by_cases hz : d.1 = 0
    ·rw [if_pos hz]
     refine ⟨-1, ?_, (fun h => by cases h), (fun _ => rfl)⟩
     refine w_extr rfl ?_
     refine w_extr rfl ?_
     refine w_extr rfl ?_
     refine w_not ?_
     refine w_hT rfl ?_
     refine w_hT rfl ?_
     refine w_bin (v := .sc (.bool ((d.1 : Int) == 0))) (fun k => rfl) ?_
     refine w_pF rfl ?_
     refine w_cT (by simp [hz]) ?_
     rfl
    ·rw [if_neg hz, List.drop_drop]
     obtain ⟨r, h1, h2, h3⟩ := count_loop n hn k s hs b m (pos + d.2) (c + 1) (by omega) (by omega) (by omega) (by omega)
     refine ⟨r, ?_, h2, h3⟩
     refine w_extr rfl ?_
     refine w_extr rfl ?_
     refine w_extr rfl ?_
     refine w_not ?_
     refine w_hT rfl ?_
     refine w_hT rfl ?_
     refine w_bin (v := .sc (.bool ((d.1 : Int) == 0))) (fun k => rfl) ?_
     refine w_pF rfl ?_
     refine w_cF (by simp; omega) ?_
     rw [inc_nat _ _ (by omega)]
     exact h1
  ·rw [if_neg (by simpa using hlt)]
   have hnil : s.data.toList.drop pos = [] := by
    apply List.drop_of_length_le
    simp
    omega
   refine ⟨c, rfl, fun _ => by omega, fun h => ?_⟩
   rw [hnil] at h
   cases b <;> simp [textGo] at h
theorem countF (n : Nat) (hn : 1048576 < n) (ty : Nat) (s : ByteArray) : ∃ r : Int, tree E0 (n + 3) ty 92 [.sc (.string s)] = some (.sc (.int .i64 r)) ∧ (vTextOk s = true → 0 ≤ r) ∧ (vTextOk s = false → r = -1) := by
 rw [tree_def, f92_eq, f92]
 simp only [PR_lenS, PR_bin, PR_cond, PR_cvSB]
 unfold vTextOk
 by_cases h : s.size ≤ 60
 ·obtain ⟨r, h1, h2, h3⟩ := count_loop n hn (fun x H => ownTree ti0 E0.tp ty H x) s h s.size (n + 2) 0 0 (by omega) (by omega) (by omega) (by omega)
  refine ⟨r, ?_, ?_, ?_⟩
  ·refine w_lenS ?_
   refine w_bin (v := .sc (.bool (decide ((s.size : Int) > 60)))) (fun k => rfl) ?_
   refine w_cF (by simp; omega) ?_
   simp only [pCvSB, asS, Option.bind_some]
   rw [if_pos (by omega)]
   exact h1
  ·intro hv
   refine h2 ?_
   simpa [h] using hv
  ·intro hv
   refine h3 ?_
   simpa [h] using hv
 ·refine ⟨-1, ?_, (fun hv => by simp [h] at hv), (fun _ => rfl)⟩
  refine w_lenS ?_
  refine w_bin (v := .sc (.bool (decide ((s.size : Int) > 60)))) (fun k => rfl) ?_
  refine w_cT (by simp; omega) ?_
  rfl
theorem specTextF (n : Nat) (hn : 1048576 < n) (ty : Nat) (s : ByteArray) : tree E0 (n + 4) ty 74 [.sc (.string s)] = some (.sc (.bool (vTextOk s))) := by
 rw [tree_def, f74_eq, f74]
 simp only [PR_bin]
 obtain ⟨r, h1, h2, h3⟩ := countF n hn 3 s
 refine lw_sc rfl (vcons (Vw_sc _ _) vnil) h1 ?_
 refine w_bin (v := .sc (.bool (decide (r ≥ 0)))) (fun k => rfl) ?_
 refine w_endB ?_
 cases hv : vTextOk s
 ·rw [h3 hv]
  rfl
 ·simpa using h2 hv
theorem lw_ext {β : Type} {n : Nat} {H : Heap} {r : Option β} {ty f : Nat} {g : Nat → List AV → Option AV} {args vs : List AV} {v : Value} {K : AV → Heap → Option β} (hg : E0.ext f = some g) (hv : args.mapM (viewV H 8) = some vs) (ht : g ty vs = some (.sc v)) (h : K (.sc v) H = r) : (PR n β).call ty (.fn f [] []) args H (fun x H => K x H) = r := by
 rw [PR_ext hg hv ht, instT_sc, List.append_nil]
 exact h
theorem implTextF (ty : Nat) (s : ByteArray) (hs : okS s) : ext71 ty [.sc (.string s)] = some (.sc (.bool (vTextOk s))) := by
 have hm : maxLen = 9223372036854775807 := by decide
 show (if s.size ≤ maxLen then _ else _) = _
 rw [hm, if_pos (show s.size ≤ 9223372036854775807 from hs)]
end Go.Proofs.YtejjggnchdldoaaDoor.Abs
