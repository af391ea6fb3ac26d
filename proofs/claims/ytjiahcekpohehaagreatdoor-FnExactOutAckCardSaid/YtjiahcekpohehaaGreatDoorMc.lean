/- What the proof needs, part 3: a sound evaluator over trees, the program's functions on it, and what they come to. -/
import Derived.Test.YtjiahcekpohehaaGreatDoorMb
import Derived.Shelf.Strings.IndexAnyAll
import Derived.Shelf.Small.Utf8
import Derived.Lib.TrimUEq
import Derived.Lib.QuoteLoop
import Derived.Laws.RangeAny
import Derived.Laws.Runes
import Derived.WalkKit
import Derived.WalkMore
import Derived.Below
import Derived.LoopTactic
import Derived.Shelf.RegionOpenPlain
import Derived.Test.YtjiahcekpohehaaGreatDoorChecked
import Derived.Shelf.Unicode.ValidAny
import Derived.Shelf.Strings.Split
import Derived.Shelf.Vars
import Derived.Lib.ValidLaws
import Derived.Test.YtjiahcekpohehaaGreatDoorProg
import Derived.Deep.RegionLaw
set_option linter.unusedVariables false
set_option linter.unusedSimpArgs false
set_option maxRecDepth 100000
namespace Go.Proofs.YtjiahcekpohehaaGreatDoor.Abs
section
open Go
variable {β : Type}
noncomputable def AaD (p : Pr β) (n : Nat)  (k : KO β) : Nat → AV → AV → AV → AV → KO β
 | 0, _, _, _, _, _, _ => none
 | m + 1, t0, t3, t8, t9, t10, H => p.bin .lss t10 t9 fun t11 =>
   p.cond t11
   (p.iadr 1 t8 t10 fun t13 =>
   p.load false 1 t13 H fun t14 =>
   p.len t3 fun t18 =>
   p.bin .sub t18 (.sc (.int .i64 1)) fun t19 =>
   p.bin .eql t10 t19 fun t20 =>
   p.call 4 (.fn 301 [] []) [t14, t20] H fun t21 H =>
   p.un .not t21 fun t22 =>
   p.cond t22
   (k (.sc (.bool false)) H)
   (p.bin .add t10 (.sc (.int .i64 1)) fun t23 =>
   AaD p n  k m t0 t3 t8 t9 t23 H))
   (p.call 4 (.fn 147 [] []) [t0] H fun t25 H =>
   p.guard t25 true H (fun k' => k' t0 H) fun t27 H =>
   p.guard t25 true H (fun k' => p.bin .neq t27 (.sc (.string ⟨#[]⟩)) fun t' => k' t' H) fun t28 H =>
   p.pick t25 t28 (.sc (.bool false)) fun t29 =>
   p.guard t29 true H (fun k' => k' t3 H) fun t31 H =>
   p.guard t29 true H (fun k' => p.len t31 fun t' => k' t' H) fun t32 H =>
   p.guard t29 true H (fun k' => p.bin .leq t32 (.sc (.int .i64 6)) fun t' => k' t' H) fun t33 H =>
   p.pick t29 t33 (.sc (.bool false)) fun t34 =>
   k t34 H)
noncomputable def f269 (p : Pr β) (n : Nat) (a0 : AV) (H : Ab) (k : KO β) : Option β :=
 p.call 33 (.fn 268 [] []) [a0] H fun t7 H =>
 p.len t7 fun t9 =>
 AaD p n  k n a0 t7 t7 t9 (.sc (.int .i64 0)) H
noncomputable def Aa2 (p : Pr β) (n : Nat)  (k : KO β) : Nat → AV → AV → AV → KO β
 | 0, _, _, _, _, _ => none
 | m + 1, t1, t39, t40, t41, H => p.bin .lss t41 t40 fun t42 =>
   p.cond t42
   (p.iadr 1 t39 t41 fun t43 =>
   p.load false 1 t43 H fun t44 =>
   p.call 4 (.fn 197 [] []) [t44] H fun t46 H =>
   p.un .not t46 fun t47 =>
   p.guard t47 true H (fun k' => k' t44 H) fun t49 H =>
   p.guard t47 true H (fun k' => p.bin .neq t49 (.sc (.int .i64 128)) fun t' => k' t' H) fun t50 H =>
   p.pick t47 t50 (.sc (.bool false)) fun t51 =>
   p.cond t51
   (k (.sc (.bool false)) H)
   (p.bin .add t41 (.sc (.int .i64 1)) fun t52 =>
   Aa2 p n  k m t1 t39 t40 t52 H))
   (p.fadr 22 t1 fun t53 =>
   p.load false 1 t53 H fun t54 =>
   p.len t54 fun t55 =>
   p.fadr 23 t1 fun t56 =>
   p.load false 1 t56 H fun t57 =>
   p.len t57 fun t58 =>
   p.bin .add t55 t58 fun t59 =>
   p.fadr 24 t1 fun t60 =>
   p.load false 1 t60 H fun t61 =>
   p.len t61 fun t62 =>
   p.bin .add t59 t62 fun t63 =>
   p.call 4 (.fn 149 [] []) [t63, (.sc (.int .i64 1)), (.sc (.int .i64 4))] H fun t64 H =>
   k t64 H)
noncomputable def Aa1 (p : Pr β) (n : Nat)  (k : KO β) : Nat → AV → AV → AV → KO β
 | 0, _, _, _, _, _ => none
 | m + 1, t1, t28, t29, t30, H => p.bin .lss t30 t29 fun t31 =>
   p.cond t31
   (p.iadr 1 t28 t30 fun t32 =>
   p.load false 1 t32 H fun t33 =>
   p.call 4 (.fn 269 [] []) [t33] H fun t35 H =>
   p.un .not t35 fun t36 =>
   p.cond t36
   (k (.sc (.bool false)) H)
   (p.bin .add t30 (.sc (.int .i64 1)) fun t37 =>
   Aa1 p n  k m t1 t28 t29 t37 H))
   (p.fadr 24 t1 fun t38 =>
   p.load false 1 t38 H fun t39 =>
   p.len t39 fun t40 =>
   Aa2 p n  k n t1 t39 t40 (.sc (.int .i64 0)) H)
noncomputable def Aa0 (p : Pr β) (n : Nat)  (k : KO β) : Nat → AV → AV → AV → KO β
 | 0, _, _, _, _, _ => none
 | m + 1, t1, t10, t11, t12, H => p.bin .lss t12 t11 fun t13 =>
   p.cond t13
   (p.iadr 2 t10 t12 fun t14 =>
   p.load true 2 t14 H fun t15 =>
   p.new [(.sc (.string ⟨#[]⟩)), (.sc (.int .i64 0))] H fun t4 H =>
   p.store 2 t4 t15 H fun H =>
   p.fadr 0 t4 fun t16 =>
   p.load false 1 t16 H fun t17 =>
   p.call 4 (.fn 269 [] []) [t17] H fun t18 H =>
   p.un .not t18 fun t19 =>
   p.guard t19 false H (fun k' => p.fadr 1 t4 fun t' => k' t' H) fun t21 H =>
   p.guard t19 false H (fun k' => p.load false 1 t21 H fun t' => k' t' H) fun t22 H =>
   p.guard t19 false H (fun k' => p.call 4 (.fn 197 [] []) [t22] H fun t' H => k' t' H) fun t23 H =>
   p.guard t19 false H (fun k' => p.un .not t23 fun t' => k' t' H) fun t24 H =>
   p.pick t19 (.sc (.bool true)) t24 fun t25 =>
   p.cond t25
   (k (.sc (.bool false)) H)
   (p.bin .add t12 (.sc (.int .i64 1)) fun t26 =>
   Aa0 p n  k m t1 t10 t11 t26 H))
   (p.fadr 23 t1 fun t27 =>
   p.load false 1 t27 H fun t28 =>
   p.len t28 fun t29 =>
   Aa1 p n  k n t1 t28 t29 (.sc (.int .i64 0)) H)
noncomputable def f199 (p : Pr β) (n : Nat) (a0 : AV) (H : Ab) (k : KO β) : Option β :=
 p.box a0 H fun t1 H =>
 p.fadr 22 t1 fun t9 =>
 p.load false 1 t9 H fun t10 =>
 p.len t10 fun t11 =>
 Aa0 p n  k n t1 t10 t11 (.sc (.int .i64 0)) H
noncomputable def f76 (p : Pr β) (n : Nat) (a0 : AV) (H : Ab) (k : KO β) : Option β :=
 p.box a0 H fun t1 H =>
 p.fadr 0 t1 fun t3 =>
 p.load false 1 t3 H fun t4 =>
 p.call 4 (.fn 149 [] []) [t4, (.sc (.int .i64 1)), (.sc (.int .i64 14))] H fun t5 H =>
 p.un .not t5 fun t6 =>
 p.guard t6 false H (fun k' => p.load true 25 t1 H fun t' => k' t' H) fun t9 H =>
 p.both
 (p.guard t6 false H (fun k' => p.load true 25 t1 H fun t' => k' t' H) fun t8 H =>
 p.guard t6 false H (fun k' => p.call 36 (.fn 195 [] []) [t9] H fun t' H => k' t' H) fun t10 H =>
 p.guard t6 false H (fun k' => p.call 4 (.fn 82 [] []) [t8, t10] H fun t' H => k' t' H) fun t11 H =>
 p.guard t6 false H (fun k' => p.un .not t11 fun t' => k' t' H) fun t12 H =>
 p.pick t6 (.sc (.bool true)) t12 fun t13 =>
 p.cond t13
 (k (.sc (.bool false)) H)
 (p.fadr 0 t1 fun t14 =>
 p.load false 1 t14 H fun t15 =>
 p.bin .eql t15 (.sc (.int .i64 1)) fun t17 =>
 p.cond t17
 (p.load true 25 t1 H fun t18 =>
 p.call 4 (.fn 196 [] []) [t18] H fun t19 H =>
 k t19 H)
 (p.bin .eql t15 (.sc (.int .i64 2)) fun t21 =>
 p.cond t21
 (p.fadr 20 t1 fun t22 =>
 p.load false 1 t22 H fun t23 =>
 p.call 4 (.fn 149 [] []) [t23, (.sc (.int .i64 0)), (.sc (.int .i64 5))] H fun t24 H =>
 p.guard t24 true H (fun k' => p.fadr 21 t1 fun t' => k' t' H) fun t26 H =>
 p.guard t24 true H (fun k' => p.load false 1 t26 H fun t' => k' t' H) fun t27 H =>
 p.guard t24 true H (fun k' => p.un .not t27 fun t' => k' t' H) fun t28 H =>
 p.guard t24 true H (fun k' => k' t28 H) fun t29 H =>
 p.guard t29 false H (fun k' => p.fadr 20 t1 fun t' => k' t' H) fun t30 H =>
 p.guard t29 false H (fun k' => p.load false 1 t30 H fun t' => k' t' H) fun t31 H =>
 p.guard t29 false H (fun k' => p.bin .eql t31 (.sc (.int .i64 0)) fun t' => k' t' H) fun t32 H =>
 p.guard t24 true H (fun k' => p.pick t29 (.sc (.bool true)) t32 fun t' => k' t' H) fun t33 H =>
 p.pick t24 t33 (.sc (.bool false)) fun t34 =>
 k t34 H)
 (p.bin .eql t15 (.sc (.int .i64 3)) fun t36 =>
 p.cond t36
 (p.fadr 2 t1 fun t37 =>
 p.load false 1 t37 H fun t38 =>
 p.call 4 (.fn 197 [] []) [t38] H fun t39 H =>
 p.guard t39 true H (fun k' => p.fadr 5 t1 fun t' => k' t' H) fun t41 H =>
 p.guard t39 true H (fun k' => p.load false 1 t41 H fun t' => k' t' H) fun t42 H =>
 p.guard t39 true H (fun k' => p.call 4 (.fn 198 [] []) [t42] H fun t' H => k' t' H) fun t43 H =>
 p.pick t39 t43 (.sc (.bool false)) fun t44 =>
 p.guard t44 true H (fun k' => p.fadr 6 t1 fun t' => k' t' H) fun t46 H =>
 p.guard t44 true H (fun k' => p.load false 1 t46 H fun t' => k' t' H) fun t47 H =>
 p.guard t44 true H (fun k' => p.len t47 fun t' => k' t' H) fun t48 H =>
 p.guard t44 true H (fun k' => p.bin .leq t48 (.sc (.int .i64 40)) fun t' => k' t' H) fun t49 H =>
 p.pick t44 t49 (.sc (.bool false)) fun t50 =>
 p.guard t50 true H (fun k' => p.fadr 2 t1 fun t' => k' t' H) fun t52 H =>
 p.guard t50 true H (fun k' => p.load false 1 t52 H fun t' => k' t' H) fun t53 H =>
 p.guard t50 true H (fun k' => p.bin .eql t53 (.sc (.int .i64 0)) fun t' => k' t' H) fun t54 H =>
 p.guard t50 true H (fun k' => k' t54 H) fun t55 H =>
 p.guard t55 false H (fun k' => p.fadr 4 t1 fun t' => k' t' H) fun t56 H =>
 p.guard t55 false H (fun k' => p.load false 1 t56 H fun t' => k' t' H) fun t57 H =>
 p.guard t55 false H (fun k' => p.call 4 (.fn 190 [] []) [t57] H fun t' H => k' t' H) fun t58 H =>
 p.guard t50 true H (fun k' => p.pick t55 (.sc (.bool true)) t58 fun t' => k' t' H) fun t59 H =>
 p.pick t50 t59 (.sc (.bool false)) fun t60 =>
 k t60 H)
 (p.bin .eql t15 (.sc (.int .i64 4)) fun t62 =>
 M1 (fun (t1 t15 t61 : AV) (H : Ab) => p.cond t61
 (p.fadr 4 t1 fun t67 =>
 p.load false 1 t67 H fun t68 =>
 p.call 4 (.fn 190 [] []) [t68] H fun t69 H =>
 k t69 H)
 (p.bin .eql t15 (.sc (.int .i64 8)) fun t71 =>
 M1 (fun (t1 t70 : AV) (H : Ab) => p.cond t70
 (p.fadr 4 t1 fun t74 =>
 p.load false 1 t74 H fun t75 =>
 p.call 4 (.fn 190 [] []) [t75] H fun t76 H =>
 p.guard t76 true H (fun k' => p.load true 25 t1 H fun t' => k' t' H) fun t78 H =>
 p.guard t76 true H (fun k' => p.call 4 (.fn 199 [] []) [t78] H fun t' H => k' t' H) fun t79 H =>
 p.pick t76 t79 (.sc (.bool false)) fun t80 =>
 k t80 H)
 (k (.sc (.bool true)) H)) fun j2 =>
 p.cond t71
 (j2 t1 t71 H)
 (p.bin .eql t15 (.sc (.int .i64 9)) fun t72 =>
 p.cond t72
 (j2 t1 t72 H)
 (p.bin .eql t15 (.sc (.int .i64 10)) fun t73 =>
 j2 t1 t73 H)))) fun j1 =>
 p.cond t62
 (j1 t1 t15 t62 H)
 (p.bin .eql t15 (.sc (.int .i64 5)) fun t63 =>
 p.cond t63
 (j1 t1 t15 t63 H)
 (p.bin .eql t15 (.sc (.int .i64 6)) fun t64 =>
 p.cond t64
 (j1 t1 t15 t64 H)
 (p.bin .eql t15 (.sc (.int .i64 7)) fun t65 =>
 p.cond t65
 (j1 t1 t15 t65 H)
 (p.bin .eql t15 (.sc (.int .i64 11)) fun t66 =>
 j1 t1 t15 t66 H)))))))))
 (p.guard t6 false H (fun k' => p.call 36 (.fn 195 [] []) [t9] H fun t' H => k' t' H) fun t10 H =>
 p.guard t6 false H (fun k' => p.load true 25 t1 H fun t' => k' t' H) fun t8 H =>
 p.guard t6 false H (fun k' => p.call 4 (.fn 82 [] []) [t8, t10] H fun t' H => k' t' H) fun t11 H =>
 p.guard t6 false H (fun k' => p.un .not t11 fun t' => k' t' H) fun t12 H =>
 p.pick t6 (.sc (.bool true)) t12 fun t13 =>
 p.cond t13
 (k (.sc (.bool false)) H)
 (p.fadr 0 t1 fun t14 =>
 p.load false 1 t14 H fun t15 =>
 p.bin .eql t15 (.sc (.int .i64 1)) fun t17 =>
 p.cond t17
 (p.load true 25 t1 H fun t18 =>
 p.call 4 (.fn 196 [] []) [t18] H fun t19 H =>
 k t19 H)
 (p.bin .eql t15 (.sc (.int .i64 2)) fun t21 =>
 p.cond t21
 (p.fadr 20 t1 fun t22 =>
 p.load false 1 t22 H fun t23 =>
 p.call 4 (.fn 149 [] []) [t23, (.sc (.int .i64 0)), (.sc (.int .i64 5))] H fun t24 H =>
 p.guard t24 true H (fun k' => p.fadr 21 t1 fun t' => k' t' H) fun t26 H =>
 p.guard t24 true H (fun k' => p.load false 1 t26 H fun t' => k' t' H) fun t27 H =>
 p.guard t24 true H (fun k' => p.un .not t27 fun t' => k' t' H) fun t28 H =>
 p.guard t24 true H (fun k' => k' t28 H) fun t29 H =>
 p.guard t29 false H (fun k' => p.fadr 20 t1 fun t' => k' t' H) fun t30 H =>
 p.guard t29 false H (fun k' => p.load false 1 t30 H fun t' => k' t' H) fun t31 H =>
 p.guard t29 false H (fun k' => p.bin .eql t31 (.sc (.int .i64 0)) fun t' => k' t' H) fun t32 H =>
 p.guard t24 true H (fun k' => p.pick t29 (.sc (.bool true)) t32 fun t' => k' t' H) fun t33 H =>
 p.pick t24 t33 (.sc (.bool false)) fun t34 =>
 k t34 H)
 (p.bin .eql t15 (.sc (.int .i64 3)) fun t36 =>
 p.cond t36
 (p.fadr 2 t1 fun t37 =>
 p.load false 1 t37 H fun t38 =>
 p.call 4 (.fn 197 [] []) [t38] H fun t39 H =>
 p.guard t39 true H (fun k' => p.fadr 5 t1 fun t' => k' t' H) fun t41 H =>
 p.guard t39 true H (fun k' => p.load false 1 t41 H fun t' => k' t' H) fun t42 H =>
 p.guard t39 true H (fun k' => p.call 4 (.fn 198 [] []) [t42] H fun t' H => k' t' H) fun t43 H =>
 p.pick t39 t43 (.sc (.bool false)) fun t44 =>
 p.guard t44 true H (fun k' => p.fadr 6 t1 fun t' => k' t' H) fun t46 H =>
 p.guard t44 true H (fun k' => p.load false 1 t46 H fun t' => k' t' H) fun t47 H =>
 p.guard t44 true H (fun k' => p.len t47 fun t' => k' t' H) fun t48 H =>
 p.guard t44 true H (fun k' => p.bin .leq t48 (.sc (.int .i64 40)) fun t' => k' t' H) fun t49 H =>
 p.pick t44 t49 (.sc (.bool false)) fun t50 =>
 p.guard t50 true H (fun k' => p.fadr 2 t1 fun t' => k' t' H) fun t52 H =>
 p.guard t50 true H (fun k' => p.load false 1 t52 H fun t' => k' t' H) fun t53 H =>
 p.guard t50 true H (fun k' => p.bin .eql t53 (.sc (.int .i64 0)) fun t' => k' t' H) fun t54 H =>
 p.guard t50 true H (fun k' => k' t54 H) fun t55 H =>
 p.guard t55 false H (fun k' => p.fadr 4 t1 fun t' => k' t' H) fun t56 H =>
 p.guard t55 false H (fun k' => p.load false 1 t56 H fun t' => k' t' H) fun t57 H =>
 p.guard t55 false H (fun k' => p.call 4 (.fn 190 [] []) [t57] H fun t' H => k' t' H) fun t58 H =>
 p.guard t50 true H (fun k' => p.pick t55 (.sc (.bool true)) t58 fun t' => k' t' H) fun t59 H =>
 p.pick t50 t59 (.sc (.bool false)) fun t60 =>
 k t60 H)
 (p.bin .eql t15 (.sc (.int .i64 4)) fun t62 =>
 M1 (fun (t1 t15 t61 : AV) (H : Ab) => p.cond t61
 (p.fadr 4 t1 fun t67 =>
 p.load false 1 t67 H fun t68 =>
 p.call 4 (.fn 190 [] []) [t68] H fun t69 H =>
 k t69 H)
 (p.bin .eql t15 (.sc (.int .i64 8)) fun t71 =>
 M1 (fun (t1 t70 : AV) (H : Ab) => p.cond t70
 (p.fadr 4 t1 fun t74 =>
 p.load false 1 t74 H fun t75 =>
 p.call 4 (.fn 190 [] []) [t75] H fun t76 H =>
 p.guard t76 true H (fun k' => p.load true 25 t1 H fun t' => k' t' H) fun t78 H =>
 p.guard t76 true H (fun k' => p.call 4 (.fn 199 [] []) [t78] H fun t' H => k' t' H) fun t79 H =>
 p.pick t76 t79 (.sc (.bool false)) fun t80 =>
 k t80 H)
 (k (.sc (.bool true)) H)) fun j4 =>
 p.cond t71
 (j4 t1 t71 H)
 (p.bin .eql t15 (.sc (.int .i64 9)) fun t72 =>
 p.cond t72
 (j4 t1 t72 H)
 (p.bin .eql t15 (.sc (.int .i64 10)) fun t73 =>
 j4 t1 t73 H)))) fun j3 =>
 p.cond t62
 (j3 t1 t15 t62 H)
 (p.bin .eql t15 (.sc (.int .i64 5)) fun t63 =>
 p.cond t63
 (j3 t1 t15 t63 H)
 (p.bin .eql t15 (.sc (.int .i64 6)) fun t64 =>
 p.cond t64
 (j3 t1 t15 t64 H)
 (p.bin .eql t15 (.sc (.int .i64 7)) fun t65 =>
 p.cond t65
 (j3 t1 t15 t65 H)
 (p.bin .eql t15 (.sc (.int .i64 11)) fun t66 =>
 j3 t1 t15 t66 H)))))))))
theorem Aee : K5 Aku @f76 := fun p n a0 H k => by kernel_rfl
noncomputable def f92 (p : Pr β) (n : Nat) (a0 a1 : AV) (H : Ab) (k : KO β) : Option β :=
 p.new [(.sc (.int .i64 0)), (.sc (.bool false)), (.sc (.int .i64 0)), (.sc (.bool false)), (.sc (.int .i64 0)), (.sc (.string ⟨#[]⟩)), .nl, (.sc (.string ⟨#[]⟩)), (.sc (.int .i64 0)), (.sc (.bool false)), (.sc (.int .i64 0)), (.sc (.bool false)), (.sc (.string ⟨#[]⟩)), .nl, (.sc (.int .i64 0)), (.sc (.bool false)), (.sc (.bool false)), (.sc (.string ⟨#[]⟩)), (.sc (.bool false)), .nl, (.sc (.int .i64 0)), (.sc (.bool false)), .nl, .nl, .nl] H fun t4 H =>
 p.fill [(.sc (.int .i64 0)), (.sc (.bool false)), (.sc (.int .i64 0)), (.sc (.bool false)), (.sc (.int .i64 0)), (.sc (.string ⟨#[]⟩)), .nl, (.sc (.string ⟨#[]⟩)), (.sc (.int .i64 0)), (.sc (.bool false)), (.sc (.int .i64 0)), (.sc (.bool false)), (.sc (.string ⟨#[]⟩)), .nl, (.sc (.int .i64 0)), (.sc (.bool false)), (.sc (.bool false)), (.sc (.string ⟨#[]⟩)), (.sc (.bool false)), .nl, (.sc (.int .i64 0)), (.sc (.bool false)), .nl, .nl, .nl] [(0, 1, a0), (4, 1, a1)] fun ct8 =>
 p.new [(.sc (.int .i64 0)), (.sc (.bool false)), (.sc (.int .i64 0)), (.sc (.bool false)), (.sc (.int .i64 0)), (.sc (.string ⟨#[]⟩)), .nl, (.sc (.string ⟨#[]⟩)), (.sc (.int .i64 0)), (.sc (.bool false)), (.sc (.int .i64 0)), (.sc (.bool false)), (.sc (.string ⟨#[]⟩)), .nl, (.sc (.int .i64 0)), (.sc (.bool false)), (.sc (.bool false)), (.sc (.string ⟨#[]⟩)), (.sc (.bool false)), .nl, (.sc (.int .i64 0)), (.sc (.bool false)), .nl, .nl, .nl] H fun t5 H =>
 p.store 25 t5 (.agg ct8) H fun H =>
 p.call 4 (.fn 149 [] []) [a0, (.sc (.int .i64 4)), (.sc (.int .i64 7))] H fun t10 H =>
 p.un .not t10 fun t11 =>
 p.guard t11 true H (fun k' => k' a0 H) fun t13 H =>
 p.guard t11 true H (fun k' => p.bin .neq t13 (.sc (.int .i64 11)) fun t' => k' t' H) fun t14 H =>
 p.pick t11 t14 (.sc (.bool false)) fun t15 =>
 p.guard t15 false H (fun k' => p.load true 25 t5 H fun t' => k' t' H) fun t17 H =>
 p.guard t15 false H (fun k' => p.call 4 (.fn 76 [] []) [t17] H fun t' H => k' t' H) fun t18 H =>
 p.guard t15 false H (fun k' => p.un .not t18 fun t' => k' t' H) fun t19 H =>
 p.pick t15 (.sc (.bool true)) t19 fun t20 =>
 p.cond t20
 (p.fill [(.sc (.int .i64 0)), (.sc (.bool false)), (.sc (.int .i64 0)), (.sc (.bool false)), (.sc (.int .i64 0)), (.sc (.string ⟨#[]⟩)), .nl, (.sc (.string ⟨#[]⟩)), (.sc (.int .i64 0)), (.sc (.bool false)), (.sc (.int .i64 0)), (.sc (.bool false)), (.sc (.string ⟨#[]⟩)), .nl, (.sc (.int .i64 0)), (.sc (.bool false)), (.sc (.bool false)), (.sc (.string ⟨#[]⟩)), (.sc (.bool false)), .nl, (.sc (.int .i64 0)), (.sc (.bool false)), .nl, .nl, .nl] [] fun ct21 =>
 p.store 25 t4 (.agg ct21) H fun H =>
 p.load true 25 t4 H fun r0 =>
 k r0 H)
 (p.load true 25 t5 H fun t22 =>
 p.store 25 t4 t22 H fun H =>
 p.load true 25 t4 H fun r0 =>
 k r0 H)
theorem Aes : Ij Aky @f92 := fun p n a0 a1 H k => by kernel_rfl
noncomputable def f15 (p : Pr β) (n : Nat) (a0 a1 a2 : AV) (H : Ab) (k : KO β) : Option β :=
 p.box a0 H fun t3 H =>
 p.new [(.sc (.int .i64 0)), .nl, .nl] H fun t6 H =>
 p.new [(.sc (.int .i64 0)), (.sc (.bool false)), (.sc (.int .i64 0)), (.sc (.bool false)), (.sc (.int .i64 0)), (.sc (.string ⟨#[]⟩)), .nl, (.sc (.string ⟨#[]⟩)), (.sc (.int .i64 0)), (.sc (.bool false)), (.sc (.int .i64 0)), (.sc (.bool false)), (.sc (.string ⟨#[]⟩)), .nl, (.sc (.int .i64 0)), (.sc (.bool false)), (.sc (.bool false)), (.sc (.string ⟨#[]⟩)), (.sc (.bool false)), .nl, (.sc (.int .i64 0)), (.sc (.bool false)), .nl, .nl, .nl] H fun t7 H =>
 p.load true 3 t3 H fun t12 =>
 p.call 30 (.fn 89 [] []) [t12] H fun t13 H =>
 p.new [(.sc (.int .i64 0)), .nl, .nl] H fun t9 H =>
 p.store 3 t9 t13 H fun H =>
 p.fadr 1 t3 fun t14 =>
 p.load false 1 t14 H fun t15 =>
 p.call 3 (.fn 90 [] []) [t15, a2] H fun t17 H =>
 p.load true 3 t3 H fun t18 =>
 p.call 4 (.fn 74 [] []) [t18] H fun t19 H =>
 p.un .not t19 fun t20 =>
 p.guard t20 false H (fun k' => k' t17 H) fun t22 H =>
 p.guard t20 false H (fun k' => p.bin .lss t22 (.sc (.int .i64 0)) fun t' => k' t' H) fun t23 H =>
 p.pick t20 (.sc (.bool true)) t23 fun t24 =>
 p.cond t24
 (p.load true 3 t9 H fun t25 =>
 p.fill [(.sc (.int .i64 0)), (.sc (.bool false)), (.sc (.int .i64 0)), (.sc (.bool false)), (.sc (.int .i64 0)), (.sc (.string ⟨#[]⟩)), .nl, (.sc (.string ⟨#[]⟩)), (.sc (.int .i64 0)), (.sc (.bool false)), (.sc (.int .i64 0)), (.sc (.bool false)), (.sc (.string ⟨#[]⟩)), .nl, (.sc (.int .i64 0)), (.sc (.bool false)), (.sc (.bool false)), (.sc (.string ⟨#[]⟩)), (.sc (.bool false)), .nl, (.sc (.int .i64 0)), (.sc (.bool false)), .nl, .nl, .nl] [] fun ct26 =>
 p.store 3 t6 t25 H fun H =>
 p.store 25 t7 (.agg ct26) H fun H =>
 p.load true 3 t6 H fun r0 =>
 p.load true 25 t7 H fun r1 =>
 k (E9 [r0, r1, (.sc (.bool false))]) H)
 (p.fadr 1 t3 fun t27 =>
 p.load false 1 t27 H fun t28 =>
 p.iadr 6 t28 t17 fun t30 =>
 p.fadr 5 t30 fun t31 =>
 p.load false 1 t31 H fun t32 =>
 p.bin .eql a1 (.sc (.int .i64 4)) fun t35 =>
 p.guard t35 true H (fun k' => k' t32 H) fun t37 H =>
 p.guard t35 true H (fun k' => p.bin .eql t37 (.sc (.int .i64 1)) fun t' => k' t' H) fun t38 H =>
 p.pick t35 t38 (.sc (.bool false)) fun t39 =>
 M1 (fun (t1 t2 t6 t7 t9 t10 t11 t33 : AV) (H : Ab) => p.cond t33
 (p.fadr 1 t9 fun t46 =>
 p.load false 1 t46 H fun t47 =>
 p.bin .add t10 (.sc (.int .i64 1)) fun t50 =>
 p.call 27 (.fn 91 [] []) [t47, t10, t50] H fun t51 H =>
 p.fadr 1 t9 fun t52 =>
 p.store 1 t52 t51 H fun H =>
 p.load true 3 t9 H fun t53 =>
 p.fill [(.sc (.int .i64 0)), (.sc (.bool false)), (.sc (.int .i64 0)), (.sc (.bool false)), (.sc (.int .i64 0)), (.sc (.string ⟨#[]⟩)), .nl, (.sc (.string ⟨#[]⟩)), (.sc (.int .i64 0)), (.sc (.bool false)), (.sc (.int .i64 0)), (.sc (.bool false)), (.sc (.string ⟨#[]⟩)), .nl, (.sc (.int .i64 0)), (.sc (.bool false)), (.sc (.bool false)), (.sc (.string ⟨#[]⟩)), (.sc (.bool false)), .nl, (.sc (.int .i64 0)), (.sc (.bool false)), .nl, .nl, .nl] [] fun ct54 =>
 p.store 3 t6 t53 H fun H =>
 p.store 25 t7 (.agg ct54) H fun H =>
 p.load true 3 t6 H fun r0 =>
 p.load true 25 t7 H fun r1 =>
 k (E9 [r0, r1, (.sc (.bool true))]) H)
 (p.bin .eql t1 (.sc (.int .i64 5)) fun t57 =>
 p.guard t57 true H (fun k' => k' t11 H) fun t59 H =>
 p.guard t57 true H (fun k' => p.bin .neq t59 (.sc (.int .i64 1)) fun t' => k' t' H) fun t60 H =>
 p.pick t57 t60 (.sc (.bool false)) fun t61 =>
 p.cond t61
 (p.fadr 1 t9 fun t62 =>
 p.load false 1 t62 H fun t63 =>
 p.iadr 6 t63 t10 fun t65 =>
 p.fadr 5 t65 fun t66 =>
 p.store 1 t66 (.sc (.int .i64 3)) H fun H =>
 p.load true 3 t9 H fun t67 =>
 p.call 36 (.fn 92 [] []) [(.sc (.int .i64 6)), t2] H fun t69 H =>
 p.store 3 t6 t67 H fun H =>
 p.store 25 t7 t69 H fun H =>
 p.load true 3 t6 H fun r0 =>
 p.load true 25 t7 H fun r1 =>
 k (E9 [r0, r1, (.sc (.bool true))]) H)
 (p.load true 3 t9 H fun t70 =>
 p.fill [(.sc (.int .i64 0)), (.sc (.bool false)), (.sc (.int .i64 0)), (.sc (.bool false)), (.sc (.int .i64 0)), (.sc (.string ⟨#[]⟩)), .nl, (.sc (.string ⟨#[]⟩)), (.sc (.int .i64 0)), (.sc (.bool false)), (.sc (.int .i64 0)), (.sc (.bool false)), (.sc (.string ⟨#[]⟩)), .nl, (.sc (.int .i64 0)), (.sc (.bool false)), (.sc (.bool false)), (.sc (.string ⟨#[]⟩)), (.sc (.bool false)), .nl, (.sc (.int .i64 0)), (.sc (.bool false)), .nl, .nl, .nl] [] fun ct71 =>
 p.store 3 t6 t70 H fun H =>
 p.store 25 t7 (.agg ct71) H fun H =>
 p.load true 3 t6 H fun r0 =>
 p.load true 25 t7 H fun r1 =>
 k (E9 [r0, r1, (.sc (.bool false))]) H))) fun j1 =>
 p.cond t39
 (j1 a1 a2 t6 t7 t9 t17 t32 t39 H)
 (p.bin .eql a1 (.sc (.int .i64 7)) fun t41 =>
 p.guard t41 true H (fun k' => k' t32 H) fun t43 H =>
 p.guard t41 true H (fun k' => p.bin .eql t43 (.sc (.int .i64 3)) fun t' => k' t' H) fun t44 H =>
 p.pick t41 t44 (.sc (.bool false)) fun t45 =>
 j1 a1 a2 t6 t7 t9 t17 t32 t45 H))
theorem Ad9 : Bd3 Aki @f15 := fun p n a0 a1 a2 H k => by kernel_rfl
noncomputable def Rl (p : Pr β) (n : Nat)  (k : KO β) : Nat → AV → AV → KO β
 | 0, _, _, _, _ => none
 | m + 1, t0, t1, t5, H => p.len t0 fun t13 =>
   p.bin .lss t5 t13 fun t14 =>
   p.cond t14
   (p.iadr 1 t0 t5 fun t19 =>
   p.load false 1 t19 H fun t20 =>
   p.iadr 1 t1 t5 fun t23 =>
   p.load false 1 t23 H fun t24 =>
   p.bin .neq t20 t24 fun t25 =>
   p.cond t25
   (k (.sc (.bool false)) H)
   (p.bin .add t5 (.sc (.int .i64 1)) fun t16 =>
   Rl p n  k m t0 t1 t16 H))
   (k (.sc (.bool true)) H)
noncomputable def f95 (p : Pr β) (n : Nat) (a0 a1 : AV) (H : Ab) (k : KO β) : Option β :=
 p.len a0 fun t7 =>
 p.len a1 fun t9 =>
 p.bin .neq t7 t9 fun t10 =>
 p.cond t10
 (k (.sc (.bool false)) H)
 (Rl p n  k n a0 a1 (.sc (.int .i64 0)) H)
noncomputable def Aex (p : Pr β) (n : Nat)  (k : KO β) (m : Nat) (tm : Tm) (H : Ab) : Option β :=
 Cm 26 (fun tm H k => Ad Ag p o95 26 n (cd c95 [1, 1, 0, 1, 0, 0]) tm H k) (Dj 0 (Da (fun tm H => Ad Ag p o95 26 n (cd c95 [1, 1, 1]) tm H (Bw Ag p fi95.results k)) (Bw Ag p fi95.results k))) m tm H
theorem Ac1 (p : Pr β) (n : Nat)  (k : KO β) (m0 : Nat) : ∀ (t : Nat → AV) (H : Ab), Aex p n  k m0 (tf 26 0 t) H = Rl p n  k m0 (t 0) (t 1) (t 5) H := by
 induction m0 with
 | zero => intros; rfl
 | succ m0 ih =>
  intro t H
  refine Eq.trans (A6 (nt := 26) (m := m0) (g := fun t H => Rl p n  k m0 (t 0) (t 1) (t 5) H) ih rfl) ?_
  kernel_rfl
theorem AgV (p : Pr β) (n : Nat) (a0 a1 : AV) (H : Ab) (k : KO β) : Be Ag p n fi95 [a0, a1] H k =
 p.len a0 fun t7 =>
 p.len a1 fun t9 =>
 p.bin .neq t7 t9 fun t10 =>
 p.cond t10
 (k (.sc (.bool false)) H)
 (Aex p n  k n (tf 26 0 (ud [(0, a0), (1, a1), (4, (.sc (.bool false))), (5, (.sc (.int .i64 0))), (6, a0), (7, t7), (8, a1), (9, t9), (10, t10)] ut)) H) := by kernel_rfl
theorem Aey : Ij fi95 @f95 := fun p n a0 a1 H k => by
 rw [AgV]
 simp only [Ac1]
 kernel_rfl
noncomputable def f154 (p : Pr β) (n : Nat) (a0 a1 : AV) (H : Ab) (k : KO β) : Option β :=
 p.box a0 H fun t2 H =>
 p.box a1 H fun t3 H =>
 p.fadr 0 t2 fun t5 =>
 p.load false 1 t5 H fun t6 =>
 p.fadr 0 t3 fun t7 =>
 p.load false 1 t7 H fun t8 =>
 p.bin .neq t6 t8 fun t9 =>
 p.cond t9
 (k (.sc (.bool false)) H)
 (p.fadr 1 t2 fun t10 =>
 p.load false 1 t10 H fun t11 =>
 p.fadr 1 t3 fun t12 =>
 p.load false 1 t12 H fun t13 =>
 p.call 4 (.fn 95 [] []) [t11, t13] H fun t14 H =>
 p.un .not t14 fun t15 =>
 p.cond t15
 (k (.sc (.bool false)) H)
 (p.fadr 2 t2 fun t16 =>
 p.load false 1 t16 H fun t17 =>
 p.fadr 2 t3 fun t18 =>
 p.load false 1 t18 H fun t19 =>
 p.bin .neq t17 t19 fun t20 =>
 p.cond t20
 (k (.sc (.bool false)) H)
 (p.fadr 3 t2 fun t21 =>
 p.load false 1 t21 H fun t22 =>
 p.fadr 3 t3 fun t23 =>
 p.load false 1 t23 H fun t24 =>
 p.binB .neq t22 t24 fun t25 =>
 p.cond t25
 (k (.sc (.bool false)) H)
 (k (.sc (.bool true)) H))))
theorem AbE : Ij AhU @f154 := fun p n a0 a1 H k => by kernel_rfl
noncomputable def f214 (p : Pr β) (n : Nat) (a0 a1 : AV) (H : Ab) (k : KO β) : Option β :=
 p.box a0 H fun t2 H =>
 p.box a1 H fun t3 H =>
 p.fadr 0 t2 fun t5 =>
 p.load false 1 t5 H fun t6 =>
 p.fadr 0 t3 fun t7 =>
 p.load false 1 t7 H fun t8 =>
 p.bin .neq t6 t8 fun t9 =>
 p.cond t9
 (k (.sc (.bool false)) H)
 (p.fadr 1 t2 fun t10 =>
 p.load true 4 t10 H fun t11 =>
 p.fadr 1 t3 fun t12 =>
 p.load true 4 t12 H fun t13 =>
 p.call 4 (.fn 154 [] []) [t11, t13] H fun t14 H =>
 p.un .not t14 fun t15 =>
 p.cond t15
 (k (.sc (.bool false)) H)
 (p.fadr 5 t2 fun t16 =>
 p.load false 1 t16 H fun t17 =>
 p.fadr 5 t3 fun t18 =>
 p.load false 1 t18 H fun t19 =>
 p.bin .neq t17 t19 fun t20 =>
 p.cond t20
 (k (.sc (.bool false)) H)
 (k (.sc (.bool true)) H)))
theorem Aca : Ij Aij @f214 := fun p n a0 a1 H k => by kernel_rfl
noncomputable def Rj (p : Pr β) (n : Nat)  (k : KO β) : Nat → AV → AV → KO β
 | 0, _, _, _, _ => none
 | m + 1, t0, t1, t5, H => p.len t0 fun t13 =>
   p.bin .lss t5 t13 fun t14 =>
   p.cond t14
   (p.iadr 6 t0 t5 fun t19 =>
   p.load true 6 t19 H fun t20 =>
   p.iadr 6 t1 t5 fun t23 =>
   p.load true 6 t23 H fun t24 =>
   p.call 4 (.fn 214 [] []) [t20, t24] H fun t25 H =>
   p.un .not t25 fun t26 =>
   p.cond t26
   (k (.sc (.bool false)) H)
   (p.bin .add t5 (.sc (.int .i64 1)) fun t16 =>
   Rj p n  k m t0 t1 t16 H))
   (k (.sc (.bool true)) H)
noncomputable def f93 (p : Pr β) (n : Nat) (a0 a1 : AV) (H : Ab) (k : KO β) : Option β :=
 p.len a0 fun t7 =>
 p.len a1 fun t9 =>
 p.bin .neq t7 t9 fun t10 =>
 p.cond t10
 (k (.sc (.bool false)) H)
 (Rj p n  k n a0 a1 (.sc (.int .i64 0)) H)
noncomputable def Aet (p : Pr β) (n : Nat)  (k : KO β) (m : Nat) (tm : Tm) (H : Ab) : Option β :=
 Cm 27 (fun tm H k => Ad Ag p o93 27 n (cd c93 [1, 1, 0, 1, 0, 0]) tm H k) (Dj 0 (Da (fun tm H => Ad Ag p o93 27 n (cd c93 [1, 1, 1]) tm H (Bw Ag p fi93.results k)) (Bw Ag p fi93.results k))) m tm H
theorem Acz (p : Pr β) (n : Nat)  (k : KO β) (m0 : Nat) : ∀ (t : Nat → AV) (H : Ab), Aet p n  k m0 (tf 27 0 t) H = Rj p n  k m0 (t 0) (t 1) (t 5) H := by
 induction m0 with
 | zero => intros; rfl
 | succ m0 ih =>
  intro t H
  refine Eq.trans (A6 (nt := 27) (m := m0) (g := fun t H => Rj p n  k m0 (t 0) (t 1) (t 5) H) ih rfl) ?_
  kernel_rfl
theorem AgT (p : Pr β) (n : Nat) (a0 a1 : AV) (H : Ab) (k : KO β) : Be Ag p n fi93 [a0, a1] H k =
 p.len a0 fun t7 =>
 p.len a1 fun t9 =>
 p.bin .neq t7 t9 fun t10 =>
 p.cond t10
 (k (.sc (.bool false)) H)
 (Aet p n  k n (tf 27 0 (ud [(0, a0), (1, a1), (4, (.sc (.bool false))), (5, (.sc (.int .i64 0))), (6, a0), (7, t7), (8, a1), (9, t9), (10, t10)] ut)) H) := by kernel_rfl
theorem Aeu : Ij fi93 @f93 := fun p n a0 a1 H k => by
 rw [AgT]
 simp only [Acz]
 kernel_rfl
noncomputable def Rk (p : Pr β) (n : Nat)  (k : KO β) : Nat → AV → AV → KO β
 | 0, _, _, _, _ => none
 | m + 1, t0, t1, t5, H => p.len t0 fun t13 =>
   p.bin .lss t5 t13 fun t14 =>
   p.cond t14
   (p.iadr 4 t0 t5 fun t19 =>
   p.load true 4 t19 H fun t20 =>
   p.iadr 4 t1 t5 fun t23 =>
   p.load true 4 t23 H fun t24 =>
   p.call 4 (.fn 154 [] []) [t20, t24] H fun t25 H =>
   p.un .not t25 fun t26 =>
   p.cond t26
   (k (.sc (.bool false)) H)
   (p.bin .add t5 (.sc (.int .i64 1)) fun t16 =>
   Rk p n  k m t0 t1 t16 H))
   (k (.sc (.bool true)) H)
noncomputable def f94 (p : Pr β) (n : Nat) (a0 a1 : AV) (H : Ab) (k : KO β) : Option β :=
 p.len a0 fun t7 =>
 p.len a1 fun t9 =>
 p.bin .neq t7 t9 fun t10 =>
 p.cond t10
 (k (.sc (.bool false)) H)
 (Rk p n  k n a0 a1 (.sc (.int .i64 0)) H)
noncomputable def Aev (p : Pr β) (n : Nat)  (k : KO β) (m : Nat) (tm : Tm) (H : Ab) : Option β :=
 Cm 27 (fun tm H k => Ad Ag p o94 27 n (cd c94 [1, 1, 0, 1, 0, 0]) tm H k) (Dj 0 (Da (fun tm H => Ad Ag p o94 27 n (cd c94 [1, 1, 1]) tm H (Bw Ag p fi94.results k)) (Bw Ag p fi94.results k))) m tm H
theorem Ac0 (p : Pr β) (n : Nat)  (k : KO β) (m0 : Nat) : ∀ (t : Nat → AV) (H : Ab), Aev p n  k m0 (tf 27 0 t) H = Rk p n  k m0 (t 0) (t 1) (t 5) H := by
 induction m0 with
 | zero => intros; rfl
 | succ m0 ih =>
  intro t H
  refine Eq.trans (A6 (nt := 27) (m := m0) (g := fun t H => Rk p n  k m0 (t 0) (t 1) (t 5) H) ih rfl) ?_
  kernel_rfl
theorem AgU (p : Pr β) (n : Nat) (a0 a1 : AV) (H : Ab) (k : KO β) : Be Ag p n fi94 [a0, a1] H k =
 p.len a0 fun t7 =>
 p.len a1 fun t9 =>
 p.bin .neq t7 t9 fun t10 =>
 p.cond t10
 (k (.sc (.bool false)) H)
 (Aev p n  k n (tf 27 0 (ud [(0, a0), (1, a1), (4, (.sc (.bool false))), (5, (.sc (.int .i64 0))), (6, a0), (7, t7), (8, a1), (9, t9), (10, t10)] ut)) H) := by kernel_rfl
theorem Aew : Ij fi94 @f94 := fun p n a0 a1 H k => by
 rw [AgU]
 simp only [Ac0]
 kernel_rfl
noncomputable def f16 (p : Pr β) (n : Nat) (a0 a1 : AV) (H : Ab) (k : KO β) : Option β :=
 p.box a0 H fun t2 H =>
 p.box a1 H fun t3 H =>
 p.fadr 0 t2 fun t5 =>
 p.load false 1 t5 H fun t6 =>
 p.fadr 0 t3 fun t7 =>
 p.load false 1 t7 H fun t8 =>
 p.bin .neq t6 t8 fun t9 =>
 p.cond t9
 (k (.sc (.bool false)) H)
 (p.fadr 1 t2 fun t10 =>
 p.load false 1 t10 H fun t11 =>
 p.fadr 1 t3 fun t12 =>
 p.load false 1 t12 H fun t13 =>
 p.call 4 (.fn 93 [] []) [t11, t13] H fun t14 H =>
 p.un .not t14 fun t15 =>
 p.cond t15
 (k (.sc (.bool false)) H)
 (p.fadr 2 t2 fun t16 =>
 p.load false 1 t16 H fun t17 =>
 p.fadr 2 t3 fun t18 =>
 p.load false 1 t18 H fun t19 =>
 p.call 4 (.fn 94 [] []) [t17, t19] H fun t20 H =>
 p.un .not t20 fun t21 =>
 p.cond t21
 (k (.sc (.bool false)) H)
 (k (.sc (.bool true)) H)))
theorem AdA : Ij Akj @f16 := fun p n a0 a1 H k => by kernel_rfl
noncomputable def f215 (p : Pr β) (n : Nat) (a0 a1 : AV) (H : Ab) (k : KO β) : Option β :=
 p.box a0 H fun t2 H =>
 p.box a1 H fun t3 H =>
 p.fadr 0 t2 fun t5 =>
 p.load false 1 t5 H fun t6 =>
 p.fadr 0 t3 fun t7 =>
 p.load false 1 t7 H fun t8 =>
 p.bin .neq t6 t8 fun t9 =>
 p.cond t9
 (k (.sc (.bool false)) H)
 (p.fadr 1 t2 fun t10 =>
 p.load false 1 t10 H fun t11 =>
 p.fadr 1 t3 fun t12 =>
 p.load false 1 t12 H fun t13 =>
 p.bin .neq t11 t13 fun t14 =>
 p.cond t14
 (k (.sc (.bool false)) H)
 (k (.sc (.bool true)) H))
theorem Acb : Ij Aik @f215 := fun p n a0 a1 H k => by kernel_rfl
noncomputable def Rm (p : Pr β) (n : Nat)  (k : KO β) : Nat → AV → AV → KO β
 | 0, _, _, _, _ => none
 | m + 1, t0, t1, t5, H => p.len t0 fun t13 =>
   p.bin .lss t5 t13 fun t14 =>
   p.cond t14
   (p.iadr 2 t0 t5 fun t19 =>
   p.load true 2 t19 H fun t20 =>
   p.iadr 2 t1 t5 fun t23 =>
   p.load true 2 t23 H fun t24 =>
   p.call 4 (.fn 215 [] []) [t20, t24] H fun t25 H =>
   p.un .not t25 fun t26 =>
   p.cond t26
   (k (.sc (.bool false)) H)
   (p.bin .add t5 (.sc (.int .i64 1)) fun t16 =>
   Rm p n  k m t0 t1 t16 H))
   (k (.sc (.bool true)) H)
noncomputable def f96 (p : Pr β) (n : Nat) (a0 a1 : AV) (H : Ab) (k : KO β) : Option β :=
 p.len a0 fun t7 =>
 p.len a1 fun t9 =>
 p.bin .neq t7 t9 fun t10 =>
 p.cond t10
 (k (.sc (.bool false)) H)
 (Rm p n  k n a0 a1 (.sc (.int .i64 0)) H)
noncomputable def Aez (p : Pr β) (n : Nat)  (k : KO β) (m : Nat) (tm : Tm) (H : Ab) : Option β :=
 Cm 27 (fun tm H k => Ad Ag p o96 27 n (cd c96 [1, 1, 0, 1, 0, 0]) tm H k) (Dj 0 (Da (fun tm H => Ad Ag p o96 27 n (cd c96 [1, 1, 1]) tm H (Bw Ag p fi96.results k)) (Bw Ag p fi96.results k))) m tm H
theorem Ac2 (p : Pr β) (n : Nat)  (k : KO β) (m0 : Nat) : ∀ (t : Nat → AV) (H : Ab), Aez p n  k m0 (tf 27 0 t) H = Rm p n  k m0 (t 0) (t 1) (t 5) H := by
 induction m0 with
 | zero => intros; rfl
 | succ m0 ih =>
  intro t H
  refine Eq.trans (A6 (nt := 27) (m := m0) (g := fun t H => Rm p n  k m0 (t 0) (t 1) (t 5) H) ih rfl) ?_
  kernel_rfl
theorem AgW (p : Pr β) (n : Nat) (a0 a1 : AV) (H : Ab) (k : KO β) : Be Ag p n fi96 [a0, a1] H k =
 p.len a0 fun t7 =>
 p.len a1 fun t9 =>
 p.bin .neq t7 t9 fun t10 =>
 p.cond t10
 (k (.sc (.bool false)) H)
 (Aez p n  k n (tf 27 0 (ud [(0, a0), (1, a1), (4, (.sc (.bool false))), (5, (.sc (.int .i64 0))), (6, a0), (7, t7), (8, a1), (9, t9), (10, t10)] ut)) H) := by kernel_rfl
theorem Ae0 : Ij fi96 @f96 := fun p n a0 a1 H k => by
 rw [AgW]
 simp only [Ac2]
 kernel_rfl
noncomputable def Rn (p : Pr β) (n : Nat)  (k : KO β) : Nat → AV → AV → KO β
 | 0, _, _, _, _ => none
 | m + 1, t0, t1, t5, H => p.len t0 fun t13 =>
   p.bin .lss t5 t13 fun t14 =>
   p.cond t14
   (p.iadr 1 t0 t5 fun t19 =>
   p.load false 1 t19 H fun t20 =>
   p.iadr 1 t1 t5 fun t23 =>
   p.load false 1 t23 H fun t24 =>
   p.bin .neq t20 t24 fun t25 =>
   p.cond t25
   (k (.sc (.bool false)) H)
   (p.bin .add t5 (.sc (.int .i64 1)) fun t16 =>
   Rn p n  k m t0 t1 t16 H))
   (k (.sc (.bool true)) H)
noncomputable def f97 (p : Pr β) (n : Nat) (a0 a1 : AV) (H : Ab) (k : KO β) : Option β :=
 p.len a0 fun t7 =>
 p.len a1 fun t9 =>
 p.bin .neq t7 t9 fun t10 =>
 p.cond t10
 (k (.sc (.bool false)) H)
 (Rn p n  k n a0 a1 (.sc (.int .i64 0)) H)
noncomputable def Ae1 (p : Pr β) (n : Nat)  (k : KO β) (m : Nat) (tm : Tm) (H : Ab) : Option β :=
 Cm 26 (fun tm H k => Ad Ag p o97 26 n (cd c97 [1, 1, 0, 1, 0, 0]) tm H k) (Dj 0 (Da (fun tm H => Ad Ag p o97 26 n (cd c97 [1, 1, 1]) tm H (Bw Ag p fi97.results k)) (Bw Ag p fi97.results k))) m tm H
theorem Ac3 (p : Pr β) (n : Nat)  (k : KO β) (m0 : Nat) : ∀ (t : Nat → AV) (H : Ab), Ae1 p n  k m0 (tf 26 0 t) H = Rn p n  k m0 (t 0) (t 1) (t 5) H := by
 induction m0 with
 | zero => intros; rfl
 | succ m0 ih =>
  intro t H
  refine Eq.trans (A6 (nt := 26) (m := m0) (g := fun t H => Rn p n  k m0 (t 0) (t 1) (t 5) H) ih rfl) ?_
  kernel_rfl
theorem AgX (p : Pr β) (n : Nat) (a0 a1 : AV) (H : Ab) (k : KO β) : Be Ag p n fi97 [a0, a1] H k =
 p.len a0 fun t7 =>
 p.len a1 fun t9 =>
 p.bin .neq t7 t9 fun t10 =>
 p.cond t10
 (k (.sc (.bool false)) H)
 (Ae1 p n  k n (tf 26 0 (ud [(0, a0), (1, a1), (4, (.sc (.bool false))), (5, (.sc (.int .i64 0))), (6, a0), (7, t7), (8, a1), (9, t9), (10, t10)] ut)) H) := by kernel_rfl
theorem Ae2 : Ij fi97 @f97 := fun p n a0 a1 H k => by
 rw [AgX]
 simp only [Ac3]
 kernel_rfl
noncomputable def Ra (p : Pr β) (n : Nat)  (k : KO β) : Nat → AV → AV → KO β
 | 0, _, _, _, _ => none
 | m + 1, t0, t1, t5, H => p.len t0 fun t13 =>
   p.bin .lss t5 t13 fun t14 =>
   p.cond t14
   (p.iadr 1 t0 t5 fun t19 =>
   p.load false 1 t19 H fun t20 =>
   p.iadr 1 t1 t5 fun t23 =>
   p.load false 1 t23 H fun t24 =>
   p.bin .neq t20 t24 fun t25 =>
   p.cond t25
   (k (.sc (.bool false)) H)
   (p.bin .add t5 (.sc (.int .i64 1)) fun t16 =>
   Ra p n  k m t0 t1 t16 H))
   (k (.sc (.bool true)) H)
noncomputable def f38 (p : Pr β) (n : Nat) (a0 a1 : AV) (H : Ab) (k : KO β) : Option β :=
 p.len a0 fun t7 =>
 p.len a1 fun t9 =>
 p.bin .neq t7 t9 fun t10 =>
 p.cond t10
 (k (.sc (.bool false)) H)
 (Ra p n  k n a0 a1 (.sc (.int .i64 0)) H)
noncomputable def AdT (p : Pr β) (n : Nat)  (k : KO β) (m : Nat) (tm : Tm) (H : Ab) : Option β :=
 Cm 26 (fun tm H k => Ad Ag p o38 26 n (cd c38 [1, 1, 0, 1, 0, 0]) tm H k) (Dj 0 (Da (fun tm H => Ad Ag p o38 26 n (cd c38 [1, 1, 1]) tm H (Bw Ag p fi38.results k)) (Bw Ag p fi38.results k))) m tm H
theorem Acm (p : Pr β) (n : Nat)  (k : KO β) (m0 : Nat) : ∀ (t : Nat → AV) (H : Ab), AdT p n  k m0 (tf 26 0 t) H = Ra p n  k m0 (t 0) (t 1) (t 5) H := by
 induction m0 with
 | zero => intros; rfl
 | succ m0 ih =>
  intro t H
  refine Eq.trans (A6 (nt := 26) (m := m0) (g := fun t H => Ra p n  k m0 (t 0) (t 1) (t 5) H) ih rfl) ?_
  kernel_rfl
theorem AgH (p : Pr β) (n : Nat) (a0 a1 : AV) (H : Ab) (k : KO β) : Be Ag p n fi38 [a0, a1] H k =
 p.len a0 fun t7 =>
 p.len a1 fun t9 =>
 p.bin .neq t7 t9 fun t10 =>
 p.cond t10
 (k (.sc (.bool false)) H)
 (AdT p n  k n (tf 26 0 (ud [(0, a0), (1, a1), (4, (.sc (.bool false))), (5, (.sc (.int .i64 0))), (6, a0), (7, t7), (8, a1), (9, t9), (10, t10)] ut)) H) := by kernel_rfl
theorem AdU : Ij fi38 @f38 := fun p n a0 a1 H k => by
 rw [AgH]
 simp only [Acm]
 kernel_rfl
noncomputable def f17 (p : Pr β) (n : Nat) (a0 a1 : AV) (H : Ab) (k : KO β) : Option β :=
 p.box a0 H fun t2 H =>
 p.box a1 H fun t3 H =>
 p.fadr 0 t2 fun t5 =>
 p.load false 1 t5 H fun t6 =>
 p.fadr 0 t3 fun t7 =>
 p.load false 1 t7 H fun t8 =>
 p.bin .neq t6 t8 fun t9 =>
 p.cond t9
 (k (.sc (.bool false)) H)
 (p.fadr 1 t2 fun t10 =>
 p.load false 1 t10 H fun t11 =>
 p.fadr 1 t3 fun t12 =>
 p.load false 1 t12 H fun t13 =>
 p.binB .neq t11 t13 fun t14 =>
 p.cond t14
 (k (.sc (.bool false)) H)
 (p.fadr 2 t2 fun t15 =>
 p.load false 1 t15 H fun t16 =>
 p.fadr 2 t3 fun t17 =>
 p.load false 1 t17 H fun t18 =>
 p.bin .neq t16 t18 fun t19 =>
 p.cond t19
 (k (.sc (.bool false)) H)
 (p.fadr 3 t2 fun t20 =>
 p.load false 1 t20 H fun t21 =>
 p.fadr 3 t3 fun t22 =>
 p.load false 1 t22 H fun t23 =>
 p.binB .neq t21 t23 fun t24 =>
 p.cond t24
 (k (.sc (.bool false)) H)
 (p.fadr 4 t2 fun t25 =>
 p.load false 1 t25 H fun t26 =>
 p.fadr 4 t3 fun t27 =>
 p.load false 1 t27 H fun t28 =>
 p.bin .neq t26 t28 fun t29 =>
 p.cond t29
 (k (.sc (.bool false)) H)
 (p.fadr 5 t2 fun t30 =>
 p.load false 1 t30 H fun t31 =>
 p.fadr 5 t3 fun t32 =>
 p.load false 1 t32 H fun t33 =>
 p.bin .neq t31 t33 fun t34 =>
 p.cond t34
 (k (.sc (.bool false)) H)
 (p.fadr 6 t2 fun t35 =>
 p.load false 1 t35 H fun t36 =>
 p.fadr 6 t3 fun t37 =>
 p.load false 1 t37 H fun t38 =>
 p.call 4 (.fn 95 [] []) [t36, t38] H fun t39 H =>
 p.un .not t39 fun t40 =>
 p.cond t40
 (k (.sc (.bool false)) H)
 (p.fadr 7 t2 fun t41 =>
 p.load false 1 t41 H fun t42 =>
 p.fadr 7 t3 fun t43 =>
 p.load false 1 t43 H fun t44 =>
 p.bin .neq t42 t44 fun t45 =>
 p.cond t45
 (k (.sc (.bool false)) H)
 (p.fadr 8 t2 fun t46 =>
 p.load false 1 t46 H fun t47 =>
 p.fadr 8 t3 fun t48 =>
 p.load false 1 t48 H fun t49 =>
 p.bin .neq t47 t49 fun t50 =>
 p.cond t50
 (k (.sc (.bool false)) H)
 (p.fadr 9 t2 fun t51 =>
 p.load false 1 t51 H fun t52 =>
 p.fadr 9 t3 fun t53 =>
 p.load false 1 t53 H fun t54 =>
 p.binB .neq t52 t54 fun t55 =>
 p.cond t55
 (k (.sc (.bool false)) H)
 (p.fadr 10 t2 fun t56 =>
 p.load false 1 t56 H fun t57 =>
 p.fadr 10 t3 fun t58 =>
 p.load false 1 t58 H fun t59 =>
 p.bin .neq t57 t59 fun t60 =>
 p.cond t60
 (k (.sc (.bool false)) H)
 (p.fadr 11 t2 fun t61 =>
 p.load false 1 t61 H fun t62 =>
 p.fadr 11 t3 fun t63 =>
 p.load false 1 t63 H fun t64 =>
 p.binB .neq t62 t64 fun t65 =>
 p.cond t65
 (k (.sc (.bool false)) H)
 (p.fadr 12 t2 fun t66 =>
 p.load false 1 t66 H fun t67 =>
 p.fadr 12 t3 fun t68 =>
 p.load false 1 t68 H fun t69 =>
 p.bin .neq t67 t69 fun t70 =>
 p.cond t70
 (k (.sc (.bool false)) H)
 (p.fadr 13 t2 fun t71 =>
 p.load false 1 t71 H fun t72 =>
 p.fadr 13 t3 fun t73 =>
 p.load false 1 t73 H fun t74 =>
 p.call 4 (.fn 95 [] []) [t72, t74] H fun t75 H =>
 p.un .not t75 fun t76 =>
 p.cond t76
 (k (.sc (.bool false)) H)
 (p.fadr 14 t2 fun t77 =>
 p.load false 1 t77 H fun t78 =>
 p.fadr 14 t3 fun t79 =>
 p.load false 1 t79 H fun t80 =>
 p.bin .neq t78 t80 fun t81 =>
 p.cond t81
 (k (.sc (.bool false)) H)
 (p.fadr 15 t2 fun t82 =>
 p.load false 1 t82 H fun t83 =>
 p.fadr 15 t3 fun t84 =>
 p.load false 1 t84 H fun t85 =>
 p.binB .neq t83 t85 fun t86 =>
 p.cond t86
 (k (.sc (.bool false)) H)
 (p.fadr 16 t2 fun t87 =>
 p.load false 1 t87 H fun t88 =>
 p.fadr 16 t3 fun t89 =>
 p.load false 1 t89 H fun t90 =>
 p.binB .neq t88 t90 fun t91 =>
 p.cond t91
 (k (.sc (.bool false)) H)
 (p.fadr 17 t2 fun t92 =>
 p.load false 1 t92 H fun t93 =>
 p.fadr 17 t3 fun t94 =>
 p.load false 1 t94 H fun t95 =>
 p.bin .neq t93 t95 fun t96 =>
 p.cond t96
 (k (.sc (.bool false)) H)
 (p.fadr 18 t2 fun t97 =>
 p.load false 1 t97 H fun t98 =>
 p.fadr 18 t3 fun t99 =>
 p.load false 1 t99 H fun t100 =>
 p.binB .neq t98 t100 fun t101 =>
 p.cond t101
 (k (.sc (.bool false)) H)
 (p.fadr 19 t2 fun t102 =>
 p.load false 1 t102 H fun t103 =>
 p.fadr 19 t3 fun t104 =>
 p.load false 1 t104 H fun t105 =>
 p.call 4 (.fn 95 [] []) [t103, t105] H fun t106 H =>
 p.un .not t106 fun t107 =>
 p.cond t107
 (k (.sc (.bool false)) H)
 (p.fadr 20 t2 fun t108 =>
 p.load false 1 t108 H fun t109 =>
 p.fadr 20 t3 fun t110 =>
 p.load false 1 t110 H fun t111 =>
 p.bin .neq t109 t111 fun t112 =>
 p.cond t112
 (k (.sc (.bool false)) H)
 (p.fadr 21 t2 fun t113 =>
 p.load false 1 t113 H fun t114 =>
 p.fadr 21 t3 fun t115 =>
 p.load false 1 t115 H fun t116 =>
 p.binB .neq t114 t116 fun t117 =>
 p.cond t117
 (k (.sc (.bool false)) H)
 (p.fadr 22 t2 fun t118 =>
 p.load false 1 t118 H fun t119 =>
 p.fadr 22 t3 fun t120 =>
 p.load false 1 t120 H fun t121 =>
 p.call 4 (.fn 96 [] []) [t119, t121] H fun t122 H =>
 p.un .not t122 fun t123 =>
 p.cond t123
 (k (.sc (.bool false)) H)
 (p.fadr 23 t2 fun t124 =>
 p.load false 1 t124 H fun t125 =>
 p.fadr 23 t3 fun t126 =>
 p.load false 1 t126 H fun t127 =>
 p.call 4 (.fn 97 [] []) [t125, t127] H fun t128 H =>
 p.un .not t128 fun t129 =>
 p.cond t129
 (k (.sc (.bool false)) H)
 (p.fadr 24 t2 fun t130 =>
 p.load false 1 t130 H fun t131 =>
 p.fadr 24 t3 fun t132 =>
 p.load false 1 t132 H fun t133 =>
 p.call 4 (.fn 38 [] []) [t131, t133] H fun t134 H =>
 p.un .not t134 fun t135 =>
 p.cond t135
 (k (.sc (.bool false)) H)
 (k (.sc (.bool true)) H)))))))))))))))))))))))))
theorem AdB : Ij Akk @f17 := fun p n a0 a1 H k => by kernel_rfl
noncomputable def Nz (p : Pr β) (n : Nat)  (k : KO β) : Nat → AV → KO β
 | 0, _, _, _ => none
 | m + 1, t0, t3, H => p.bin .gtr t0 (.sc (.int .i64 0)) fun t7 =>
   p.cond t7
   (p.bin .rem t0 (.sc (.int .i64 10)) fun t9 =>
   p.bin .add (.sc (.int .i64 48)) t9 fun t10 =>
   p.cvI .u8 t10 fun t11 =>
   p.fill [(.sc (.int .u8 0))] [(0, 1, t11)] fun ct12 => p.newSl 1 1 ct12 true H fun t12 H =>
   p.cvBS t12 H fun t13 =>
   p.bin .add t13 t3 fun t15 =>
   p.bin .quo t0 (.sc (.int .i64 10)) fun t17 =>
   Nz p n  k m t17 t15 H)
   (p.bin .add (.sc (.string ⟨#[109]⟩)) t3 fun t19 =>
   k t19 H)
noncomputable def f216 (p : Pr β) (n : Nat) (a0 : AV) (H : Ab) (k : KO β) : Option β :=
 p.bin .leq a0 (.sc (.int .i64 0)) fun t5 =>
 p.cond t5
 (k (.sc (.string ⟨#[109, 48]⟩)) H)
 (Nz p n  k n a0 (.sc (.string ⟨#[]⟩)) H)
noncomputable def Aa9 (p : Pr β) (n : Nat)  (k : KO β) (m : Nat) (tm : Tm) (H : Ab) : Option β :=
 Cm 20 (fun tm H k => Ad Ag p [] 20 n (cd AiJ [1, 1, 1, 0, 0, 0]) tm H k) (Dj 0 (Da (fun tm H => Ad Ag p [] 20 n (cd AiJ [1, 1, 1, 1]) tm H (Bw Ag p fi216.results k)) (Bw Ag p fi216.results k))) m tm H
theorem Ys (p : Pr β) (n : Nat)  (k : KO β) (m0 : Nat) : ∀ (t : Nat → AV) (H : Ab), Aa9 p n  k m0 (tf 20 0 t) H = Nz p n  k m0 (t 0) (t 3) H := by
 induction m0 with
 | zero => intros; rfl
 | succ m0 ih =>
  intro t H
  refine Eq.trans (A6 (nt := 20) (m := m0) (g := fun t H => Nz p n  k m0 (t 0) (t 3) H) ih rfl) ?_
  kernel_rfl
theorem AdM (p : Pr β) (n : Nat) (a0 : AV) (H : Ab) (k : KO β) : Be Ag p n fi216 [a0] H k =
 p.bin .leq a0 (.sc (.int .i64 0)) fun t5 =>
 p.cond t5
 (k (.sc (.string ⟨#[109, 48]⟩)) H)
 (Aa9 p n  k n (tf 20 0 (ud [(0, a0), (2, (.sc (.string ⟨#[]⟩))), (3, (.sc (.string ⟨#[]⟩))), (4, a0), (5, t5)] ut)) H) := by kernel_rfl
theorem Acc : K5 fi216 @f216 := fun p n a0 H k => by
 rw [AdM]
 simp only [Ys]
 kernel_rfl
noncomputable def Ng (p : Pr β) (n : Nat)  (k : KO β) : Nat → AV → AV → KO β
 | 0, _, _, _, _ => none
 | m + 1, t0, t1, t5, H => p.len t0 fun t8 =>
   p.bin .lss t5 t8 fun t9 =>
   p.cond t9
   (p.cvI .u8 t1 fun t15 =>
   p.iadr 1 t0 t5 fun t16 =>
   p.store 1 t16 t15 H fun H =>
   p.bin .add t1 (.sc (.int .i64 1)) fun t18 =>
   p.bin .add t5 (.sc (.int .i64 1)) fun t11 =>
   Ng p n  k m t0 t18 t11 H)
   (k t1 H)
noncomputable def f100 (p : Pr β) (n : Nat) (a0 a1 : AV) (H : Ab) (k : KO β) : Option β :=
 Ng p n  k n a0 a1 (.sc (.int .i64 0)) H
noncomputable def Aal (p : Pr β) (n : Nat)  (k : KO β) (m : Nat) (tm : Tm) (H : Ab) : Option β :=
 Cm 20 (fun tm H k => Ad Ag p [] 20 n (cd Ai2 [1, 0, 1, 0, 0]) tm H k) (Dj 0 (Da (fun tm H => Ad Ag p [] 20 n (cd Ai2 [1, 1]) tm H (Bw Ag p fi100.results k)) (Bw Ag p fi100.results k))) m tm H
theorem X7 (p : Pr β) (n : Nat)  (k : KO β) (m0 : Nat) : ∀ (t : Nat → AV) (H : Ab), Aal p n  k m0 (tf 20 0 t) H = Ng p n  k m0 (t 0) (t 1) (t 5) H := by
 induction m0 with
 | zero => intros; rfl
 | succ m0 ih =>
  intro t H
  refine Eq.trans (A6 (nt := 20) (m := m0) (g := fun t H => Ng p n  k m0 (t 0) (t 1) (t 5) H) ih rfl) ?_
  kernel_rfl
theorem Adt (p : Pr β) (n : Nat) (a0 a1 : AV) (H : Ab) (k : KO β) : Be Ag p n fi100 [a0, a1] H k =
 Aal p n  k n (tf 20 0 (ud [(0, a0), (1, a1), (4, (.sc (.int .i64 0))), (5, (.sc (.int .i64 0)))] ut)) H := by kernel_rfl
theorem Abu : Ij fi100 @f100 := fun p n a0 a1 H k => by
 rw [Adt]
 simp only [X7]
 kernel_rfl
noncomputable def Ro (p : Pr β) (n : Nat)  (k : KO β) : Nat → AV → AV → KO β
 | 0, _, _, _, _ => none
 | m + 1, t0, t1, t5, H => p.len t0 fun t8 =>
   p.bin .lss t5 t8 fun t9 =>
   p.cond t9
   (p.iadr 6 t0 t5 fun t15 =>
   p.fadr 0 t15 fun t16 =>
   p.store 1 t16 t1 H fun H =>
   p.bin .add t1 (.sc (.int .i64 1)) fun t18 =>
   p.call 9 (.fn 216 [] []) [t18] H fun t22 H =>
   p.iadr 6 t0 t5 fun t23 =>
   p.fadr 1 t23 fun t24 =>
   p.fadr 0 t24 fun t25 =>
   p.store 1 t25 t22 H fun H =>
   p.bin .add t18 (.sc (.int .i64 1)) fun t27 =>
   p.iadr 6 t0 t5 fun t30 =>
   p.fadr 1 t30 fun t31 =>
   p.fadr 1 t31 fun t32 =>
   p.load false 1 t32 H fun t33 =>
   p.call 3 (.fn 100 [] []) [t33, t27] H fun t35 H =>
   p.iadr 6 t0 t5 fun t39 =>
   p.fadr 1 t39 fun t40 =>
   p.fadr 2 t40 fun t41 =>
   p.store 1 t41 t35 H fun H =>
   p.bin .add t35 (.sc (.int .i64 1)) fun t43 =>
   p.bin .rem t43 (.sc (.int .i64 3)) fun t47 =>
   p.bin .eql t47 (.sc (.int .i64 0)) fun t48 =>
   p.iadr 6 t0 t5 fun t49 =>
   p.fadr 1 t49 fun t50 =>
   p.fadr 3 t50 fun t51 =>
   p.store 1 t51 t48 H fun H =>
   p.bin .add t43 (.sc (.int .i64 1)) fun t53 =>
   p.iadr 6 t0 t5 fun t57 =>
   p.fadr 5 t57 fun t58 =>
   p.store 1 t58 t53 H fun H =>
   p.bin .add t53 (.sc (.int .i64 1)) fun t60 =>
   p.bin .add t5 (.sc (.int .i64 1)) fun t11 =>
   Ro p n  k m t0 t60 t11 H)
   (k t1 H)
noncomputable def f98 (p : Pr β) (n : Nat) (a0 a1 : AV) (H : Ab) (k : KO β) : Option β :=
 Ro p n  k n a0 a1 (.sc (.int .i64 0)) H
noncomputable def Ae3 (p : Pr β) (n : Nat)  (k : KO β) (m : Nat) (tm : Tm) (H : Ab) : Option β :=
 Cm 62 (fun tm H k => Ad Ag p [] 62 n (cd c98 [1, 0, 1, 0, 0]) tm H k) (Dj 0 (Da (fun tm H => Ad Ag p [] 62 n (cd c98 [1, 1]) tm H (Bw Ag p fi98.results k)) (Bw Ag p fi98.results k))) m tm H
theorem Ac4 (p : Pr β) (n : Nat)  (k : KO β) (m0 : Nat) : ∀ (t : Nat → AV) (H : Ab), Ae3 p n  k m0 (tf 62 0 t) H = Ro p n  k m0 (t 0) (t 1) (t 5) H := by
 induction m0 with
 | zero => intros; rfl
 | succ m0 ih =>
  intro t H
  refine Eq.trans (A6 (nt := 62) (m := m0) (g := fun t H => Ro p n  k m0 (t 0) (t 1) (t 5) H) ih rfl) ?_
  kernel_rfl
theorem AgY (p : Pr β) (n : Nat) (a0 a1 : AV) (H : Ab) (k : KO β) : Be Ag p n fi98 [a0, a1] H k =
 Ae3 p n  k n (tf 62 0 (ud [(0, a0), (1, a1), (4, (.sc (.int .i64 0))), (5, (.sc (.int .i64 0)))] ut)) H := by kernel_rfl
theorem Ae4 : Ij fi98 @f98 := fun p n a0 a1 H k => by
 rw [AgY]
 simp only [Ac4]
 kernel_rfl
noncomputable def Rp (p : Pr β) (n : Nat)  (k : KO β) : Nat → AV → AV → KO β
 | 0, _, _, _, _ => none
 | m + 1, t0, t1, t5, H => p.len t0 fun t8 =>
   p.bin .lss t5 t8 fun t9 =>
   p.cond t9
   (p.call 9 (.fn 216 [] []) [t1] H fun t15 H =>
   p.iadr 4 t0 t5 fun t16 =>
   p.fadr 0 t16 fun t17 =>
   p.store 1 t17 t15 H fun H =>
   p.bin .add t1 (.sc (.int .i64 1)) fun t19 =>
   p.iadr 4 t0 t5 fun t22 =>
   p.fadr 1 t22 fun t23 =>
   p.load false 1 t23 H fun t24 =>
   p.call 3 (.fn 100 [] []) [t24, t19] H fun t26 H =>
   p.iadr 4 t0 t5 fun t30 =>
   p.fadr 2 t30 fun t31 =>
   p.store 1 t31 t26 H fun H =>
   p.bin .add t26 (.sc (.int .i64 1)) fun t33 =>
   p.bin .rem t33 (.sc (.int .i64 3)) fun t37 =>
   p.bin .eql t37 (.sc (.int .i64 0)) fun t38 =>
   p.iadr 4 t0 t5 fun t39 =>
   p.fadr 3 t39 fun t40 =>
   p.store 1 t40 t38 H fun H =>
   p.bin .add t33 (.sc (.int .i64 1)) fun t42 =>
   p.bin .add t5 (.sc (.int .i64 1)) fun t11 =>
   Rp p n  k m t0 t42 t11 H)
   (k t1 H)
noncomputable def f99 (p : Pr β) (n : Nat) (a0 a1 : AV) (H : Ab) (k : KO β) : Option β :=
 Rp p n  k n a0 a1 (.sc (.int .i64 0)) H
noncomputable def Ae5 (p : Pr β) (n : Nat)  (k : KO β) (m : Nat) (tm : Tm) (H : Ab) : Option β :=
 Cm 44 (fun tm H k => Ad Ag p [] 44 n (cd c99 [1, 0, 1, 0, 0]) tm H k) (Dj 0 (Da (fun tm H => Ad Ag p [] 44 n (cd c99 [1, 1]) tm H (Bw Ag p fi99.results k)) (Bw Ag p fi99.results k))) m tm H
theorem Ac5 (p : Pr β) (n : Nat)  (k : KO β) (m0 : Nat) : ∀ (t : Nat → AV) (H : Ab), Ae5 p n  k m0 (tf 44 0 t) H = Rp p n  k m0 (t 0) (t 1) (t 5) H := by
 induction m0 with
 | zero => intros; rfl
 | succ m0 ih =>
  intro t H
  refine Eq.trans (A6 (nt := 44) (m := m0) (g := fun t H => Rp p n  k m0 (t 0) (t 1) (t 5) H) ih rfl) ?_
  kernel_rfl
theorem AgZ (p : Pr β) (n : Nat) (a0 a1 : AV) (H : Ab) (k : KO β) : Be Ag p n fi99 [a0, a1] H k =
 Ae5 p n  k n (tf 44 0 (ud [(0, a0), (1, a1), (4, (.sc (.int .i64 0))), (5, (.sc (.int .i64 0)))] ut)) H := by kernel_rfl
theorem Ae6 : Ij fi99 @f99 := fun p n a0 a1 H k => by
 rw [AgZ]
 simp only [Ac5]
 kernel_rfl
noncomputable def f18 (p : Pr β) (n : Nat) (a0 a1 : AV) (H : Ab) (k : KO β) : Option β :=
 p.box a0 H fun t2 H =>
 p.fadr 1 t2 fun t5 =>
 p.load false 1 t5 H fun t6 =>
 p.call 3 (.fn 98 [] []) [t6, a1] H fun t8 H =>
 p.fadr 2 t2 fun t9 =>
 p.load false 1 t9 H fun t10 =>
 p.call 3 (.fn 99 [] []) [t10, t8] H fun t12 H =>
 k t12 H
theorem AdC : Ij Akl @f18 := fun p n a0 a1 H k => by kernel_rfl
noncomputable def Nh (p : Pr β) (n : Nat)  (k : KO β) : Nat → AV → AV → KO β
 | 0, _, _, _, _ => none
 | m + 1, t0, t1, t5, H => p.len t0 fun t8 =>
   p.bin .lss t5 t8 fun t9 =>
   p.cond t9
   (p.call 9 (.fn 216 [] []) [t1] H fun t15 H =>
   p.iadr 2 t0 t5 fun t16 =>
   p.fadr 0 t16 fun t17 =>
   p.store 1 t17 t15 H fun H =>
   p.bin .add t1 (.sc (.int .i64 1)) fun t19 =>
   p.iadr 2 t0 t5 fun t23 =>
   p.fadr 1 t23 fun t24 =>
   p.store 1 t24 t19 H fun H =>
   p.bin .add t19 (.sc (.int .i64 1)) fun t26 =>
   p.bin .add t5 (.sc (.int .i64 1)) fun t11 =>
   Nh p n  k m t0 t26 t11 H)
   (k t1 H)
noncomputable def f101 (p : Pr β) (n : Nat) (a0 a1 : AV) (H : Ab) (k : KO β) : Option β :=
 Nh p n  k n a0 a1 (.sc (.int .i64 0)) H
noncomputable def Aam (p : Pr β) (n : Nat)  (k : KO β) (m : Nat) (tm : Tm) (H : Ab) : Option β :=
 Cm 28 (fun tm H k => Ad Ag p [] 28 n (cd Ai3 [1, 0, 1, 0, 0]) tm H k) (Dj 0 (Da (fun tm H => Ad Ag p [] 28 n (cd Ai3 [1, 1]) tm H (Bw Ag p fi101.results k)) (Bw Ag p fi101.results k))) m tm H
theorem X8 (p : Pr β) (n : Nat)  (k : KO β) (m0 : Nat) : ∀ (t : Nat → AV) (H : Ab), Aam p n  k m0 (tf 28 0 t) H = Nh p n  k m0 (t 0) (t 1) (t 5) H := by
 induction m0 with
 | zero => intros; rfl
 | succ m0 ih =>
  intro t H
  refine Eq.trans (A6 (nt := 28) (m := m0) (g := fun t H => Nh p n  k m0 (t 0) (t 1) (t 5) H) ih rfl) ?_
  kernel_rfl
theorem Adu (p : Pr β) (n : Nat) (a0 a1 : AV) (H : Ab) (k : KO β) : Be Ag p n fi101 [a0, a1] H k =
 Aam p n  k n (tf 28 0 (ud [(0, a0), (1, a1), (4, (.sc (.int .i64 0))), (5, (.sc (.int .i64 0)))] ut)) H := by kernel_rfl
theorem Abv : Ij fi101 @f101 := fun p n a0 a1 H k => by
 rw [Adu]
 simp only [X8]
 kernel_rfl
noncomputable def Ni (p : Pr β) (n : Nat)  (k : KO β) : Nat → AV → AV → KO β
 | 0, _, _, _, _ => none
 | m + 1, t0, t1, t5, H => p.len t0 fun t8 =>
   p.bin .lss t5 t8 fun t9 =>
   p.cond t9
   (p.call 9 (.fn 216 [] []) [t1] H fun t15 H =>
   p.iadr 1 t0 t5 fun t16 =>
   p.store 1 t16 t15 H fun H =>
   p.bin .add t1 (.sc (.int .i64 1)) fun t18 =>
   p.bin .add t5 (.sc (.int .i64 1)) fun t11 =>
   Ni p n  k m t0 t18 t11 H)
   (k t1 H)
noncomputable def f102 (p : Pr β) (n : Nat) (a0 a1 : AV) (H : Ab) (k : KO β) : Option β :=
 Ni p n  k n a0 a1 (.sc (.int .i64 0)) H
noncomputable def Aan (p : Pr β) (n : Nat)  (k : KO β) (m : Nat) (tm : Tm) (H : Ab) : Option β :=
 Cm 20 (fun tm H k => Ad Ag p [] 20 n (cd Ai4 [1, 0, 1, 0, 0]) tm H k) (Dj 0 (Da (fun tm H => Ad Ag p [] 20 n (cd Ai4 [1, 1]) tm H (Bw Ag p fi102.results k)) (Bw Ag p fi102.results k))) m tm H
theorem X9 (p : Pr β) (n : Nat)  (k : KO β) (m0 : Nat) : ∀ (t : Nat → AV) (H : Ab), Aan p n  k m0 (tf 20 0 t) H = Ni p n  k m0 (t 0) (t 1) (t 5) H := by
 induction m0 with
 | zero => intros; rfl
 | succ m0 ih =>
  intro t H
  refine Eq.trans (A6 (nt := 20) (m := m0) (g := fun t H => Ni p n  k m0 (t 0) (t 1) (t 5) H) ih rfl) ?_
  kernel_rfl
theorem Adv (p : Pr β) (n : Nat) (a0 a1 : AV) (H : Ab) (k : KO β) : Be Ag p n fi102 [a0, a1] H k =
 Aan p n  k n (tf 20 0 (ud [(0, a0), (1, a1), (4, (.sc (.int .i64 0))), (5, (.sc (.int .i64 0)))] ut)) H := by kernel_rfl
theorem Abw : Ij fi102 @f102 := fun p n a0 a1 H k => by
 rw [Adv]
 simp only [X9]
 kernel_rfl
noncomputable def Rb (p : Pr β) (n : Nat)  (k : KO β) : Nat → AV → AV → KO β
 | 0, _, _, _, _ => none
 | m + 1, t0, t1, t5, H => p.len t0 fun t8 =>
   p.bin .lss t5 t8 fun t9 =>
   p.cond t9
   (p.iadr 1 t0 t5 fun t15 =>
   p.store 1 t15 t1 H fun H =>
   p.bin .add t1 (.sc (.int .i64 1)) fun t17 =>
   p.bin .add t5 (.sc (.int .i64 1)) fun t11 =>
   Rb p n  k m t0 t17 t11 H)
   (k t1 H)
noncomputable def f39 (p : Pr β) (n : Nat) (a0 a1 : AV) (H : Ab) (k : KO β) : Option β :=
 Rb p n  k n a0 a1 (.sc (.int .i64 0)) H
noncomputable def AdV (p : Pr β) (n : Nat)  (k : KO β) (m : Nat) (tm : Tm) (H : Ab) : Option β :=
 Cm 19 (fun tm H k => Ad Ag p [] 19 n (cd c39 [1, 0, 1, 0, 0]) tm H k) (Dj 0 (Da (fun tm H => Ad Ag p [] 19 n (cd c39 [1, 1]) tm H (Bw Ag p fi39.results k)) (Bw Ag p fi39.results k))) m tm H
theorem Acn (p : Pr β) (n : Nat)  (k : KO β) (m0 : Nat) : ∀ (t : Nat → AV) (H : Ab), AdV p n  k m0 (tf 19 0 t) H = Rb p n  k m0 (t 0) (t 1) (t 5) H := by
 induction m0 with
 | zero => intros; rfl
 | succ m0 ih =>
  intro t H
  refine Eq.trans (A6 (nt := 19) (m := m0) (g := fun t H => Rb p n  k m0 (t 0) (t 1) (t 5) H) ih rfl) ?_
  kernel_rfl
theorem AgI (p : Pr β) (n : Nat) (a0 a1 : AV) (H : Ab) (k : KO β) : Be Ag p n fi39 [a0, a1] H k =
 AdV p n  k n (tf 19 0 (ud [(0, a0), (1, a1), (4, (.sc (.int .i64 0))), (5, (.sc (.int .i64 0)))] ut)) H := by kernel_rfl
theorem AdW : Ij fi39 @f39 := fun p n a0 a1 H k => by
 rw [AgI]
 simp only [Acn]
 kernel_rfl
noncomputable def f19 (p : Pr β) (n : Nat) (a0 a1 : AV) (H : Ab) (k : KO β) : Option β :=
 p.box a0 H fun t2 H =>
 p.fadr 6 t2 fun t5 =>
 p.load false 1 t5 H fun t6 =>
 p.call 3 (.fn 100 [] []) [t6, a1] H fun t8 H =>
 p.fadr 13 t2 fun t9 =>
 p.load false 1 t9 H fun t10 =>
 p.call 3 (.fn 100 [] []) [t10, t8] H fun t12 H =>
 p.fadr 19 t2 fun t13 =>
 p.load false 1 t13 H fun t14 =>
 p.call 3 (.fn 100 [] []) [t14, t12] H fun t16 H =>
 p.fadr 22 t2 fun t17 =>
 p.load false 1 t17 H fun t18 =>
 p.call 3 (.fn 101 [] []) [t18, t16] H fun t20 H =>
 p.fadr 23 t2 fun t21 =>
 p.load false 1 t21 H fun t22 =>
 p.call 3 (.fn 102 [] []) [t22, t20] H fun t24 H =>
 p.fadr 24 t2 fun t25 =>
 p.load false 1 t25 H fun t26 =>
 p.call 3 (.fn 39 [] []) [t26, t24] H fun t28 H =>
 k t28 H
theorem AdE : Ij Akm @f19 := fun p n a0 a1 H k => by kernel_rfl
noncomputable def Nl (p : Pr β) (n : Nat)  (k : KO β) : Nat → AV → AV → KO β
 | 0, _, _, _, _ => none
 | m + 1, t0, t1, t5, H => p.len t0 fun t8 =>
   p.bin .lss t5 t8 fun t9 =>
   p.cond t9
   (p.iadr 1 t0 t5 fun t14 =>
   p.load false 1 t14 H fun t15 =>
   p.cvI .u8 t1 fun t17 =>
   p.bin .neq t15 t17 fun t18 =>
   p.cond t18
   (k (.sc (.int .i64 (-1))) H)
   (p.bin .add t1 (.sc (.int .i64 1)) fun t20 =>
   p.bin .add t5 (.sc (.int .i64 1)) fun t11 =>
   Nl p n  k m t0 t20 t11 H))
   (k t1 H)
noncomputable def f105 (p : Pr β) (n : Nat) (a0 a1 : AV) (H : Ab) (k : KO β) : Option β :=
 Nl p n  k n a0 a1 (.sc (.int .i64 0)) H
noncomputable def Aaq (p : Pr β) (n : Nat)  (k : KO β) (m : Nat) (tm : Tm) (H : Ab) : Option β :=
 Cm 22 (fun tm H k => Ad Ag p [] 22 n (cd Ai7 [1, 0, 1, 0, 0]) tm H k) (Dj 0 (Da (fun tm H => Ad Ag p [] 22 n (cd Ai7 [1, 1]) tm H (Bw Ag p fi105.results k)) (Bw Ag p fi105.results k))) m tm H
theorem Yc (p : Pr β) (n : Nat)  (k : KO β) (m0 : Nat) : ∀ (t : Nat → AV) (H : Ab), Aaq p n  k m0 (tf 22 0 t) H = Nl p n  k m0 (t 0) (t 1) (t 5) H := by
 induction m0 with
 | zero => intros; rfl
 | succ m0 ih =>
  intro t H
  refine Eq.trans (A6 (nt := 22) (m := m0) (g := fun t H => Nl p n  k m0 (t 0) (t 1) (t 5) H) ih rfl) ?_
  kernel_rfl
theorem Ady (p : Pr β) (n : Nat) (a0 a1 : AV) (H : Ab) (k : KO β) : Be Ag p n fi105 [a0, a1] H k =
 Aaq p n  k n (tf 22 0 (ud [(0, a0), (1, a1), (4, (.sc (.int .i64 0))), (5, (.sc (.int .i64 0)))] ut)) H := by kernel_rfl
theorem Abz : Ij fi105 @f105 := fun p n a0 a1 H k => by
 rw [Ady]
 simp only [Yc]
 kernel_rfl
noncomputable def Nj (p : Pr β) (n : Nat)  (k : KO β) : Nat → AV → AV → KO β
 | 0, _, _, _, _ => none
 | m + 1, t0, t1, t5, H => p.len t0 fun t8 =>
   p.bin .lss t5 t8 fun t9 =>
   p.cond t9
   (p.iadr 6 t0 t5 fun t14 =>
   p.fadr 0 t14 fun t15 =>
   p.load false 1 t15 H fun t16 =>
   p.bin .neq t16 t1 fun t18 =>
   p.cond t18
   (k (.sc (.int .i64 (-1))) H)
   (p.bin .add t1 (.sc (.int .i64 1)) fun t20 =>
   p.iadr 6 t0 t5 fun t23 =>
   p.fadr 1 t23 fun t24 =>
   p.fadr 0 t24 fun t25 =>
   p.load false 1 t25 H fun t26 =>
   p.call 9 (.fn 216 [] []) [t20] H fun t28 H =>
   p.bin .neq t26 t28 fun t29 =>
   p.cond t29
   (k (.sc (.int .i64 (-1))) H)
   (p.bin .add t20 (.sc (.int .i64 1)) fun t31 =>
   p.iadr 6 t0 t5 fun t34 =>
   p.fadr 1 t34 fun t35 =>
   p.fadr 1 t35 fun t36 =>
   p.load false 1 t36 H fun t37 =>
   p.call 3 (.fn 105 [] []) [t37, t31] H fun t39 H =>
   p.bin .lss t39 (.sc (.int .i64 0)) fun t41 =>
   p.cond t41
   (k (.sc (.int .i64 (-1))) H)
   (p.iadr 6 t0 t5 fun t44 =>
   p.fadr 1 t44 fun t45 =>
   p.fadr 2 t45 fun t46 =>
   p.load false 1 t46 H fun t47 =>
   p.bin .neq t47 t39 fun t49 =>
   p.cond t49
   (k (.sc (.int .i64 (-1))) H)
   (p.bin .add t39 (.sc (.int .i64 1)) fun t51 =>
   p.iadr 6 t0 t5 fun t54 =>
   p.fadr 1 t54 fun t55 =>
   p.fadr 3 t55 fun t56 =>
   p.load false 1 t56 H fun t57 =>
   p.bin .rem t51 (.sc (.int .i64 3)) fun t59 =>
   p.bin .eql t59 (.sc (.int .i64 0)) fun t60 =>
   p.binB .neq t57 t60 fun t61 =>
   p.cond t61
   (k (.sc (.int .i64 (-1))) H)
   (p.bin .add t51 (.sc (.int .i64 1)) fun t63 =>
   p.iadr 6 t0 t5 fun t66 =>
   p.fadr 5 t66 fun t67 =>
   p.load false 1 t67 H fun t68 =>
   p.bin .neq t68 t63 fun t70 =>
   p.cond t70
   (k (.sc (.int .i64 (-1))) H)
   (p.bin .add t63 (.sc (.int .i64 1)) fun t72 =>
   p.bin .add t5 (.sc (.int .i64 1)) fun t11 =>
   Nj p n  k m t0 t72 t11 H)))))))
   (k t1 H)
noncomputable def f103 (p : Pr β) (n : Nat) (a0 a1 : AV) (H : Ab) (k : KO β) : Option β :=
 Nj p n  k n a0 a1 (.sc (.int .i64 0)) H
noncomputable def Aao (p : Pr β) (n : Nat)  (k : KO β) (m : Nat) (tm : Tm) (H : Ab) : Option β :=
 Cm 74 (fun tm H k => Ad Ag p AjD 74 n (cd Ai5 [1, 0, 1, 0, 0]) tm H k) (Dj 0 (Da (fun tm H => Ad Ag p AjD 74 n (cd Ai5 [1, 1]) tm H (Bw Ag p fi103.results k)) (Bw Ag p fi103.results k))) m tm H
theorem Ya (p : Pr β) (n : Nat)  (k : KO β) (m0 : Nat) : ∀ (t : Nat → AV) (H : Ab), Aao p n  k m0 (tf 74 0 t) H = Nj p n  k m0 (t 0) (t 1) (t 5) H := by
 induction m0 with
 | zero => intros; rfl
 | succ m0 ih =>
  intro t H
  refine Eq.trans (A6 (nt := 74) (m := m0) (g := fun t H => Nj p n  k m0 (t 0) (t 1) (t 5) H) ih rfl) ?_
  kernel_rfl
theorem Adw (p : Pr β) (n : Nat) (a0 a1 : AV) (H : Ab) (k : KO β) : Be Ag p n fi103 [a0, a1] H k =
 Aao p n  k n (tf 74 0 (ud [(0, a0), (1, a1), (4, (.sc (.int .i64 0))), (5, (.sc (.int .i64 0)))] ut)) H := by kernel_rfl
theorem Abx : Ij fi103 @f103 := fun p n a0 a1 H k => by
 rw [Adw]
 simp only [Ya]
 kernel_rfl
noncomputable def Nk (p : Pr β) (n : Nat)  (k : KO β) : Nat → AV → AV → KO β
 | 0, _, _, _, _ => none
 | m + 1, t0, t1, t5, H => p.len t0 fun t8 =>
   p.bin .lss t5 t8 fun t9 =>
   p.cond t9
   (p.iadr 4 t0 t5 fun t14 =>
   p.fadr 0 t14 fun t15 =>
   p.load false 1 t15 H fun t16 =>
   p.call 9 (.fn 216 [] []) [t1] H fun t18 H =>
   p.bin .neq t16 t18 fun t19 =>
   p.cond t19
   (k (.sc (.int .i64 (-1))) H)
   (p.bin .add t1 (.sc (.int .i64 1)) fun t21 =>
   p.iadr 4 t0 t5 fun t24 =>
   p.fadr 1 t24 fun t25 =>
   p.load false 1 t25 H fun t26 =>
   p.call 3 (.fn 105 [] []) [t26, t21] H fun t28 H =>
   p.bin .lss t28 (.sc (.int .i64 0)) fun t30 =>
   p.cond t30
   (k (.sc (.int .i64 (-1))) H)
   (p.iadr 4 t0 t5 fun t33 =>
   p.fadr 2 t33 fun t34 =>
   p.load false 1 t34 H fun t35 =>
   p.bin .neq t35 t28 fun t37 =>
   p.cond t37
   (k (.sc (.int .i64 (-1))) H)
   (p.bin .add t28 (.sc (.int .i64 1)) fun t39 =>
   p.iadr 4 t0 t5 fun t42 =>
   p.fadr 3 t42 fun t43 =>
   p.load false 1 t43 H fun t44 =>
   p.bin .rem t39 (.sc (.int .i64 3)) fun t46 =>
   p.bin .eql t46 (.sc (.int .i64 0)) fun t47 =>
   p.binB .neq t44 t47 fun t48 =>
   p.cond t48
   (k (.sc (.int .i64 (-1))) H)
   (p.bin .add t39 (.sc (.int .i64 1)) fun t50 =>
   p.bin .add t5 (.sc (.int .i64 1)) fun t11 =>
   Nk p n  k m t0 t50 t11 H)))))
   (k t1 H)
noncomputable def f104 (p : Pr β) (n : Nat) (a0 a1 : AV) (H : Ab) (k : KO β) : Option β :=
 Nk p n  k n a0 a1 (.sc (.int .i64 0)) H
noncomputable def Aap (p : Pr β) (n : Nat)  (k : KO β) (m : Nat) (tm : Tm) (H : Ab) : Option β :=
 Cm 52 (fun tm H k => Ad Ag p AjE 52 n (cd Ai6 [1, 0, 1, 0, 0]) tm H k) (Dj 0 (Da (fun tm H => Ad Ag p AjE 52 n (cd Ai6 [1, 1]) tm H (Bw Ag p fi104.results k)) (Bw Ag p fi104.results k))) m tm H
theorem Yb (p : Pr β) (n : Nat)  (k : KO β) (m0 : Nat) : ∀ (t : Nat → AV) (H : Ab), Aap p n  k m0 (tf 52 0 t) H = Nk p n  k m0 (t 0) (t 1) (t 5) H := by
 induction m0 with
 | zero => intros; rfl
 | succ m0 ih =>
  intro t H
  refine Eq.trans (A6 (nt := 52) (m := m0) (g := fun t H => Nk p n  k m0 (t 0) (t 1) (t 5) H) ih rfl) ?_
  kernel_rfl
theorem Adx (p : Pr β) (n : Nat) (a0 a1 : AV) (H : Ab) (k : KO β) : Be Ag p n fi104 [a0, a1] H k =
 Aap p n  k n (tf 52 0 (ud [(0, a0), (1, a1), (4, (.sc (.int .i64 0))), (5, (.sc (.int .i64 0)))] ut)) H := by kernel_rfl
theorem Aby : Ij fi104 @f104 := fun p n a0 a1 H k => by
 rw [Adx]
 simp only [Yb]
 kernel_rfl
noncomputable def f20 (p : Pr β) (n : Nat) (a0 a1 : AV) (H : Ab) (k : KO β) : Option β :=
 p.box a0 H fun t2 H =>
 p.fadr 1 t2 fun t5 =>
 p.load false 1 t5 H fun t6 =>
 p.call 3 (.fn 103 [] []) [t6, a1] H fun t8 H =>
 p.bin .lss t8 (.sc (.int .i64 0)) fun t10 =>
 p.cond t10
 (k (.sc (.int .i64 (-1))) H)
 (p.fadr 2 t2 fun t11 =>
 p.load false 1 t11 H fun t12 =>
 p.call 3 (.fn 104 [] []) [t12, t8] H fun t14 H =>
 p.bin .lss t14 (.sc (.int .i64 0)) fun t16 =>
 p.cond t16
 (k (.sc (.int .i64 (-1))) H)
 (k t14 H))
theorem AdJ : Ij Akp @f20 := fun p n a0 a1 H k => by kernel_rfl
noncomputable def Nm (p : Pr β) (n : Nat)  (k : KO β) : Nat → AV → AV → KO β
 | 0, _, _, _, _ => none
 | m + 1, t0, t1, t5, H => p.len t0 fun t8 =>
   p.bin .lss t5 t8 fun t9 =>
   p.cond t9
   (p.iadr 2 t0 t5 fun t14 =>
   p.fadr 0 t14 fun t15 =>
   p.load false 1 t15 H fun t16 =>
   p.call 9 (.fn 216 [] []) [t1] H fun t18 H =>
   p.bin .neq t16 t18 fun t19 =>
   p.cond t19
   (k (.sc (.int .i64 (-1))) H)
   (p.bin .add t1 (.sc (.int .i64 1)) fun t21 =>
   p.iadr 2 t0 t5 fun t24 =>
   p.fadr 1 t24 fun t25 =>
   p.load false 1 t25 H fun t26 =>
   p.bin .neq t26 t21 fun t28 =>
   p.cond t28
   (k (.sc (.int .i64 (-1))) H)
   (p.bin .add t21 (.sc (.int .i64 1)) fun t30 =>
   p.bin .add t5 (.sc (.int .i64 1)) fun t11 =>
   Nm p n  k m t0 t30 t11 H)))
   (k t1 H)
noncomputable def f106 (p : Pr β) (n : Nat) (a0 a1 : AV) (H : Ab) (k : KO β) : Option β :=
 Nm p n  k n a0 a1 (.sc (.int .i64 0)) H
noncomputable def Aar (p : Pr β) (n : Nat)  (k : KO β) (m : Nat) (tm : Tm) (H : Ab) : Option β :=
 Cm 32 (fun tm H k => Ad Ag p Ahs 32 n (cd Ai8 [1, 0, 1, 0, 0]) tm H k) (Dj 0 (Da (fun tm H => Ad Ag p Ahs 32 n (cd Ai8 [1, 1]) tm H (Bw Ag p fi106.results k)) (Bw Ag p fi106.results k))) m tm H
theorem Yd (p : Pr β) (n : Nat)  (k : KO β) (m0 : Nat) : ∀ (t : Nat → AV) (H : Ab), Aar p n  k m0 (tf 32 0 t) H = Nm p n  k m0 (t 0) (t 1) (t 5) H := by
 induction m0 with
 | zero => intros; rfl
 | succ m0 ih =>
  intro t H
  refine Eq.trans (A6 (nt := 32) (m := m0) (g := fun t H => Nm p n  k m0 (t 0) (t 1) (t 5) H) ih rfl) ?_
  kernel_rfl
theorem Adz (p : Pr β) (n : Nat) (a0 a1 : AV) (H : Ab) (k : KO β) : Be Ag p n fi106 [a0, a1] H k =
 Aar p n  k n (tf 32 0 (ud [(0, a0), (1, a1), (4, (.sc (.int .i64 0))), (5, (.sc (.int .i64 0)))] ut)) H := by kernel_rfl
theorem Ab0 : Ij fi106 @f106 := fun p n a0 a1 H k => by
 rw [Adz]
 simp only [Yd]
 kernel_rfl
noncomputable def Nn (p : Pr β) (n : Nat)  (k : KO β) : Nat → AV → AV → KO β
 | 0, _, _, _, _ => none
 | m + 1, t0, t1, t5, H => p.len t0 fun t8 =>
   p.bin .lss t5 t8 fun t9 =>
   p.cond t9
   (p.iadr 1 t0 t5 fun t14 =>
   p.load false 1 t14 H fun t15 =>
   p.call 9 (.fn 216 [] []) [t1] H fun t17 H =>
   p.bin .neq t15 t17 fun t18 =>
   p.cond t18
   (k (.sc (.int .i64 (-1))) H)
   (p.bin .add t1 (.sc (.int .i64 1)) fun t20 =>
   p.bin .add t5 (.sc (.int .i64 1)) fun t11 =>
   Nn p n  k m t0 t20 t11 H))
   (k t1 H)
noncomputable def f107 (p : Pr β) (n : Nat) (a0 a1 : AV) (H : Ab) (k : KO β) : Option β :=
 Nn p n  k n a0 a1 (.sc (.int .i64 0)) H
noncomputable def Aas (p : Pr β) (n : Nat)  (k : KO β) (m : Nat) (tm : Tm) (H : Ab) : Option β :=
 Cm 22 (fun tm H k => Ad Ag p Aht 22 n (cd Ai9 [1, 0, 1, 0, 0]) tm H k) (Dj 0 (Da (fun tm H => Ad Ag p Aht 22 n (cd Ai9 [1, 1]) tm H (Bw Ag p fi107.results k)) (Bw Ag p fi107.results k))) m tm H
theorem Ye (p : Pr β) (n : Nat)  (k : KO β) (m0 : Nat) : ∀ (t : Nat → AV) (H : Ab), Aas p n  k m0 (tf 22 0 t) H = Nn p n  k m0 (t 0) (t 1) (t 5) H := by
 induction m0 with
 | zero => intros; rfl
 | succ m0 ih =>
  intro t H
  refine Eq.trans (A6 (nt := 22) (m := m0) (g := fun t H => Nn p n  k m0 (t 0) (t 1) (t 5) H) ih rfl) ?_
  kernel_rfl
theorem Ad0 (p : Pr β) (n : Nat) (a0 a1 : AV) (H : Ab) (k : KO β) : Be Ag p n fi107 [a0, a1] H k =
 Aas p n  k n (tf 22 0 (ud [(0, a0), (1, a1), (4, (.sc (.int .i64 0))), (5, (.sc (.int .i64 0)))] ut)) H := by kernel_rfl
theorem Ab1 : Ij fi107 @f107 := fun p n a0 a1 H k => by
 rw [Ad0]
 simp only [Ye]
 kernel_rfl
noncomputable def Rc (p : Pr β) (n : Nat)  (k : KO β) : Nat → AV → AV → KO β
 | 0, _, _, _, _ => none
 | m + 1, t0, t1, t5, H => p.len t0 fun t8 =>
   p.bin .lss t5 t8 fun t9 =>
   p.cond t9
   (p.iadr 1 t0 t5 fun t14 =>
   p.load false 1 t14 H fun t15 =>
   p.bin .neq t15 t1 fun t17 =>
   p.cond t17
   (k (.sc (.int .i64 (-1))) H)
   (p.bin .add t1 (.sc (.int .i64 1)) fun t19 =>
   p.bin .add t5 (.sc (.int .i64 1)) fun t11 =>
   Rc p n  k m t0 t19 t11 H))
   (k t1 H)
noncomputable def f40 (p : Pr β) (n : Nat) (a0 a1 : AV) (H : Ab) (k : KO β) : Option β :=
 Rc p n  k n a0 a1 (.sc (.int .i64 0)) H
noncomputable def AdX (p : Pr β) (n : Nat)  (k : KO β) (m : Nat) (tm : Tm) (H : Ab) : Option β :=
 Cm 21 (fun tm H k => Ad Ag p [] 21 n (cd c40 [1, 0, 1, 0, 0]) tm H k) (Dj 0 (Da (fun tm H => Ad Ag p [] 21 n (cd c40 [1, 1]) tm H (Bw Ag p fi40.results k)) (Bw Ag p fi40.results k))) m tm H
theorem Aco (p : Pr β) (n : Nat)  (k : KO β) (m0 : Nat) : ∀ (t : Nat → AV) (H : Ab), AdX p n  k m0 (tf 21 0 t) H = Rc p n  k m0 (t 0) (t 1) (t 5) H := by
 induction m0 with
 | zero => intros; rfl
 | succ m0 ih =>
  intro t H
  refine Eq.trans (A6 (nt := 21) (m := m0) (g := fun t H => Rc p n  k m0 (t 0) (t 1) (t 5) H) ih rfl) ?_
  kernel_rfl
theorem AgK (p : Pr β) (n : Nat) (a0 a1 : AV) (H : Ab) (k : KO β) : Be Ag p n fi40 [a0, a1] H k =
 AdX p n  k n (tf 21 0 (ud [(0, a0), (1, a1), (4, (.sc (.int .i64 0))), (5, (.sc (.int .i64 0)))] ut)) H := by kernel_rfl
theorem AdY : Ij fi40 @f40 := fun p n a0 a1 H k => by
 rw [AgK]
 simp only [Aco]
 kernel_rfl
noncomputable def f21 (p : Pr β) (n : Nat) (a0 a1 : AV) (H : Ab) (k : KO β) : Option β :=
 p.box a0 H fun t2 H =>
 p.fadr 6 t2 fun t5 =>
 p.load false 1 t5 H fun t6 =>
 p.call 3 (.fn 105 [] []) [t6, a1] H fun t8 H =>
 p.bin .lss t8 (.sc (.int .i64 0)) fun t10 =>
 p.cond t10
 (k (.sc (.int .i64 (-1))) H)
 (p.fadr 13 t2 fun t11 =>
 p.load false 1 t11 H fun t12 =>
 p.call 3 (.fn 105 [] []) [t12, t8] H fun t14 H =>
 p.bin .lss t14 (.sc (.int .i64 0)) fun t16 =>
 p.cond t16
 (k (.sc (.int .i64 (-1))) H)
 (p.fadr 19 t2 fun t17 =>
 p.load false 1 t17 H fun t18 =>
 p.call 3 (.fn 105 [] []) [t18, t14] H fun t20 H =>
 p.bin .lss t20 (.sc (.int .i64 0)) fun t22 =>
 p.cond t22
 (k (.sc (.int .i64 (-1))) H)
 (p.fadr 22 t2 fun t23 =>
 p.load false 1 t23 H fun t24 =>
 p.call 3 (.fn 106 [] []) [t24, t20] H fun t26 H =>
 p.bin .lss t26 (.sc (.int .i64 0)) fun t28 =>
 p.cond t28
 (k (.sc (.int .i64 (-1))) H)
 (p.fadr 23 t2 fun t29 =>
 p.load false 1 t29 H fun t30 =>
 p.call 3 (.fn 107 [] []) [t30, t26] H fun t32 H =>
 p.bin .lss t32 (.sc (.int .i64 0)) fun t34 =>
 p.cond t34
 (k (.sc (.int .i64 (-1))) H)
 (p.fadr 24 t2 fun t35 =>
 p.load false 1 t35 H fun t36 =>
 p.call 3 (.fn 40 [] []) [t36, t32] H fun t38 H =>
 p.bin .lss t38 (.sc (.int .i64 0)) fun t40 =>
 p.cond t40
 (k (.sc (.int .i64 (-1))) H)
 (k t38 H))))))
theorem AdN : Ij Akq @f21 := fun p n a0 a1 H k => by kernel_rfl
noncomputable def f3 (p : Pr β) (n : Nat) (a0 a1 a2 : AV) (H : Ab) (k : KO β) : Option β :=
 p.box a0 H fun t3 H =>
 p.load true 3 t3 H fun t21 =>
 p.call 3 (.fn 12 [] []) [t21, (.sc (.int .i64 1048576))] H fun t23 H =>
 p.bin .lss t23 (.sc (.int .i64 0)) fun t25 =>
 p.cond t25
 (k (.sc (.bool true)) H)
 (p.load true 3 t3 H fun t27 =>
 p.call 30 (.fn 14 [] []) [t27] H fun t28 H =>
 p.call 37 (.fn 13 [] []) [t28, a1, a2] H fun t31 H =>
 p.extr t31 0 fun t32 =>
 p.extr t31 1 fun t33 =>
 p.extr t31 2 fun t34 =>
 p.new [(.sc (.int .i64 0)), .nl, .nl] H fun t8 H =>
 p.new [(.sc (.int .i64 0)), (.sc (.bool false)), (.sc (.int .i64 0)), (.sc (.bool false)), (.sc (.int .i64 0)), (.sc (.string ⟨#[]⟩)), .nl, (.sc (.string ⟨#[]⟩)), (.sc (.int .i64 0)), (.sc (.bool false)), (.sc (.int .i64 0)), (.sc (.bool false)), (.sc (.string ⟨#[]⟩)), .nl, (.sc (.int .i64 0)), (.sc (.bool false)), (.sc (.bool false)), (.sc (.string ⟨#[]⟩)), (.sc (.bool false)), .nl, (.sc (.int .i64 0)), (.sc (.bool false)), .nl, .nl, .nl] H fun t9 H =>
 p.store 3 t8 t32 H fun H =>
 p.store 25 t9 t33 H fun H =>
 p.load true 3 t3 H fun t35 =>
 p.call 30 (.fn 14 [] []) [t35] H fun t36 H =>
 p.new [(.sc (.int .i64 0)), .nl, .nl] H fun t11 H =>
 p.store 3 t11 t36 H fun H =>
 p.load true 3 t11 H fun t38 =>
 p.call 37 (.fn 15 [] []) [t38, a1, a2] H fun t41 H =>
 p.extr t41 0 fun t42 =>
 p.extr t41 1 fun t43 =>
 p.extr t41 2 fun t44 =>
 p.new [(.sc (.int .i64 0)), .nl, .nl] H fun t12 H =>
 p.new [(.sc (.int .i64 0)), (.sc (.bool false)), (.sc (.int .i64 0)), (.sc (.bool false)), (.sc (.int .i64 0)), (.sc (.string ⟨#[]⟩)), .nl, (.sc (.string ⟨#[]⟩)), (.sc (.int .i64 0)), (.sc (.bool false)), (.sc (.int .i64 0)), (.sc (.bool false)), (.sc (.string ⟨#[]⟩)), .nl, (.sc (.int .i64 0)), (.sc (.bool false)), (.sc (.bool false)), (.sc (.string ⟨#[]⟩)), (.sc (.bool false)), .nl, (.sc (.int .i64 0)), (.sc (.bool false)), .nl, .nl, .nl] H fun t13 H =>
 p.store 3 t12 t42 H fun H =>
 p.store 25 t13 t43 H fun H =>
 p.load true 3 t12 H fun t45 =>
 p.load true 3 t8 H fun t46 =>
 p.call 4 (.fn 16 [] []) [t45, t46] H fun t47 H =>
 p.un .not t47 fun t48 =>
 p.guard t48 false H (fun k' => p.load true 25 t13 H fun t' => k' t' H) fun t50 H =>
 p.guard t48 false H (fun k' => p.load true 25 t9 H fun t' => k' t' H) fun t51 H =>
 p.guard t48 false H (fun k' => p.call 4 (.fn 17 [] []) [t50, t51] H fun t' H => k' t' H) fun t52 H =>
 p.guard t48 false H (fun k' => p.un .not t52 fun t' => k' t' H) fun t53 H =>
 p.pick t48 (.sc (.bool true)) t53 fun t54 =>
 p.guard t54 false H (fun k' => k' t44 H) fun t56 H =>
 p.guard t54 false H (fun k' => k' t34 H) fun t57 H =>
 p.guard t54 false H (fun k' => p.binB .neq t56 t57 fun t' => k' t' H) fun t58 H =>
 p.pick t54 (.sc (.bool true)) t58 fun t59 =>
 p.cond t59
 (k (.sc (.bool false)) H)
 (p.load true 3 t11 H fun t60 =>
 p.load true 3 t3 H fun t61 =>
 p.call 30 (.fn 14 [] []) [t61] H fun t62 H =>
 p.call 4 (.fn 16 [] []) [t60, t62] H fun t63 H =>
 p.un .not t63 fun t64 =>
 p.cond t64
 (k (.sc (.bool false)) H)
 (p.load true 3 t11 H fun t65 =>
 p.call 3 (.fn 18 [] []) [t65, (.sc (.int .i64 1))] H fun t67 H =>
 p.bin .lss t67 (.sc (.int .i64 0)) fun t69 =>
 p.guard t69 false H (fun k' => p.load true 3 t12 H fun t' => k' t' H) fun t71 H =>
 p.guard t69 false H (fun k' => p.load true 3 t8 H fun t' => k' t' H) fun t72 H =>
 p.guard t69 false H (fun k' => p.call 4 (.fn 16 [] []) [t71, t72] H fun t' H => k' t' H) fun t73 H =>
 p.guard t69 false H (fun k' => p.un .not t73 fun t' => k' t' H) fun t74 H =>
 p.pick t69 (.sc (.bool true)) t74 fun t75 =>
 p.guard t75 false H (fun k' => p.load true 25 t13 H fun t' => k' t' H) fun t77 H =>
 p.guard t75 false H (fun k' => p.load true 25 t9 H fun t' => k' t' H) fun t78 H =>
 p.guard t75 false H (fun k' => p.call 4 (.fn 17 [] []) [t77, t78] H fun t' H => k' t' H) fun t79 H =>
 p.guard t75 false H (fun k' => p.un .not t79 fun t' => k' t' H) fun t80 H =>
 p.pick t75 (.sc (.bool true)) t80 fun t81 =>
 p.guard t81 false H (fun k' => k' t44 H) fun t83 H =>
 p.guard t81 false H (fun k' => k' t34 H) fun t84 H =>
 p.guard t81 false H (fun k' => p.binB .neq t83 t84 fun t' => k' t' H) fun t85 H =>
 p.pick t81 (.sc (.bool true)) t85 fun t86 =>
 p.cond t86
 (k (.sc (.bool false)) H)
 (p.load true 3 t12 H fun t87 =>
 p.call 3 (.fn 18 [] []) [t87, (.sc (.int .i64 1))] H fun t89 H =>
 p.load true 25 t13 H fun t90 =>
 p.call 3 (.fn 19 [] []) [t90, t89] H fun t92 H =>
 p.load true 3 t12 H fun t93 =>
 p.call 3 (.fn 20 [] []) [t93, (.sc (.int .i64 1))] H fun t95 H =>
 p.bin .lss t95 (.sc (.int .i64 0)) fun t97 =>
 p.cond t97
 (k (.sc (.bool false)) H)
 (p.load true 25 t13 H fun t98 =>
 p.call 3 (.fn 21 [] []) [t98, t95] H fun t100 H =>
 p.bin .lss t100 (.sc (.int .i64 0)) fun t102 =>
 p.cond t102
 (k (.sc (.bool false)) H)
 (p.bin .neq t100 t92 fun t105 =>
 p.cond t105
 (k (.sc (.bool false)) H)
 (p.load true 3 t3 H fun t107 =>
 p.call 30 (.fn 14 [] []) [t107] H fun t108 H =>
 p.call 37 (.fn 15 [] []) [t108, a1, a2] H fun t111 H =>
 p.extr t111 0 fun t112 =>
 p.extr t111 1 fun t113 =>
 p.extr t111 2 fun t114 =>
 p.new [(.sc (.int .i64 0)), .nl, .nl] H fun t18 H =>
 p.new [(.sc (.int .i64 0)), (.sc (.bool false)), (.sc (.int .i64 0)), (.sc (.bool false)), (.sc (.int .i64 0)), (.sc (.string ⟨#[]⟩)), .nl, (.sc (.string ⟨#[]⟩)), (.sc (.int .i64 0)), (.sc (.bool false)), (.sc (.int .i64 0)), (.sc (.bool false)), (.sc (.string ⟨#[]⟩)), .nl, (.sc (.int .i64 0)), (.sc (.bool false)), (.sc (.bool false)), (.sc (.string ⟨#[]⟩)), (.sc (.bool false)), .nl, (.sc (.int .i64 0)), (.sc (.bool false)), .nl, .nl, .nl] H fun t19 H =>
 p.store 3 t18 t112 H fun H =>
 p.store 25 t19 t113 H fun H =>
 p.load true 3 t18 H fun t115 =>
 p.load true 3 t8 H fun t116 =>
 p.call 4 (.fn 16 [] []) [t115, t116] H fun t117 H =>
 p.un .not t117 fun t118 =>
 p.guard t118 false H (fun k' => p.load true 25 t19 H fun t' => k' t' H) fun t120 H =>
 p.guard t118 false H (fun k' => p.load true 25 t9 H fun t' => k' t' H) fun t121 H =>
 p.guard t118 false H (fun k' => p.call 4 (.fn 17 [] []) [t120, t121] H fun t' H => k' t' H) fun t122 H =>
 p.guard t118 false H (fun k' => p.un .not t122 fun t' => k' t' H) fun t123 H =>
 p.pick t118 (.sc (.bool true)) t123 fun t124 =>
 p.guard t124 false H (fun k' => k' t114 H) fun t126 H =>
 p.guard t124 false H (fun k' => k' t34 H) fun t127 H =>
 p.guard t124 false H (fun k' => p.binB .neq t126 t127 fun t' => k' t' H) fun t128 H =>
 p.pick t124 (.sc (.bool true)) t128 fun t129 =>
 p.cond t129
 (k (.sc (.bool false)) H)
 (p.load true 3 t12 H fun t130 =>
 p.call 3 (.fn 20 [] []) [t130, (.sc (.int .i64 1))] H fun t132 H =>
 p.bin .lss t132 (.sc (.int .i64 0)) fun t134 =>
 p.cond t134
 (k (.sc (.bool false)) H)
 (p.load true 25 t13 H fun t135 =>
 p.call 3 (.fn 21 [] []) [t135, t132] H fun t137 H =>
 p.bin .lss t137 (.sc (.int .i64 0)) fun t139 =>
 p.cond t139
 (k (.sc (.bool false)) H)
 (p.bin .neq t137 t92 fun t142 =>
 p.cond t142
 (k (.sc (.bool false)) H)
 (k (.sc (.bool true)) H)))))))))))
theorem AgJ : Bd3 fi3 @f3 := fun p n a0 a1 a2 H k => by kernel_rfl
noncomputable def fss : List (Option D5) := [none, none, none, some fi3, none, none, none, none, none, none, none, none, some Akg, some fi13, some Akh, some Aki, some Akj, some Akk, some Akl, some Akm, some Akp, some Akq, none, none, none, none, none, none, none, none, none, none, none, none, none, none, none, none, some fi38, some fi39, some fi40, none, none, none, none, none, none, none, none, none, none, none, none, none, none, none, none, none, none, none, none, none, none, none, none, none, none, none, none, none, none, none, none, none, some fi74, some fi75, some Aku, none, none, none, none, none, some Akv, some fi83, some fi84, some fi85, some Akw, some fi87, some fi88, some fi89, some Akx, none, some Aky, some fi93, some fi94, some fi95, some fi96, some fi97, some fi98, some fi99, some fi100, some fi101, some fi102, some fi103, some fi104, some fi105, some fi106, some fi107, none, none, none, none, none, none, none, none, none, none, none, none, some AhN, none, none, none, some fi124, none, some fi126, none, none, none, none, none, none, none, some AhO, none, none, some AhP, none, some AhQ, none, some fi141, none, none, some AhR, none, none, none, none, some AhS, none, some AhT, some fi152, none, some AhU, none, none, none, none, none, none, none, none, none, none, none, none, none, none, none, none, none, none, none, none, none, none, none, none, none, none, none, none, some AhV, none, none, none, some AhW, none, none, some AhX, some AhY, some AhZ, some Aia, some fi194, some Aib, some Akn, some Aic, some Aid, some Ako, none, none, none, some fi203, some fi204, some fi205, some Aie, some fi207, some Aif, some Aig, some fi210, some Aih, some fi212, some Aii, some Aij, some Aik, some fi216, none, none, none, none, none, some Ail, some Aim, some Akr, none, none, none, none, none, none, some fi231, some Ain, none, none, none, none, none, none, none, none, none, none, none, none, none, none, none, none, none, none, none, none, none, none, none, none, none, none, none, none, none, none, none, none, none, some fi266, none, some Aio, some Aks, none, none, none, some fi273, some fi274, none, none, some fi277, none, none, none, none, none, none, none, none, none, none, none, none, none, none, none, none, none, none, none, none, none, none, none, some Akt]
noncomputable def tps : List (Nat × List Nat) := [(37, [30, 36, 4]), (55, [54, 4]), (70, [34, 4, 36, 4]), (124, [59, 3, 85]), (126, [59, 3]), (131, [59, 4, 3, 3]), (135, [9, 3, 4, 3, 3]), (146, [30, 3, 3]), (148, [30, 85]), (150, [30, 3]), (180, [3, 4]), (228, [28, 3]), (282, [3, 3, 4]), (289, [36, 3, 3]), (315, [3, 3, 3]), (323, [28, 85, 4]), (329, [328, 4]), (334, [9, 3, 4]), (353, [31, 3, 4]), (363, [3, 362]), (365, [21, 3]), (372, [371, 371])]
noncomputable def E0 : K2 := { ti := Ag, tp := fun t => AaT tps t, fs := fun f => (fss[f]?).getD none, ext := fun f => if Nat.beq f 147 then some Uk else if Nat.beq f 267 then some Q7 else if Nat.beq f 300 then some O8 else none, hm := fun f => [18, 19, 30, 31, 39, 49, 57, 63, 66, 72, 78, 79, 91, 98, 99, 100, 101, 102, 118, 159, 160, 161, 178, 179, 180, 181, 184, 185, 186, 188, 195, 200, 217, 222, 257, 258, 259, 260, 261, 262, 264, 265, 270, 293, 294, 295, 297, 322, 332, 333, 334, 335, 336, 349, 351, 356, 357, 358, 366, 367, 382, 383, 384, 385, 386, 389].contains f, xk := fun f => if Nat.beq f 91 then some (false, 6, 72) else none }
noncomputable def PR (n : Nat) (β : Type) : Pr β := Dh E0 (Cz E0 n) β
abbrev K6 (j : Nat) (f : (β : Type) → Pr β → Nat → AV → Ab → KO β → Option β) : Prop := ∀ {β : Type} (n : Nat) (a0 : AV) (H : Ab) (k : KO β), Cz E0 (n + 1) β j [a0] H k = f β (PR n β) n a0 H k
abbrev Ik (j : Nat) (f : (β : Type) → Pr β → Nat → AV → AV → Ab → KO β → Option β) : Prop := ∀ {β : Type} (n : Nat) (a0 a1 : AV) (H : Ab) (k : KO β), Cz E0 (n + 1) β j [a0, a1] H k = f β (PR n β) n a0 a1 H k
abbrev Ce3 (j : Nat) (f : (β : Type) → Pr β → Nat → AV → AV → AV → Ab → KO β → Option β) : Prop := ∀ {β : Type} (n : Nat) (a0 a1 a2 : AV) (H : Ab) (k : KO β), Cz E0 (n + 1) β j [a0, a1, a2] H k = f β (PR n β) n a0 a1 a2 H k
theorem AfY : Ik 120 @f120 := fun n => Ab2 (PR n _) n
theorem Agb : Ik 134 @f134 := fun n => Ab5 (PR n _) n
theorem Agx : Ik 206 @f206 := fun n => AbS (PR n _) n
theorem Ajm : Ik 83 @f83 := fun n => Aeh (PR n _) n
theorem Ajn : Ik 84 @f84 := fun n => Aej (PR n _) n
theorem AiV : Ik 12 @f12 := fun n => Ad3 (PR n _) n
theorem Aga : K6 126 @f126 := fun n => Ab4 (PR n _) n
theorem Agg : K6 144 @f144 := fun n => AbA (PR n _) n
theorem Ag0 : K6 209 @f209 := fun n => AbV (PR n _) n
theorem Ajq : K6 87 @f87 := fun n => Aen (PR n _) n
theorem Ajr : K6 88 @f88 := fun n => Aep (PR n _) n
theorem AiX : K6 14 @f14 := fun n => Ad7 (PR n _) n
theorem Agz : K6 208 @f208 := fun n => AbU (PR n _) n
theorem Agy : K6 207 @f207 := fun n => AbT (PR n _) n
theorem Ajo : K6 85 @f85 := fun n => Aek (PR n _) n
theorem Agm : Ce3 187 @f187 := fun n => AbG (PR n _) n
theorem AgG : Ik 277 @f277 := fun n => Acl (PR n _) n
theorem AgA : K6 231 @f231 := fun n => Acf (PR n _) n
theorem Agc : K6 137 @f137 := fun n => Ab6 (PR n _) n
theorem AgE : Ik 273 @f273 := fun n => Acj (PR n _) n
theorem AgF : K6 274 @f274 := fun n => Ack (PR n _) n
theorem Ag9 : K6 223 @f223 := fun n => Ace (PR n _) n
theorem Agd : K6 139 @f139 := fun n => Ab7 (PR n _) n
theorem Agp : K6 193 @f193 := fun n => AbK (PR n _) n
theorem Agq : K6 194 @f194 := fun n => AbL (PR n _) n
theorem Ajj : K6 75 @f75 := fun n => Aed (PR n _) n
theorem Ag8 : K6 222 @f222 := fun n => Acd (PR n _) n
theorem AgB : Ik 232 @f232 := fun n => Acg (PR n _) n
theorem Agf : Ik 141 @f141 := fun n => Ab9 (PR n _) n
theorem AfZ : K6 124 @f124 := fun n => Ab3 (PR n _) n
theorem Ajp : Ik 86 @f86 := fun n => Ael (PR n _) n
theorem AiW : Ce3 13 @f13 := fun n => Ad5 (PR n _) n
theorem AgC : K6 266 @f266 := fun n => Ach (PR n _) n
theorem Ag2 : K6 211 @f211 := fun n => AbX (PR n _) n
theorem Ag1 : K6 210 @f210 := fun n => AbW (PR n _) n
theorem Ajs : K6 89 @f89 := fun n => Aeq (PR n _) n
theorem Ag4 : Ik 213 @f213 := fun n => AbZ (PR n _) n
theorem Ag3 : Ik 212 @f212 := fun n => AbY (PR n _) n
theorem Ajt : Ik 90 @f90 := fun n => Aer (PR n _) n
theorem Agh : Ce3 149 @f149 := fun n => AbB (PR n _) n
theorem Aay : K6 190 @f190 := fun n => AbH (PR n _) n
theorem AgD : K6 268 @f268 := fun n => Aci (PR n _) n
theorem Agt : K6 198 @f198 := fun n => AbO (PR n _) n
theorem Ags : K6 197 @f197 := fun n => AbN (PR n _) n
theorem Agi : K6 151 @f151 := fun n => AbC (PR n _) n
theorem Agn : K6 191 @f191 := fun n => AbI (PR n _) n
theorem Agj : K6 152 @f152 := fun n => AbD (PR n _) n
theorem Ago : K6 192 @f192 := fun n => AbJ (PR n _) n
theorem Aji : K6 74 @f74 := fun n => Aea (PR n _) n
theorem Agr : K6 195 @f195 := fun n => AbM (PR n _) n
theorem Agl : Ik 183 @f183 := fun n => AbF (PR n _) n
theorem Agu : Ik 203 @f203 := fun n => AbP (PR n _) n
theorem Agv : Ik 204 @f204 := fun n => AbQ (PR n _) n
theorem Agw : Ik 205 @f205 := fun n => AbR (PR n _) n
theorem Ajl : Ik 82 @f82 := fun n => Aef (PR n _) n
theorem Ajk : K6 76 @f76 := fun n => Aee (PR n _) n
theorem Aju : Ik 92 @f92 := fun n => Aes (PR n _) n
theorem AiY : Ce3 15 @f15 := fun n => Ad9 (PR n _) n
theorem Ajx : Ik 95 @f95 := fun n => Aey (PR n _) n
theorem Agk : Ik 154 @f154 := fun n => AbE (PR n _) n
theorem Ag5 : Ik 214 @f214 := fun n => Aca (PR n _) n
theorem Ajv : Ik 93 @f93 := fun n => Aeu (PR n _) n
theorem Ajw : Ik 94 @f94 := fun n => Aew (PR n _) n
theorem AiZ : Ik 16 @f16 := fun n => AdA (PR n _) n
theorem Ag6 : Ik 215 @f215 := fun n => Acb (PR n _) n
theorem Ajy : Ik 96 @f96 := fun n => Ae0 (PR n _) n
theorem Ajz : Ik 97 @f97 := fun n => Ae2 (PR n _) n
theorem Ajf : Ik 38 @f38 := fun n => AdU (PR n _) n
theorem Aja : Ik 17 @f17 := fun n => AdB (PR n _) n
theorem Ag7 : K6 216 @f216 := fun n => Acc (PR n _) n
theorem AfQ : Ik 100 @f100 := fun n => Abu (PR n _) n
theorem Aj0 : Ik 98 @f98 := fun n => Ae4 (PR n _) n
theorem Aj1 : Ik 99 @f99 := fun n => Ae6 (PR n _) n
theorem Ajb : Ik 18 @f18 := fun n => AdC (PR n _) n
theorem AfR : Ik 101 @f101 := fun n => Abv (PR n _) n
theorem AfS : Ik 102 @f102 := fun n => Abw (PR n _) n
theorem Ajg : Ik 39 @f39 := fun n => AdW (PR n _) n
theorem Ajc : Ik 19 @f19 := fun n => AdE (PR n _) n
theorem AfV : Ik 105 @f105 := fun n => Abz (PR n _) n
theorem AfT : Ik 103 @f103 := fun n => Abx (PR n _) n
theorem AfU : Ik 104 @f104 := fun n => Aby (PR n _) n
theorem Ajd : Ik 20 @f20 := fun n => AdJ (PR n _) n
theorem AfW : Ik 106 @f106 := fun n => Ab0 (PR n _) n
theorem AfX : Ik 107 @f107 := fun n => Ab1 (PR n _) n
theorem Ajh : Ik 40 @f40 := fun n => AdY (PR n _) n
theorem Aje : Ik 21 @f21 := fun n => AdN (PR n _) n
theorem Akf : Ce3 3 @f3 := fun n => AgJ (PR n _) n
end
section
open Go Go.Shelf Go.RowKit Go.Lib Go.Proofs
variable {P : Program} {ρ : Ren}
def ItAt (w w' : World) (s : ByteArray) (pos : Nat) : Prop := Below w.heap.size w w' ∧ w'.heap[w.heap.size]? = some (.stringIter s pos)
def P9 (w' : World) (a : Nat) (s : ByteArray) (pos : Nat) : World := { w' with heap := w'.heap.setIfInBounds a (.stringIter s pos) }
theorem Za (w : World) (s : ByteArray) (pos : Nat) : ItAt w (w.iter s pos) s pos := ⟨(Below.refl _ w).alloc (Nat.le_refl _) _, World.iter_heap w s pos⟩
theorem ItAt.lt {w w' : World} {s : ByteArray} {pos : Nat} (h : ItAt w w' s pos) : w.heap.size < w'.heap.size := by
 have := h.2
 simp only [Array.getElem?_eq_some_iff] at this
 exact this.1
theorem ItAt.set {w w' : World} {s : ByteArray} {pos : Nat} (h : ItAt w w' s pos) (pos' : Nat) : ItAt w (P9 w' w.heap.size s pos') s pos' := by
 refine ⟨h.1.trans ⟨rfl, rfl, rfl, by simp [P9], fun k hk => ?_⟩, ?_⟩
 ·simp only [P9]
  rw [Array.getElem?_setIfInBounds_ne (by omega)]
 ·simp only [P9]
  rw [Array.getElem?_setIfInBounds_self_of_lt h.lt]
theorem ItAt.below {w w1 w2 : World} {s : ByteArray} {pos : Nat} (h : ItAt w w1 s pos) (hb : Below w1.heap.size w1 w2) : ItAt w w2 s pos :=
 ⟨h.1.trans (hb.mono h.1.size), by rw [hb.block _ h.lt]; exact h.2⟩
theorem Ahr {w w' : World} {s : ByteArray} {pos : Nat} (h : ItAt w w' s pos) (hp : pos < s.size) (ty : TypeId) :
  (Instr.next (.pointer (some ⟨w.heap.size, 0, none⟩)) true ty).run P w' = .ok (.tuple #[.bool true, .int .i64 pos, .int .i32 (Utf8.decode s pos).1]) (P9 w' w.heap.size s (pos + (Utf8.decode s pos).2)) := by
 simp only [Instr.next, getObj, setObj, Sem.run_bind, Sem.run, h.2, Result.andThen, hp, if_true]
 simp [goInt, P9]
theorem Afh {w w' : World} {s : ByteArray} {pos : Nat} (h : ItAt w w' s pos) (hp : ¬ pos < s.size) (ty : TypeId) :
  (Instr.next (.pointer (some ⟨w.heap.size, 0, none⟩)) true ty).run P w' = .ok (.tuple #[.bool false]) w' := by
 simp [Instr.next, getObj, Sem.run, h.2, hp]
theorem Ah7 (s : ByteArray) (pos : Nat) : (Utf8.decode s pos).1 < 55296 ∨ (57343 < (Utf8.decode s pos).1 ∧ (Utf8.decode s pos).1 ≤ 1114111) := by
 rw [← Lib.decodeL_drop, Lib.decodeL_N]
 exact Lib.decodeN_valid _ _ _ _ _ (UInt8.toNat_lt _)
theorem Ah2 : phB.size = 2 := rfl
set_option maxHeartbeats 8000000 in
set_option maxRecDepth 1000000 in
theorem Afu (L : Lays.n152 P ρ) (r : Nat) (rs : ByteArray) (w : World) (h1 : 128 ≤ r) (hv : r < 55296 ∨ (57343 < r ∧ r ≤ 1114111)) (he : ¬ r = 65533) (hcv : ∀ w, (convert (ρ.t 21) (ρ.t 9) (.int .i32 r)).run P w = .ok (.string rs) w)
  (hs2 : 2 ≤ rs.size) (hs4 : rs.size ≤ 4) (hsl : rs.size = 2 → ∀ h : 1 < rs.size, 128 ≤ (rs[1]'h).toNat) :
  Calls P (ρ.f 152) #[.string phB, .int .i32 r] w fun e w' => e = .returned (.int .i64 (-1)) ∧ Below w.heap.size w w' := by
 have cV : ∀ w, Calls P (ρ.f 119) #[.int .i32 r] w _ := fun w => Any.utf8_ValidRune { L with } r w
 have cI : ∀ s c w, Calls P (ρ.f 137) #[.string s, .int .u8 c] w _ := fun s c w => Any.strings_IndexByte { L with } s c w
 have mixed := L.mixed
 have t3 := L.t3; have a3 := L.a3; have z3 := L.z3; have v3 := L.v3
 have t4 := L.t4; have a4 := L.a4; have z4 := L.z4; have v4 := L.v4
 have t5 := L.t5; have a5 := L.a5; have z5 := L.z5; have v5 := L.v5
 have t9 := L.t9; have a9 := L.a9; have z9 := L.z9; have v9 := L.v9
 have t21 := L.t21; have a21 := L.a21; have z21 := L.z21; have v21 := L.v21
 have e137 : ∀ args w, (callFunc (ρ.f 137) args).run P w = .ok (.enter (ρ.f 137) args) w := enters_of L.f137 (by kernel_rfl) rfl
 have e119 : ∀ args w, (callFunc (ρ.f 119) args).run P w = .ok (.enter (ρ.f 119) args) w := enters_of L.f119 (by kernel_rfl) rfl
 have hge : decide ((0 : Int) ≤ (r : Int)) = true := by simp
 have hlt : decide ((r : Int) < 128) = false := by simp; omega
 have bel : ∀ pos, Below w.heap.size w (w.iter phB pos) := fun pos => (Below.refl _ w).alloc (Nat.le_refl _) _
 have hne : ((r : Int) == 65533) = false := by simp; omega
 have hvr : Lib.validRune (r : Int) = true := by simp [Lib.validRune]; omega
 go_enter L.f152, Body.n152_ntmps ρ
 go_wp2_with (first
  | (go_at_fn (ρ.f 119); refine (cV _).mono ?_; rintro e w' ⟨rfl, hw⟩; rw [hw, hvr])
  | (go_at_fn (ρ.f 137); refine (cI _ _ _).mono ?_; rintro e w' ⟨rfl, hw⟩; rw [hw]))
 go_step3
 go_wp2
 go_loopg [9, 10] 1 (fun g i fl wx => g = 1 ∧ i = .int .i64 ((rs.size : Int) - 1) ∧ fl = .int .i64 0 ∧ wx = w)
 case atStart => exact ⟨rfl, rfl, rfl, rfl⟩
 case round =>
  obtain ⟨-, rfl, rfl, rfl⟩ := hrel
  by_cases h3 : 3 ≤ rs.size
  ·have hlt : decide ((rs.size : Int) - 1 < (phB.size : Int)) = false := by rw [Ah2]; simp; omega
   go_wp2
   try rw [Exit.noGoto_ret]
   go_ret
   exact ⟨rfl, Below.refl _ _⟩
  ·have h2 : rs.size = 2 := by omega
   have hi1 : ((rs.size : Int) - 1) = 1 := by omega
   have hi : 1 < rs.size := by omega
   have hp : 1 < phB.size := by decide
   obtain ⟨x, hx⟩ : ∃ x : UInt8, rs[1]'hi = x := ⟨_, rfl⟩
   have hx128 : 128 ≤ x.toNat := by
    rw [← hx]
    exact hsl h2 hi
   have hp1 : phB[1]'hp = 35 := rfl
   have hlt : decide ((1 : Int) < (phB.size : Int)) = true := rfl
   have hne35 : (((35 : UInt8).toNat : Int) != (x.toNat : Int)) = true := by simp; omega
   have hib : Lib.indexByte (List.take (phB.size - 2) (List.drop 2 phB.data.toList)) x = -1 := rfl
   rw [hi1]
   clear hsl hs2 hs4
   go_wp2
   go_step3
   go_wp2
   go_region_o
   all_goals
    go_wp2
    go_region_with_o (go_at_fn (ρ.f 137); refine (cI _ _ _).mono ?_; rintro e w' ⟨rfl, hw⟩; rw [hw])
   all_goals
    go_wp2
    simp only [Exit.inBlock, Exit.then, Exit.noGoto]
    go_ret
    exact ⟨rfl, (Below.refl _ _).drew.drew⟩
set_option maxHeartbeats 8000000 in
set_option maxRecDepth 1000000 in
theorem Ah8 (L : Lays.n152 P ρ) (r : Nat) (w : World) (h1 : 128 ≤ r) (hv : r < 55296 ∨ (57343 < r ∧ r ≤ 1114111)) :
  Calls P (ρ.f 152) #[.string phB, .int .i32 r] w fun e w' => e = .returned (.int .i64 (-1)) ∧ Below w.heap.size w w' := by
 have cV : ∀ w, Calls P (ρ.f 119) #[.int .i32 r] w _ := fun w => Any.utf8_ValidRune { L with } r w
 have cI : ∀ s c w, Calls P (ρ.f 137) #[.string s, .int .u8 c] w _ := fun s c w => Any.strings_IndexByte { L with } s c w
 have t3 := L.t3; have a3 := L.a3; have z3 := L.z3; have v3 := L.v3
 have t4 := L.t4; have a4 := L.a4; have z4 := L.z4; have v4 := L.v4
 have t5 := L.t5; have a5 := L.a5; have z5 := L.z5; have v5 := L.v5
 have t9 := L.t9; have a9 := L.a9; have z9 := L.z9; have v9 := L.v9
 have t21 := L.t21; have a21 := L.a21; have z21 := L.z21; have v21 := L.v21
 have e137 : ∀ args w, (callFunc (ρ.f 137) args).run P w = .ok (.enter (ρ.f 137) args) w := enters_of L.f137 (by kernel_rfl) rfl
 have e119 : ∀ args w, (callFunc (ρ.f 119) args).run P w = .ok (.enter (ρ.f 119) args) w := enters_of L.f119 (by kernel_rfl) rfl
 have hge : decide ((0 : Int) ≤ (r : Int)) = true := by simp
 have hlt : decide ((r : Int) < 128) = false := by simp; omega
 have bel : ∀ pos, Below w.heap.size w (w.iter phB pos) := fun pos => (Below.refl _ w).alloc (Nat.le_refl _) _
 by_cases he : r = 65533
 ·subst he
  go_enter L.f152, Body.n152_ntmps ρ
  go_wp2
  go_loopg [5, 6] 2 (fun g _ _ wx => ∃ i : Nat, i + g = 2 ∧ wx = w.iter phB i)
  case atStart => exact ⟨0, by omega, rfl⟩
  case round =>
   obtain ⟨i, hig, rfl⟩ := hrel
   cases gk with
   | zero =>
    obtain rfl : i = 2 := by omega
    have hnx := fun ty => run_next_end (P := P) w phB 2 ty (by decide)
    go_wp2
    go_ret
    exact ⟨rfl, bel _⟩
   | succ g =>
    have hi : i < phB.size := by
     show i < 2
     omega
    have hx : (phB[i]'hi).toNat < 64 := by
     have : ∀ q : Fin 2, (phB[q.val]'q.isLt).toNat < 64 := by decide
     exact this ⟨i, hi⟩
    have hnx := fun ty => run_next_ascii (P := P) w phB i ty hi (by omega)
    generalize (phB[i]'hi).toNat = x at hnx hx
    have hxe : ((x : Int) == 65533) = false := by simp; omega
    go_wp2
    go_roundg g
    case measure => omega
    case rel => exact ⟨i + 1, by omega, rfl⟩
 ·obtain ⟨hs2, hs4, hsl⟩ := encode_facts (r : Int) (by simp [Utf8.valid]; omega) (by omega)
  refine Afu L r (Utf8.encode r) w h1 hv he (fun w => run_convert_int_string w _ _ _ _ (by rw [t21]; rfl) t9) hs2 hs4 ?_
  intro h2 hi
  have := hsl (by omega)
  simp only [h2] at this
  exact this
theorem AiS (l : List UInt8) (h : 128 ≤ (l.getD 0 0).toNat) : 128 ≤ (Lib.decodeL l).1 ∧ ∀ j, j < (Lib.decodeL l).2 → 128 ≤ (l.getD j 0).toNat := by
 rw [Lib.decodeL_N]
 generalize hn : l.length = n
 generalize h0 : (l.getD 0 0).toNat = b0 at h ⊢
 generalize h1 : (l.getD 1 0).toNat = b1
 generalize h2 : (l.getD 2 0).toNat = b2
 generalize h3 : (l.getD 3 0).toNat = b3
 have key : ∀ q, q ≤ 4 → (q = 2 → 128 ≤ b1) → (q = 3 → 128 ≤ b1 ∧ 128 ≤ b2) → (q = 4 → 128 ≤ b1 ∧ 128 ≤ b2 ∧ 128 ≤ b3) → ∀ j, j < q → 128 ≤ (l.getD j 0).toNat := by
  intro q hq k2 k3 k4 j hj
  have : j = 0 ∨ j = 1 ∨ j = 2 ∨ j = 3 := by omega
  rcases this with rfl | rfl | rfl | rfl
  ·rw [h0]; exact h
  ·rw [h1]; omega
  ·rw [h2]; omega
  ·rw [h3]; omega
 unfold Lib.decodeN
 rw [if_neg (by omega)]
 repeat' split
 all_goals
  refine ⟨?_, key _ ?_ ?_ ?_ ?_⟩ <;> simp only <;> omega
def phL (l : List UInt8) : Bool := l.any fun c => c == 43 || c == 35
theorem Wv : ∀ (k : Nat) (l : List UInt8), (∀ j, j < k → 128 ≤ (l.getD j 0).toNat) → phL l = phL (l.drop k)
 | 0, l, _ => rfl
 | k + 1, [], _ => by simp
 | k + 1, b :: l, h => by
  have h0 : 128 ≤ b.toNat := h 0 (by omega)
  have ih := Wv k l fun j hj => h (j + 1) (by omega)
  have e1 : (b == 43) = false := by
   rw [beq_eq_false_iff_ne]
   rintro rfl
   simp at h0
  have e2 : (b == 35) = false := by
   rw [beq_eq_false_iff_ne]
   rintro rfl
   simp at h0
  show (List.any (b :: l) _) = _
  rw [List.any_cons, e1, e2, Bool.or_self, Bool.false_or, List.drop_succ_cons]
  exact ih
theorem Afr (l : List UInt8) (hne : l ≠ []) : phL l = (((Lib.decodeL l).1 == 43 || (Lib.decodeL l).1 == 35) || phL (l.drop (Lib.decodeL l).2)) := by
 cases l with
 | nil => exact absurd rfl hne
 | cons b l =>
  by_cases hb : 128 ≤ b.toNat
  ·obtain ⟨h1, h2⟩ := AiS (b :: l) hb
   have e1 : ((Lib.decodeL (b :: l)).1 == 43) = false := by simp; omega
   have e2 : ((Lib.decodeL (b :: l)).1 == 35) = false := by simp; omega
   rw [e1, e2, Bool.or_self, Bool.false_or]
   exact Wv _ _ h2
  ·have e : Lib.decodeL (b :: l) = (b.toNat, 1) := by
    rw [Lib.decodeL_N]
    unfold Lib.decodeN
    rw [if_pos (by simpa using hb)]
    rfl
   rw [e]
   show List.any (b :: l) _ = _
   rw [List.any_cons, List.drop_succ_cons, List.drop_zero]
   have e1 : (b == 43) = (b.toNat == 43) := by
    rw [Bool.eq_iff_iff, beq_iff_eq, beq_iff_eq, ← UInt8.toNat_inj]; rfl
   have e2 : (b == 35) = (b.toNat == 35) := by
    rw [Bool.eq_iff_iff, beq_iff_eq, beq_iff_eq, ← UInt8.toNat_inj]; rfl
   rw [e1, e2]
   rfl
theorem AaW (s : ByteArray) : phL s.data.toList = vPH s := Xq _ _ _
theorem AfM (r : Nat) (h : r < 128) : decide (0 ≤ Lib.indexByte phB.data.toList r.toUInt8) = (r == 43 || r == 35) := by
 have : ∀ q : Fin 128, decide (0 ≤ Lib.indexByte phB.data.toList (q.val).toUInt8) = (q.val == 43 || q.val == 35) := by decide
 exact this ⟨r, h⟩
set_option maxHeartbeats 8000000 in
set_option maxRecDepth 1000000 in
theorem Afw (L : Lays.n153 P ρ) (s : ByteArray) (w : World) (h8 : s.size ≤ 8) :
  Calls P (ρ.f 153) #[.string s, .string phB] w fun e w' => (∃ z : Int, e = .returned (.int .i64 z) ∧ decide (0 ≤ z) = phL s.data.toList) ∧ Below w.heap.size w w' := by
 have cA : ∀ (r : Nat) w, r < 128 → ∃ z : Int, decide (0 ≤ z) = (r == 43 || r == 35) ∧ Calls P (ρ.f 152) #[.string phB, .int .i32 r] w fun e w' => e = .returned (.int .i64 z) ∧ w' = w := fun r w h => ⟨_, AfM r h, Any.strings_IndexRune_ascii { L with } phB r w (by omega) (by omega)⟩
 have cR : ∀ (r : Nat) w, 128 ≤ r → r < 55296 ∨ (57343 < r ∧ r ≤ 1114111) → Calls P (ρ.f 152) #[.string phB, .int .i32 r] w _ := fun r w h h' => Ah8 { L with } r w h h'
 have hemp : phB.toList.isEmpty = false := by rw [Lib.toList_data]; rfl
 have hn1 : ((phB.size : Int) == 1) = false := rfl
 have h8z : decide ((8 : Int) < (s.size : Int)) = false := decide_eq_false (by omega)
 have t3 := L.t3; have a3 := L.a3; have z3 := L.z3; have v3 := L.v3
 have t4 := L.t4; have a4 := L.a4; have z4 := L.z4; have v4 := L.v4
 have t5 := L.t5; have a5 := L.a5; have z5 := L.z5; have v5 := L.v5
 have t9 := L.t9; have a9 := L.a9; have z9 := L.z9; have v9 := L.v9
 have t21 := L.t21; have a21 := L.a21; have z21 := L.z21; have v21 := L.v21
 have e152 : ∀ args w, (callFunc (ρ.f 152) args).run P w = .ok (.enter (ρ.f 152) args) w := enters_of L.f152 (by kernel_rfl) rfl
 have e226 : ∀ args w, (callFunc (ρ.f 226) args).run P w = .ok (.enter (ρ.f 226) args) w := enters_of L.f226 (by kernel_rfl) rfl
 go_enter L.f153, Body.n153_ntmps ρ
 go_wp2_with (go_at_fn (ρ.f 226); refine (Any.strings_shouldUseASCIISet { L with } _ _).mono ?_; rintro e w' ⟨rfl, hw⟩; rw [hw, h8z])
 go_loopg [9, 10] s.size (fun g _ _ wx => ∃ pos : Nat, s.size ≤ pos + g ∧ ItAt w wx s pos ∧ phL (s.data.toList.drop pos) = phL s.data.toList)
 case atStart => exact ⟨0, by omega, Za w s 0, by simp⟩
 case round =>
  obtain ⟨pos, hpg, hit, hph⟩ := hrel
  have HIT : Aside (ItAt w wr s pos) := hit
  have HPH : Aside (phL (s.data.toList.drop pos) = phL s.data.toList) := hph
  by_cases hp : pos < s.size
  ·obtain ⟨g, rfl⟩ : ∃ g, gk = g + 1 := ⟨gk - 1, by omega⟩
   have hnx := fun ty => Ahr (P := P) hit hp ty
   have hne : s.data.toList.drop pos ≠ [] := by
    intro h
    have := congrArg List.length h
    simp at this
    omega
   have hst := Afr _ hne
   rw [Lib.decodeL_drop, hph, List.drop_drop] at hst
   have hwd : 1 ≤ (Utf8.decode s pos).2 := by rw [← Lib.decodeL_drop s pos]; exact Lib.decodeL_width _
   have hru := Ah7 s pos
   have HIT2 : Aside (ItAt w (P9 wr w.heap.size s (pos + (Utf8.decode s pos).2)) s (pos + (Utf8.decode s pos).2)) := hit.set _
   clear hit hph
   generalize hr : (Utf8.decode s pos).1 = r at hnx hst hru
   have HST : Aside (phL s.data.toList = ((r == 43 || r == 35) || phL (s.data.toList.drop (pos + (Utf8.decode s pos).2)))) := hst
   clear hst
   by_cases h128 : r < 128
   ·obtain ⟨z, hz, cz⟩ := cA r (P9 wr w.heap.size s (pos + (Utf8.decode s pos).2)) h128
    clear cA
    cases hin : (r == 43 || r == 35)
    ·rw [hin] at hz
     have hlt : ¬ ((0 : Int) ≤ z) := of_decide_eq_false hz
     clear hz
     go_wp2_with (go_at_fn (ρ.f 152); refine cz.mono ?_; rintro e w' ⟨rfl, hw⟩; rw [hw])
     go_roundg g
     case measure => omega
     case rel => exact ⟨_, by omega, HIT2.out, by rw [HST.out, hin, Bool.false_or]⟩
    ·rw [hin] at hz
     have hge : (0 : Int) ≤ z := of_decide_eq_true hz
     clear hz
     go_wp2_with (go_at_fn (ρ.f 152); refine cz.mono ?_; rintro e w' ⟨rfl, hw⟩; rw [hw])
     go_ret
     exact ⟨⟨_, rfl, by rw [HST.out, hin, Bool.true_or]; simp⟩, HIT2.out.1⟩
   ·have hin : (r == 43 || r == 35) = false := by simp; omega
    go_wp2_with (go_at_fn (ρ.f 152); refine (cR r _ (by omega) hru).mono ?_; rintro e w' ⟨rfl, hw⟩)
    go_roundg g
    case measure => omega
    case rel => exact ⟨_, by omega, HIT2.out.below hw, by rw [HST.out, hin, Bool.false_or]⟩
  ·have hnx := fun ty => Afh (P := P) hit hp ty
   have hnil : s.data.toList.drop pos = [] := by
    apply List.drop_of_length_le
    simp
    omega
   rw [hnil] at hph
   go_wp2
   go_ret
   exact ⟨⟨_, rfl, by rw [← hph]; rfl⟩, HIT.out.1⟩
theorem AeN (L : Lays.n153 P ρ) (hv116 : ∀ w, (zeroValue (ρ.t 116)).run P w = .ok (.agg (Array.replicate 256 (.bool false))) w) (hi116 : (P.info? (ρ.t 116)).map (·.size) = some 256) (s : ByteArray) (w : World) (hs : s.size < 4294967281) :
  Calls P (ρ.f 153) #[.string s, .string phB] w fun e w' => (∃ z : Int, e = .returned (.int .i64 z) ∧ decide (0 ≤ z) = phL s.data.toList) ∧ Below w.heap.size w w' := by
 by_cases h8 : s.size ≤ 8
 ·exact Afw L s w h8
 ·refine (Any.strings_IndexAny_long L hv116 hi116 s phB w (by decide) (by omega) hs (by decide) ?_).mono fun e w' ⟨h1, h2⟩ => ⟨⟨_, h1, ?_⟩, ?_⟩
  ·intro j b hb
   have : phB.data.toList = [43, 35] := rfl
   rw [this] at hb
   match j, hb with
   | 0, hb => cases hb; decide
   | 1, hb => cases hb; decide
  ·have := Aj4 s
   rw [AaW, ← this]
   rfl
  ·rw [h2]
   exact ((Below.refl _ _).alloc (Nat.le_refl _) _).alloc (by simp) _
set_option maxHeartbeats 1000000 in
theorem V0 (L : Lays.n150 P ρ) (hv116 : ∀ w, (zeroValue (ρ.t 116)).run P w = .ok (.agg (Array.replicate 256 (.bool false))) w) (hi116 : (P.info? (ρ.t 116)).map (·.size) = some 256) (s : ByteArray) (w : World) (hs : s.size < 4294967281) :
  Calls P (ρ.f 150) #[.string s, .string phB] w fun e w' => e = .returned (.bool (vPH s)) ∧ Below w.heap.size w w' := by
 have c := AeN { L with } hv116 hi116 s w hs
 have t3 := L.t3; have a3 := L.a3; have z3 := L.z3; have v3 := L.v3
 have t4 := L.t4; have a4 := L.a4; have z4 := L.z4; have v4 := L.v4
 have t9 := L.t9; have a9 := L.a9; have z9 := L.z9; have v9 := L.v9
 have e153 : ∀ args w, (callFunc (ρ.f 153) args).run P w = .ok (.enter (ρ.f 153) args) w := enters_of L.f153 (by kernel_rfl) rfl
 go_enter L.f150, Body.n150_ntmps ρ
 go_wp2_with (go_at_fn (ρ.f 153); refine c.mono ?_; rintro e w' ⟨⟨z, rfl, hz⟩, hw⟩)
 go_ret
 refine ⟨?_, hw⟩
 rw [← AaW, ← hz]
 rfl
end
end Go.Proofs.YtjiahcekpohehaaGreatDoor.Abs
set_option linter.unusedVariables false
set_option linter.unusedSimpArgs false
namespace Go.Proofs
open Go.RowKit Go.Shelf Go.Lib
def Tryz.laysValid_ren : Go.Shelf.Ren := ⟨fun | 196 => 234 | 259 => 278 | n => n, fun | 9 => 9 | 4 => 4 | 3 => 3 | 5 => 5 | 12 => 12 | 119 => 285 | 0 => 0 | 46 => 247 | 139 => 288 | 138 => 287 | 53 => 314 | n => n, fun | 3 => 0 | 4 => 1 | n => n⟩
theorem Tryz.laysValid : Go.Proofs.Lays.n196 Tryz.prog Tryz.laysValid_ren := {
 mixed := by kernel_rfl
 f196 := Tryz.func234.trans (congrArg some (by kernel_rfl))
 f259 := Tryz.func278.trans (congrArg some (by kernel_rfl))
 t0 := Tryz.underlying0
 a0 := Tryz.isAgg0
 z0 := Tryz.sizeOf0
 v0 := Tryz.zeroValue0
 t3 := Tryz.underlying3
 a3 := Tryz.isAgg3
 z3 := Tryz.sizeOf3
 v3 := Tryz.zeroValue3
 t4 := Tryz.underlying4
 a4 := Tryz.isAgg4
 z4 := Tryz.sizeOf4
 v4 := Tryz.zeroValue4
 t5 := Tryz.underlying5
 a5 := Tryz.isAgg5
 z5 := Tryz.sizeOf5
 v5 := Tryz.zeroValue5
 t9 := Tryz.underlying9
 a9 := Tryz.isAgg9
 z9 := Tryz.sizeOf9
 v9 := Tryz.zeroValue9
 t12 := Tryz.underlying12
 a12 := Tryz.isAgg12
 z12 := Tryz.sizeOf12
 v12 := Tryz.zeroValue12
 t46 := Tryz.underlying247
 a46 := Tryz.isAgg247
 z46 := Tryz.sizeOf247
 v46 := Tryz.zeroValue247
 t53 := Tryz.underlying314
 a53 := Tryz.isAgg314
 z53 := Tryz.sizeOf314
 v53 := Tryz.zeroValue314
 t119 := Tryz.underlying285
 a119 := Tryz.isAgg285
 z119 := Tryz.sizeOf285
 t138 := Tryz.underlying287
 a138 := Tryz.isAgg287
 z138 := Tryz.sizeOf287
 v138 := Tryz.zeroValue287
 t139 := Tryz.underlying288
 a139 := Tryz.isAgg288
 z139 := Tryz.sizeOf288
 v139 := Tryz.zeroValue288
 g3 := by kernel_rfl
 g4 := by kernel_rfl }
def Tryz.laysAny_ren : Go.Shelf.Ren := ⟨fun | 150 => 267 | 153 => 299 | 152 => 319 | 226 => 320 | 227 => 321 | 228 => 322 | 137 => 341 | 119 => 342 | 224 => 343 | 225 => 344 | 217 => 359 | 266 => 368 | n => n, fun | 9 => 9 | 4 => 4 | 3 => 3 | 5 => 5 | 21 => 21 | 117 => 329 | 116 => 328 | 0 => 0 | 46 => 247 | 124 => 351 | n => n, fun | n => n⟩
theorem Tryz.laysAny : Go.Proofs.Lays.n150 Tryz.prog Tryz.laysAny_ren := {
 mixed := by kernel_rfl
 f119 := Tryz.func342.trans (congrArg some (by kernel_rfl))
 f137 := Tryz.func341.trans (congrArg some (by kernel_rfl))
 f150 := Tryz.func267.trans (congrArg some (by kernel_rfl))
 f152 := Tryz.func319.trans (congrArg some (by kernel_rfl))
 f153 := Tryz.func299.trans (congrArg some (by kernel_rfl))
 f217 := Tryz.func359.trans (congrArg some (by kernel_rfl))
 f224 := Tryz.func343.trans (congrArg some (by kernel_rfl))
 f225 := Tryz.func344.trans (congrArg some (by kernel_rfl))
 f226 := Tryz.func320.trans (congrArg some (by kernel_rfl))
 f227 := Tryz.func321.trans (congrArg some (by kernel_rfl))
 f228 := Tryz.func322.trans (congrArg some (by kernel_rfl))
 f266 := Tryz.func368.trans (congrArg some (by kernel_rfl))
 t0 := Tryz.underlying0
 a0 := Tryz.isAgg0
 z0 := Tryz.sizeOf0
 v0 := Tryz.zeroValue0
 t3 := Tryz.underlying3
 a3 := Tryz.isAgg3
 z3 := Tryz.sizeOf3
 v3 := Tryz.zeroValue3
 t4 := Tryz.underlying4
 a4 := Tryz.isAgg4
 z4 := Tryz.sizeOf4
 v4 := Tryz.zeroValue4
 t5 := Tryz.underlying5
 a5 := Tryz.isAgg5
 z5 := Tryz.sizeOf5
 v5 := Tryz.zeroValue5
 t9 := Tryz.underlying9
 a9 := Tryz.isAgg9
 z9 := Tryz.sizeOf9
 v9 := Tryz.zeroValue9
 t21 := Tryz.underlying21
 a21 := Tryz.isAgg21
 z21 := Tryz.sizeOf21
 v21 := Tryz.zeroValue21
 t46 := Tryz.underlying247
 a46 := Tryz.isAgg247
 z46 := Tryz.sizeOf247
 v46 := Tryz.zeroValue247
 t116 := Tryz.underlying328
 a116 := Tryz.isAgg328
 z116 := Tryz.sizeOf328
 t117 := Tryz.underlying329
 a117 := Tryz.isAgg329
 z117 := Tryz.sizeOf329
 v117 := Tryz.zeroValue329
 t124 := Tryz.underlying351
 a124 := Tryz.isAgg351
 z124 := Tryz.sizeOf351
 v124 := Tryz.zeroValue351 }
def Tryz.laysSplit_ren : Go.Shelf.Ren := ⟨fun | 146 => 300 | 221 => 323 | 268 => 345 | 138 => 346 | 143 => 347 | 195 => 360 | 197 => 361 | 218 => 362 | 219 => 363 | 260 => 369 | 217 => 359 | 225 => 344 | 224 => 343 | 267 => 370 | 266 => 368 | 314 => 373 | n => n, fun | 9 => 9 | 31 => 33 | 3 => 3 | 4 => 4 | 0 => 0 | 105 => 365 | 21 => 21 | 5 => 5 | 46 => 247 | 119 => 285 | 139 => 288 | 138 => 287 | 146 => 372 | 51 => 371 | n => n, fun | 1 => 2 | 3 => 0 | 4 => 1 | n => n⟩
theorem Tryz.laysSplit : Go.Proofs.Lays.n146 Tryz.prog Tryz.laysSplit_ren := {
 mixed := by kernel_rfl
 f138 := Tryz.func346.trans (congrArg some (by kernel_rfl))
 f143 := Tryz.func347.trans (congrArg some (by kernel_rfl))
 f146 := Tryz.func300.trans (congrArg some (by kernel_rfl))
 f195 := Tryz.func360.trans (congrArg some (by kernel_rfl))
 f197 := Tryz.func361.trans (congrArg some (by kernel_rfl))
 f217 := Tryz.func359.trans (congrArg some (by kernel_rfl))
 f218 := Tryz.func362.trans (congrArg some (by kernel_rfl))
 f219 := Tryz.func363.trans (congrArg some (by kernel_rfl))
 f221 := Tryz.func323.trans (congrArg some (by kernel_rfl))
 f224 := Tryz.func343.trans (congrArg some (by kernel_rfl))
 f225 := Tryz.func344.trans (congrArg some (by kernel_rfl))
 f260 := Tryz.func369.trans (congrArg some (by kernel_rfl))
 f266 := Tryz.func368.trans (congrArg some (by kernel_rfl))
 f267 := Tryz.func370.trans (congrArg some (by kernel_rfl))
 f268 := Tryz.func345.trans (congrArg some (by kernel_rfl))
 f314 := Tryz.func373.trans (congrArg some (by kernel_rfl))
 t0 := Tryz.underlying0
 a0 := Tryz.isAgg0
 z0 := Tryz.sizeOf0
 v0 := Tryz.zeroValue0
 t3 := Tryz.underlying3
 a3 := Tryz.isAgg3
 z3 := Tryz.sizeOf3
 v3 := Tryz.zeroValue3
 t4 := Tryz.underlying4
 a4 := Tryz.isAgg4
 z4 := Tryz.sizeOf4
 v4 := Tryz.zeroValue4
 t5 := Tryz.underlying5
 a5 := Tryz.isAgg5
 z5 := Tryz.sizeOf5
 v5 := Tryz.zeroValue5
 t9 := Tryz.underlying9
 a9 := Tryz.isAgg9
 z9 := Tryz.sizeOf9
 v9 := Tryz.zeroValue9
 t21 := Tryz.underlying21
 a21 := Tryz.isAgg21
 z21 := Tryz.sizeOf21
 v21 := Tryz.zeroValue21
 t31 := Tryz.underlying33
 a31 := Tryz.isAgg33
 z31 := Tryz.sizeOf33
 v31 := Tryz.zeroValue33
 t46 := Tryz.underlying247
 a46 := Tryz.isAgg247
 z46 := Tryz.sizeOf247
 v46 := Tryz.zeroValue247
 t51 := Tryz.underlying371
 a51 := Tryz.isAgg371
 z51 := Tryz.sizeOf371
 v51 := Tryz.zeroValue371
 t105 := Tryz.underlying365
 a105 := Tryz.isAgg365
 z105 := Tryz.sizeOf365
 v105 := Tryz.zeroValue365
 t119 := Tryz.underlying285
 a119 := Tryz.isAgg285
 z119 := Tryz.sizeOf285
 t138 := Tryz.underlying287
 a138 := Tryz.isAgg287
 z138 := Tryz.sizeOf287
 v138 := Tryz.zeroValue287
 t139 := Tryz.underlying288
 a139 := Tryz.isAgg288
 z139 := Tryz.sizeOf288
 v139 := Tryz.zeroValue288
 t146 := Tryz.underlying372
 a146 := Tryz.isAgg372
 z146 := Tryz.sizeOf372
 v146 := Tryz.zeroValue372
 g1 := by kernel_rfl
 g3 := by kernel_rfl
 g4 := by kernel_rfl }
namespace YtjiahcekpohehaaGreatDoor.Abs
def noZ : Nat → List UInt8 → Bool
 | 0, _ => true
 | n + 1, l => if l = [] then true else if (Lib.decodeL l).1 = 0 then false else noZ n (l.drop (Lib.decodeL l).2)
def Ud (s : ByteArray) : Bool := noZ s.size s.data.toList && (Lib.validD s.data.toList && decide (s.size ≤ 60))
def JT (w : World) : Prop := Lib.Utf8Tabs (Tryz.laysValid_ren.g 3) (Tryz.laysValid_ren.g 4) w
def J0 (w : World) : Prop := JT w ∧ ∃ m, w.cell? ⟨Tryz.laysSplit_ren.g 1, 0, none⟩ = some (.int .i64 m)
theorem AeV : ∀ w w' : World, JT w → Below w.heap.size w w' → JT w' := fun _ _ h hb => Utf8Tabs_below h hb
theorem AeT : ∀ w w' : World, J0 w → Below w.heap.size w w' → J0 w' := fun w w' h hb => ⟨AeV w w' h.1 hb, by
 obtain ⟨m, hm⟩ := h.2
 have hlt := World.block_lt_of_cell? _ _ hm
 refine ⟨m, ?_⟩
 rw [← hm]
 simp only [World.cell?]
 rw [hb.block _ hlt]⟩
set_option maxHeartbeats 1000000 in
set_option maxRecDepth 1000000 in
theorem AcR (s : ByteArray) (w : World) (hs : s.size ≤ 9223372036854775807) (hT : JT w) :
  Calls Tryz.prog 147 #[.string s] w fun e w' => e = .returned (.bool (Ud s)) ∧ Below w.heap.size w w' := by
 have cV : ∀ w, JT w → Calls Tryz.prog 234 #[.string s] w _ := fun w hT => Any.utf8_ValidString Tryz.laysValid s w hs hT
 unfold Ud
 generalize hV : Lib.validD s.data.toList = V at cV ⊢
 have bel : ∀ pos, Below w.heap.size w (w.iter s pos) := fun pos => (Below.refl _ w).alloc (Nat.le_refl _) _
 go_enter Tryz.func147, Tryz.ntmps147
 go_wp2
 go_loopw [] (fun w' => ∃ (pos b : Nat), w' = w.iter s pos ∧ noZ b (s.data.toList.drop pos) = noZ s.size s.data.toList ∧ s.size ≤ pos + b) (fun w' => s.size - w'.iterPos w.heap.size)
 case atStart => exact ⟨0, s.size, rfl, by simp, by omega⟩
 case round =>
  obtain ⟨pos, b, rfl, hc, hb⟩ := hrel
  by_cases hp : pos < s.size
  ·have hnx : ∀ ty, (Instr.next (.pointer (some ⟨w.heap.size, 0, none⟩)) true ty).run Tryz.prog (w.iter s pos) = _ := fun ty => run_next_any w s pos ty hp
   have hdd := Lib.decodeL_drop s pos
   have hwd : 1 ≤ (Utf8.decode s pos).2 := by rw [← hdd]; exact Lib.decodeL_width _
   obtain ⟨b, rfl⟩ : ∃ b', b = b' + 1 := ⟨b - 1, by omega⟩
   have hne : s.data.toList.drop pos ≠ [] := by
    intro h
    have := congrArg List.length h
    simp at this
    omega
   rw [noZ, if_neg hne, hdd] at hc
   by_cases hz : (Utf8.decode s pos).1 = 0
   ·rw [if_pos hz] at hc
    have hz' : (((Utf8.decode s pos).1 : Int) == 0) = true := by simp [hz]
    go_wp2
    go_ret
    rw [← hc]
    exact ⟨by simp, bel _⟩
   ·rw [if_neg hz, List.drop_drop] at hc
    have hz' : (((Utf8.decode s pos).1 : Int) == 0) = false := by simp; omega
    go_wp2
    go_roundw
    case rel => exact ⟨pos + (Utf8.decode s pos).2, b, rfl, hc, by omega⟩
    case measure =>
     simp
     omega
  ·have hnx : ∀ ty, (Instr.next (.pointer (some ⟨w.heap.size, 0, none⟩)) true ty).run Tryz.prog (w.iter s pos) = _ := fun ty => run_next_end w s pos ty hp
   have hnil : s.data.toList.drop pos = [] := by
    apply List.drop_of_length_le
    simp
    omega
   have hc2 : noZ s.size s.data.toList = true := by
    rw [← hc, hnil]
    cases b <;> simp [noZ]
   rw [hc2]
   have cV2 := cV (w.iter s pos) (Utf8Tabs_below hT (bel pos))
   go_wp2_with (go_at_call 234; refine cV2.mono ?_; rintro e w' ⟨rfl, hb2⟩)
   all_goals
    go_ret
    refine ⟨?_, (bel pos).trans (hb2.mono (bel pos).size)⟩
   ·simp_all
    omega
   ·simp_all
theorem T5 : ∀ (n : Nat) (l : List UInt8), Lv n l = (noZ n l && Lib.validGoD n l)
 | 0, _ => rfl
 | n + 1, l => by
  rw [Lv, noZ, Lib.validGoD, T5 n]
  by_cases h : l = []
  ·simp [h]
  ·by_cases h1 : (Lib.decodeL l).1 = 65533 ∧ (Lib.decodeL l).2 = 1
   ·simp [h, h1]
   ·by_cases h2 : (Lib.decodeL l).1 = 0
    ·simp [h, h2]
    ·simp [h, h1, h2]
theorem Adj (s : ByteArray) : Ud s = Fd s := by
 have e : s.data.toList.length = s.size := by simp
 unfold Ud Fd Lib.validD
 rw [T5, e]
 cases noZ s.size s.data.toList <;> cases Lib.validGoD s.size s.data.toList <;> simp
theorem AkH {c : ByteArray} (h : c.data.toList = [43, 35]) : c = phB := by
 cases c with
 | mk d =>
  have : d = #[43, 35] := by apply Array.ext'; simpa using h
  subst this
  rfl
theorem AjK {c : ByteArray} (h : c.data.toList = [47]) : c = So := by
 cases c with
 | mk d =>
  have : d = #[47] := by apply Array.ext'; simpa using h
  subst this
  rfl
theorem Afv : (Tryz.prog.info? (Tryz.laysAny_ren.t 116)).map (fun i => (i.zero, i.size)) = some (some (.agg (Array.replicate 256 (.bool false))), 256) := by kernel_rfl
theorem hi9 : (Tryz.prog.info? (Tryz.laysSplit_ren.t 9)).map (fun i => (i.zero, i.size, i.bytes)) = some (some (.string ByteArray.empty), 1, 16) := by kernel_rfl
theorem Ahg {w w' : World} (hb : Below w.heap.size w w') : HR w Fb w' [] := by
 refine ⟨hb, ?_, ?_, ?_, ?_⟩
 ·intro i k b o sz hi
  cases hi
 ·intro i k hi
  cases hi
 ·intro i i' k k' b o sz o' sz' hi
  cases hi
 ·intro i p hp
  cases hp
theorem Aak {w w' : World} (hb : Below w.heap.size w w') (ty : Nat) (v : Value) : ∃ φ' Hc x ids, HR w φ' w' Hc ∧ VR w φ' x v ∧ Cc E0.ti E0.tp Hc 8 ty x = some (.sc v, ids) ∧ ids.Nodup :=
 ⟨Fb, [], .sc v, [], Ahg hb, E8 _ _ _, rfl, List.nodup_nil⟩
theorem Wq {ti : Nat → Option TI} {tp : Nat → Option (List Nat)} {H : Ab} {d : Nat} : ∀ (ts : List Nat) (l : List Value), ts.length = l.length → Cq (Cc ti tp H (d + 1)) ts (l.map AV.sc) = some (l.map AV.sc, [])
 | [], [], _ => rfl
 | t :: ts, v :: l, h => by
  have ih := Wq (ti := ti) (tp := tp) (H := H) (d := d) ts l (by simpa using h)
  simp only [List.map_cons, Cq, ih, Option.bind_some]
  rfl
theorem Ah0 {ti : Nat → Option TI} {tp : Nat → Option (List Nat)} {H : Ab} {d ty id off n z : Nat} : Cc ti tp H (d + 1) ty (.sl id off n z) = (ti ty).bind fun i => (ti i.elem).bind fun j => if z = j.size then (if F6 H id then (An H id off (n * z)).bind fun cs => (Cq (Cc ti tp H d) (List.replicate n j.cty).flatten cs).bind fun q => some (.ro n q.1, id :: q.2) else none) else none := rfl
theorem Ads (w : World) (l : List ByteArray) (e : TypeId) : ∃ φ' Hc x ids, HR w φ' (w.alloc (.cells (l.map Value.string).toArray e)) Hc ∧ VR w φ' x (.slice (some ⟨w.heap.size, 0, none⟩) l.length l.length) ∧
  Cc E0.ti E0.tp Hc 8 33 x = some (.ro l.length (l.map fun s => .sc (.string s)), ids) ∧ ids.Nodup := by
 have hcs : VRs w Fb ((l.map Value.string).map AV.sc) (fun j => (l.map Value.string).toArray[0 + j]?) := by
  rw [Ce]
  intro j x hj
  rw [List.getElem?_map] at hj
  obtain ⟨v, hv, rfl⟩ := Option.map_eq_some_iff.1 hj
  exact ⟨v, by simpa using hv, E8 _ _ _⟩
 obtain ⟨h1, h2⟩ := (HR.start w).alloc (Eh w (.cells (l.map Value.string).toArray e)) (b := w.heap.size) (o := 0) (k := ⟨(l.map Value.string).map AV.sc, true, true⟩) (Nat.le_refl _) (Jt w _) (by simp) (fun _ => rfl) (.inl rfl) hcs
 refine ⟨_, _, .sl 0 0 l.length 1, [0], h1, ?_, ?_, by simp⟩
 ·rw [VR]
  refine .inr ⟨w.heap.size, 0, _, Dy _ _ _, .inr ⟨l.length, Nat.le_refl _, rfl, ?_⟩⟩
  simp
 ·rw [Ah0]
  have hr : An ([] ++ [⟨(l.map Value.string).map AV.sc, true, true⟩]) 0 0 (l.length * 1) = some ((l.map Value.string).map AV.sc) := by
   simp [An, List.take_of_length_le]
  have e1 : E0.ti 33 = Ag 33 := rfl
  obtain ⟨i, j, hi, hj, hz, hc⟩ : ∃ i j, Ag 33 = some i ∧ Ag i.elem = some j ∧ j.size = 1 ∧ j.cty = [i.elem] := ⟨_, _, rfl, rfl, rfl, rfl⟩
  simp only [e1, hi, Option.bind_some, show E0.ti i.elem = some j from hj, hz, if_true, hr, hc]
  have ho := Wq (ti := E0.ti) (tp := E0.tp) (H := [] ++ [⟨(l.map Value.string).map AV.sc, true, true⟩]) (d := 6) (List.replicate l.length [i.elem]).flatten (l.map Value.string) (by simp)
  rw [ho]
  have ha : F6 ([] ++ [(⟨(l.map Value.string).map AV.sc, true, true⟩ : Fz)]) 0 = true := rfl
  rw [if_pos ha]
  simp [List.map_map]
theorem Add (s : ByteArray) (w : World) (hs : s.size < 4294967281) : Calls Tryz.prog 267 #[.string s, .string phB] w fun e w' => e = .returned (.bool (vPH s)) ∧ Below w.heap.size w w' :=
 V0 Tryz.laysAny (zero_of_info Afv).1 (zero_of_info Afv).2 s w hs
theorem Zw (s : ByteArray) (w : World) (hs : s.size < 4294967281) (hm : ∃ m, w.cell? ⟨Tryz.laysSplit_ren.g 1, 0, none⟩ = some (.int .i64 m)) : Calls Tryz.prog 300 #[.string s, .string So] w fun e w' =>
  e = .returned (.slice (some ⟨w.heap.size, 0, none⟩) (Dw s).length (Dw s).length) ∧ w' = w.alloc (.cells ((Dw s).map Value.string).toArray (Tryz.laysSplit_ren.t 9)) := by
 obtain ⟨m, hm⟩ := hm
 have h := Any.strings_Split Tryz.laysSplit hi9 s So m w hs hm (Nat.le_refl _)
 rw [Oy, ← Ze] at h
 exact h
theorem Ahy {w : World} {x : Value} {us : List Value} (hl : us.length = 1) (hv : VRs w Fb [.sc x] (fun j => us[j]?)) : us = [x] := by
 match us, hl with
 | [y], _ =>
  rw [VRs] at hv
  obtain ⟨⟨u, hu, hv⟩, _⟩ := hv
  rw [VR] at hv
  simp at hu
  rw [hu, hv]
theorem Xb {w : World} {x y : Value} {us : List Value} (hl : us.length = 2) (hv : VRs w Fb [.sc x, .sc y] (fun j => us[j]?)) : us = [x, y] := by
 match us, hl with
 | [a, b], _ =>
  rw [VRs, VRs] at hv
  obtain ⟨⟨u, hu, hv⟩, ⟨u2, hu2, hv2⟩, _⟩ := hv
  rw [VR] at hv hv2
  simp at hu hu2
  rw [hu, hv, hu2, hv2]
theorem Al1 : AhK Tryz.prog E0 J0 := by
 intro f g hg w hj ty vs us t hl hv ht
 have hf : E0.ext f = if Nat.beq f 147 then some Uk else if Nat.beq f 267 then some Q7 else if Nat.beq f 300 then some O8 else none := rfl
 rw [hf] at hg
 split at hg
 ·rename_i hfe
  obtain rfl := Nat.eq_of_beq_eq_true hfe
  cases hg
  unfold Uk at ht
  split at ht
  case h_2 => cases ht
  rename_i s
  split at ht
  case isFalse => cases ht
  rename_i hs
  cases ht
  have hm : maxLen = 9223372036854775807 := by decide
  rw [hm] at hs
  obtain rfl := Ahy hl hv
  refine .inr ⟨enters_of Tryz.func147 (by kernel_rfl) rfl _ _, (AcR s w hs hj.1).mono fun e w' ⟨he, hb⟩ => ⟨_, he, ?_⟩⟩
  rw [Adj]
  exact Aak hb _ _
 split at hg
 ·rename_i hfe
  obtain rfl := Nat.eq_of_beq_eq_true hfe
  cases hg
  unfold Q7 at ht
  split at ht
  case h_2 => cases ht
  rename_i s c
  split at ht
  case isFalse => cases ht
  rename_i hs
  cases ht
  obtain rfl := Xb hl hv
  obtain ⟨hc, hs⟩ := hs
  obtain rfl := AkH hc
  exact .inr ⟨enters_of Tryz.func267 (by kernel_rfl) rfl _ _, (Add s w hs).mono fun e w' ⟨he, hb⟩ => ⟨_, he, Aak hb _ _⟩⟩
 split at hg
 ·rename_i hfe
  obtain rfl := Nat.eq_of_beq_eq_true hfe
  cases hg
  unfold O8 at ht
  split at ht
  case h_2 => cases ht
  rename_i s c
  split at ht
  case isFalse => cases ht
  rename_i hs
  cases ht
  obtain rfl := Xb hl hv
  obtain ⟨rfl, hc, hs⟩ := hs
  obtain rfl := AjK hc
  exact .inr ⟨enters_of Tryz.func300 (by kernel_rfl) rfl _ _, (Zw s w hs hj.2).mono fun e w' ⟨he, hw⟩ => ⟨_, he, by subst hw; exact Ads w (Dw s) _⟩⟩
 ·cases hg
end YtjiahcekpohehaaGreatDoor.Abs
end Go.Proofs
namespace Go.Proofs.YtjiahcekpohehaaGreatDoor.Abs
section
open Go Go.RowKit
variable {P : Program} {β : Type}
def Z7 (w w' : World) (b : Nat) : Prop := (w'.os = w.os ∧ w'.tape = w.tape ∧ w'.output = w.output ∧ w'.heap.size = w.heap.size) ∧ ∀ c, c ≠ b → w'.heap[c]? = w.heap[c]?
def Xn (P : Program) (f : FuncId) (sz : Nat) : Prop :=
 ∀ (w : World) (b o n c i j : Nat) (arr : Array Value) (e : TypeId), w.heap[b]? = some (.cells arr e (0, 0)) → n ≤ c → o + c * sz ≤ arr.size → i < j → j ≤ n → (∀ q z, o ≤ q → q < o + n * sz → arr[q]? = some z → z.oneCell' = true) →
  (callFunc f #[.slice (some ⟨b, o, none⟩) n c, .int .i64 i, .int .i64 j]).run P w = .ok (.enter f #[.slice (some ⟨b, o, none⟩) n c, .int .i64 i, .int .i64 j]) w ∧
  Calls P f #[.slice (some ⟨b, o, none⟩) n c, .int .i64 i, .int .i64 j] w fun ex w' => ex = .returned (.slice (some ⟨b, o, none⟩) (n - (j - i)) c) ∧ Z7 w w' b ∧
   ∃ arr', w'.heap[b]? = some (.cells arr' e (0, 0)) ∧ arr'.size = arr.size ∧ ∀ q, q < (n - (j - i)) * sz → arr'[o + q]? = if q < i * sz then arr[o + q]? else arr[o + (q + (j - i) * sz)]?
theorem Abn {f : FuncId} {sz : Nat} (hraw : Xn P f sz) {w0 : World} {φ : Db} {w : World} {H : Ab} (hr : HR w0 φ w H) {x i j : AV} {us : List Value} (hl : us.length = 3) (ha : VRs w0 φ [x, i, j] (fun q => us[q]?)) {k : KO β} {r : β}
  (h : Afp sz x i j H k = some r) : (callFunc f us.toArray).run P w = .ok (.enter f us.toArray) w ∧ Calls P f us.toArray w fun ex w' => ∃ u, ex = .returned u ∧ Left w0 φ k r u w' := by
 unfold Afp at h
 split at h
 case h_2 => cases h
 rename_i id off n z a b
 split at h
 case isFalse => cases h
 rename_i hc
 obtain ⟨rfl, ha0, hab, hbn⟩ := hc
 simp only [Option.bind_eq_some_iff] at h
 obtain ⟨cx, hcx, h⟩ := h
 split at h
 case isFalse => cases h
 rename_i hlf
 simp only [Li, Option.bind_eq_some_iff] at h
 obtain ⟨H1, ⟨k0, hk0, hki⟩, h⟩ := h
 split at hki
 case isFalse => cases hki
 rename_i happ
 cases hki
 simp only [VRs] at ha
 obtain ⟨⟨u0, e0, v0⟩, ⟨u1, e1, v1⟩, ⟨u2, e2, v2⟩, _⟩ := ha
 obtain ⟨x0, x1, x2, rfl⟩ : ∃ x0 x1 x2, us = [x0, x1, x2] := by
  match us, hl with
  | [a, b, c], _ => exact ⟨_, _, _, rfl⟩
 cases e0
 cases e1
 cases e2
 rw [VR] at v0
 rw [show VR w0 φ (.sc (.int .i64 a)) u1 = (u1 = .int .i64 a) from by rw [VR]] at v1
 rw [show VR w0 φ (.sc (.int .i64 b)) u2 = (u2 = .int .i64 b) from by rw [VR]] at v2
 subst v1 v2
 unfold An at hcx
 rw [hk0] at hcx
 simp only at hcx
 split at hcx
 case isFalse => cases hcx
 rename_i hlv
 split at hcx
 case isFalse => cases hcx
 rename_i hle
 cases hcx
 rcases v0 with ⟨_, _, hn0, _⟩ | ⟨bk, o, s, hp, hx⟩
 ·omega
 rcases hx with ⟨hn0, _⟩ | ⟨c, hnc, rfl, hfit⟩
 ·omega
 obtain ⟨hbw, arr, e, fr, q1, q2, q3, q4, q5, q6⟩ := hr.blk id k0 bk o s hk0 hlv hp
 have hfr := q4 happ
 subst hfr
 have ea : a = ((a.toNat : Nat) : Int) := by omega
 have eb : b = ((b.toNat : Nat) : Int) := by omega
 rw [ea, eb]
 have hz0 : 0 ≤ z := Nat.zero_le _
 rw [Ce] at q6
 obtain ⟨g1, g2⟩ := hraw w bk (o + off) n c a.toNat b.toNat arr e q1 hnc (by omega) (by omega) (by omega) (by
  intro q v hq1 hq2 hv
  have hlt : q - (o + off) < ((k0.cells.drop off).take (n * z)).length := by simp; omega
  have hm := List.all_eq_true.1 hlf _ (List.getElem_mem hlt)
  obtain ⟨uu, f1, f2⟩ := q6 (off + (q - (o + off))) _ (by
   have := List.getElem?_eq_getElem hlt
   rw [List.getElem?_take_of_lt (by omega), List.getElem?_drop] at this
   exact this)
  rw [show o + (off + (q - (o + off))) = q by omega, hv] at f1
  cases f1
  exact J2 (Qq f2 hm))
 refine ⟨g1, g2.mono fun ex w' ⟨hex, hin, arr', r1, r2, r3⟩ => ⟨_, hex, ?_⟩⟩
 have hmul : (b.toNat - a.toNat) * z ≤ n * z := Nat.mul_le_mul_right _ (by omega)
 have hlen : ((k0.cells.drop off).take (n * z)).length = n * z := by simp; omega
 have haz : a.toNat * z ≤ n * z := Nat.mul_le_mul_right _ (by omega)
 have hbz : b.toNat * z ≤ n * z := Nat.mul_le_mul_right _ (by omega)
 have habz : a.toNat * z + (b.toNat - a.toNat) * z = b.toNat * z := by rw [← Nat.add_mul]; congr 1; omega
 have hsz : (n - (b.toNat - a.toNat)) * z + (b.toNat - a.toNat) * z = n * z := by rw [← Nat.add_mul]; congr 1; omega
 have hcz : n * z ≤ c * z := Nat.mul_le_mul_right _ hnc
 have hba : (b - a).toNat = b.toNat - a.toNat := by omega
 rw [hba] at h
 obtain ⟨a1, a2⟩ := hr.adopt hk0 hlv hp hin.1 hin.2 (k' := ⟨((k0.cells.drop off).take (n * z)).take (a.toNat * z) ++ ((k0.cells.drop off).take (n * z)).drop (b.toNat * z), true, true⟩) (o' := o + off) (w' := w')
  ⟨hbw, arr', e, _, r1, by omega, by simp only [List.length_append, List.length_take, List.length_drop]; omega, fun _ => rfl, .inl rfl, by
   rw [Ce]
   intro q y hq
   have hlt := (List.getElem?_eq_some_iff.1 hq).1
   simp only [List.length_append, List.length_take, List.length_drop] at hlt
   have hq' : q < (n - (b.toNat - a.toNat)) * z := by omega
   by_cases hqa : q < a.toNat * z
   ·rw [List.getElem?_append_left (by rw [List.length_take, hlen]; omega), List.getElem?_take_of_lt hqa, List.getElem?_take_of_lt (by omega), List.getElem?_drop] at hq
    obtain ⟨uu, f1, f2⟩ := q6 _ y hq
    refine ⟨uu, ?_, f2⟩
    rw [r3 q hq', if_pos hqa, ← f1]
    congr 1
    omega
   ·rw [List.getElem?_append_right (by rw [List.length_take, hlen]; omega), List.length_take, hlen, Nat.min_eq_left haz, List.getElem?_drop, List.getElem?_take_of_lt (by omega), List.getElem?_drop] at hq
    obtain ⟨uu, f1, f2⟩ := q6 _ y hq
    refine ⟨uu, ?_, f2⟩
    rw [r3 q hq', if_neg hqa, ← f1]
    congr 1
    omega⟩
 unfold D2 at h
 rw [List.length_set] at h
 refine ⟨_, _, _, h, Gr hr.fresh, a1, ?_⟩
 rw [VR]
 exact .inr ⟨_, _, _, Dy _ _ _, .inr ⟨c, by omega, rfl, hfit⟩⟩
theorem AjX {f : FuncId} {sz bt : Nat} (hraw : Xn P f sz) {w0 : World} {φ : Db} {w : World} {H : Ab} {args : List AV} {us : List Value} {k : KO β} {r : β} (h : pXk (false, sz, bt) args H k = some r) (hr : HR w0 φ w H) (hl : us.length = args.length) (ha : VRs w0 φ args (fun q => us[q]?)) :
  (callFunc f us.toArray).run P w = .ok (.enter f us.toArray) w ∧ Calls P f us.toArray w fun ex w' => ∃ u, ex = .returned u ∧ Left w0 φ k r u w' := by
 unfold pXk at h
 split at h
 ·exact Abn hraw hr hl ha h
 ·rename_i e
  cases e
 ·cases h
theorem Qi {t ty : TypeId} {i j : TI} (ht : TOk P t i) (hs : i.sl = true) (hj : TOk P i.elem j) (w : World) (b o n c : Nat) (hn : 0 < n) (arr : Array Value) (e : TypeId) (hh : w.heap[b]? = some (.cells arr e (0, 0))) (hle : o + n * j.size ≤ arr.size) :
  ∃ zs : List Value, zs.length = n * j.size ∧ (Builtin.clear_ #[t] ty #[.slice (some ⟨b, o, none⟩) n c]).run P w = .ok (.tuple #[]) (w.setCells b o zs) := by
 have hun := run_underlying (Ds ht hs) w
 obtain ⟨inf, hi, e1, e2, z, hz1, hz2⟩ := hj.info
 obtain ⟨z', hz', hzc⟩ := Jq hj w
 have hzs : z'.cells.size = j.size := by rw [← hj.zsz, ← hzc]; simp
 have hzc' : Builtin.zeroCells z'.cells n = madeCells z'.cells (n * j.size) := by rw [← hzs]; rfl
 have hlen : (Builtin.zeroCells z'.cells n).toList.length = n * j.size := by rw [hzc']; simp [size_madeCells]
 have hst := run_storeCells_cells (P := P) b o (Builtin.zeroCells z'.cells n).toList 0 w
  (fun q hq => by
   have hlt : o + q < arr.size := by omega
   simp [World.cell?, hh, hlt])
  (fun q hq => by simp [World.frozen?, hh])
  (fun v hv => by
   refine J2 ?_
   rw [hzc'] at hv
   simp only [madeCells, Array.toList_map, List.mem_map] at hv
   obtain ⟨q, _, rfl⟩ := hv
   have hm : q % z'.cells.size < z'.cells.size := Nat.mod_lt _ (by rw [hzs]; exact hj.spos)
   rw [getElem!_pos z'.cells _ hm]
   refine hj.zlf _ ?_
   rw [← hzc]
   simp)
 simp only [Nat.add_zero] at hst
 obtain ⟨n, rfl⟩ : ∃ m, n = m + 1 := ⟨n - 1, by omega⟩
 exact ⟨_, hlen, by simp [Builtin.clear_, hun, hz', hst]⟩
end
section
open Go Go.RowKit
set_option maxHeartbeats 4000000 in
set_option maxRecDepth 1000000 in
theorem Aly {i j : TI} (ht : TOk Tryz.prog 27 i) (hs : i.sl = true) (hj : TOk Tryz.prog i.elem j) (he : i.elem = 143) (hw : j.size = 6) : Xn Tryz.prog 91 6 := by
 intro w b o n c x y arr e hh hnc hfit hxy hyn hone
 refine ⟨?_, ?_⟩
 ·have hrun : ∀ w, (program).run Tryz.prog w = .ok Tryz.prog w := fun _ => rfl
  have h1 : Tryz.prog.funcs[91]? = some _ := Tryz.func91
  have h2 : (Tryz.f91.name == "runtime.NumGoroutine") = false := by kernel_rfl
  have h3 : Tryz.f91.body.isNone = false := by kernel_rfl
  simp only [callFunc, Sem.run_bind, hrun, Result.andThen_ok, h1, h2, h3, Bool.false_eq_true, if_false, Sem.run_pure]
 ·obtain ⟨inf, hi, e1, e2, z, hz1, hz2⟩ := hj.info
  rw [hw] at e1
  have ht22 := Ds ht hs
  obtain ⟨news, hnews⟩ : ∃ news, news = (arr.toList.drop (o + y * 6)).take ((n - y) * 6) := ⟨_, rfl⟩
  have hcs : n * 6 ≤ c * 6 := Nat.mul_le_mul_right _ hnc
  have hys : y * 6 ≤ n * 6 := Nat.mul_le_mul_right _ hyn
  have hxs : x * 6 < y * 6 := Nat.mul_lt_mul_of_pos_right hxy (by decide)
  have hny : (n - y) * 6 + y * 6 = n * 6 := by rw [← Nat.add_mul]; congr 1; omega
  have hlen : news.length = (n - y) * 6 := by rw [hnews]; simp; omega
  have hget : ∀ t, t < (n - y) * 6 → news[t]? = arr[o + (y * 6 + t)]? := by
   intro t ht
   rw [hnews, List.getElem?_take_of_lt ht, List.getElem?_drop, Array.getElem?_toList]
   congr 1
   omega
  obtain ⟨A, hA, hsrc⟩ : ∃ A : Addr, (if c = y then some (⟨b, o, none⟩ : Addr) else some ⟨b, o + y * 6, none⟩) = some A ∧ Hid (∀ t u, news[t]? = some u → w.drew.cell? (A.add t) = some u) := by
   by_cases h : c = y
   ·refine ⟨⟨b, o, none⟩, by simp [h], fun t u hu => ?_⟩
    have h0 : news.length = 0 := by rw [hlen, show n - y = 0 by omega, Nat.zero_mul]
    rw [List.length_eq_zero_iff.1 h0] at hu
    simp at hu
   ·refine ⟨⟨b, o + y * 6, none⟩, by simp [h], fun t u hu => ?_⟩
    have ht : t < (n - y) * 6 := by
     have := (List.getElem?_eq_some_iff.1 hu).1
     rwa [hlen] at this
    rw [hget t ht] at hu
    rw [Addr.add_lit]
    show w.cell? _ = _
    simp only [World.cell?, hh]
    rw [← hu, if_neg (by simp), Nat.add_assoc]
  have s1 : Hid (news.length = (n - y) * 6) := hlen
  have s2 : Hid (∀ u ∈ news, u.oneCell' = true) := by
   intro u hu
   obtain ⟨q, hq⟩ := List.mem_iff_getElem?.1 hu
   have hlt : q < (n - y) * 6 := by rw [← hlen]; exact (List.getElem?_eq_some_iff.1 hq).1
   rw [hget q hlt] at hq
   exact hone _ u (by omega) (by omega) hq
  have s3 : Hid (∀ t, t < news.length → (w.drew.cell? ⟨b, o + x * 6 + t, none⟩).isSome = true ∧ w.drew.frozen? ⟨b, o + x * 6 + t, none⟩ = false) := by
   intro t ht
   rw [hlen] at ht
   have hlt : o + x * 6 + t < arr.size := by omega
   constructor
   ·show (w.cell? _).isSome = true
    simp [World.cell?, hh, hlt]
   ·show w.frozen? _ = false
    simp [World.frozen?, hh]
  obtain ⟨W1, hW1⟩ : ∃ W1, W1 = w.drew.setCells b (o + x * 6) news := ⟨_, rfl⟩
  obtain ⟨arr1, g1, g2, g3⟩ := Gu b e (0, 0) news (o + x * 6) w.drew arr hh (by omega)
  rw [← hW1] at g1
  have hcl : ∀ ty, ∃ zs : List Value, zs.length = (n - (x + (n - y))) * 6 ∧ (Builtin.clear_ #[27] ty #[.slice (some ⟨b, o + (x + (n - y)) * 6, none⟩) (n - (x + (n - y))) (c - (x + (n - y)))]).run Tryz.prog W1 = .ok (.tuple #[]) (W1.setCells b (o + (x + (n - y)) * 6) zs) :=
   fun ty => hw ▸ Qi ht hs hj W1 b _ _ _ (by omega) arr1 e g1 (by
    rw [hw]
    have : (x + (n - y)) * 6 + (n - (x + (n - y))) * 6 = n * 6 := by rw [← Nat.add_mul]; congr 1; omega
    omega)
  obtain ⟨zs, hzl, hcl⟩ := hcl 0
  have hW : Hid (W1 = w.drew.setCells b (o + x * 6) news) := hW1
  have hic : x ≤ c := by omega
  have hjc : y ≤ c := by omega
  have hne : ¬ x = y := by omega
  have hcol : (n - (y - x)) * 6 = (x + (n - y)) * 6 := by congr 1; omega
  have hsum : x * 6 + (n - y) * 6 = (x + (n - y)) * 6 := by omega
  have hK : Hid (Z7 w W1 b ∧ W1.heap[b]? = some (.cells arr1 e (0, 0)) ∧ arr1.size = arr.size ∧ zs.length = (n - (x + (n - y))) * 6 ∧ ∀ q, q < (n - (y - x)) * 6 → arr1[o + q]? = if q < x * 6 then arr[o + q]? else arr[o + (q + (y - x) * 6)]?) := by
   refine ⟨?_, g1, g2, hzl, fun q hq => ?_⟩
   ·obtain ⟨s1, s2, s3, s4⟩ := F2 b news (o + x * 6) w.drew
    rw [hW1]
    exact ⟨⟨s1, s2, s3, s4⟩, fun c hc => Ep b news _ w.drew c hc⟩
   ·rw [g3 (o + q), hlen]
    by_cases hqx : q < x * 6
    ·rw [if_neg (by omega), if_pos hqx]
    ·rw [if_pos (by omega), if_neg hqx, hget _ (by omega)]
     congr 1
     omega
  rw [he] at ht22 hi
  clear hW1 hget hnews hlen hone hh g1 g2 g3 hxs hny hys hcs hzl hcol hsum
  go_enter Tryz.func91, Tryz.ntmps91
  go_wp2_with fail
  go_region_law (refine step_append_room rfl (.tmp 22) (.tmp 25) 27 rfl 143 inf 6 ht22 hi e1 b o x c (by simp [Act.eval, Act.put]) A (n - y) (c - y) news (by simp [Act.eval, Act.put]) s1.out hsrc.out s2.out (by omega) s3.out ?_; rw [← hW.out])
  go_wp2
  go_ret
  obtain ⟨k1, k2, k3, k4, k5⟩ := hK.out
  have hcol : (x + (n - y)) * 6 + (n - (x + (n - y))) * 6 = n * 6 := by omega
  have hnc6 : n * 6 ≤ c * 6 := Nat.mul_le_mul_right _ hnc
  obtain ⟨s1, s2, s3, s4⟩ := F2 b zs (o + (x + (n - y)) * 6) W1
  obtain ⟨arr2, m1, m2, m3⟩ := Gu b e (0, 0) zs (o + (x + (n - y)) * 6) W1 arr1 k2 (by omega)
  refine ⟨by rw [show n - (y - x) = x + (n - y) by omega]; rfl, ⟨⟨s1.trans k1.1.1, s2.trans k1.1.2.1, s3.trans k1.1.2.2.1, s4.trans k1.1.2.2.2⟩, fun c hc => (Ep b zs _ W1 c hc).trans (k1.2 c hc)⟩, arr2, m1, m2.trans k3, fun q hq => ?_⟩
  rw [m3 (o + q), if_neg (by omega)]
  exact k5 q hq
theorem xkP (hT : G6 Tryz.prog Ag) : AjZ Tryz.prog E0 := by
 intro f q hq β w0 φ w H args us k r h hr hl ha
 have hq : (if Nat.beq f 91 then some (false, 6, 72) else none) = some q := hq
 split at hq
 ·rename_i hf
  obtain rfl := Nat.eq_of_beq_eq_true hf
  cases hq
  exact AjX (Aly (hT _ _ rfl) rfl (hT _ _ rfl) rfl rfl) h hr hl ha
 ·cases hq
end
section
open Go
theorem AkK : Af4 Tryz.prog 0 tis = true := by kernel_rfl
theorem Ake : Ae8 E0 fss = true := by kernel_rfl
theorem Z2 : G6 Tryz.prog Ag := by
 intro t i h
 unfold Ag at h
 cases hl : tis[t]? with
 | none => rw [hl] at h; cases h
 | some o =>
  rw [hl] at h
  simp only [Option.getD_some] at h
  subst h
  simpa using (Vc tis 0 t i AkK hl).1
theorem Akd : ∀ t i, Ag t = some i → i.ik = some .u8 → i.size = 1 := by
 intro t i h
 unfold Ag at h
 cases hl : tis[t]? with
 | none => rw [hl] at h; cases h
 | some o =>
  rw [hl] at h
  simp only [Option.getD_some] at h
  subst h
  exact (Vc tis 0 t i AkK hl).2
def FnQ (n : Nat) (c : Code) (t : Nat) (f : Func) : Prop := ∃ fn, Tryz.prog.funcs[n]? = some fn ∧ (fn.name == "runtime.NumGoroutine") = false ∧ fn.body = some c ∧ fn.ntmps = t ∧ fn.results.toList = f.results.toList
theorem E1 {c : Code} {t : Nat} {f : Func} {o : List (Nat × PI)} {i : D5} {n : Nat} (e : some (some (⟨c, t, f.results.toList, o⟩ : D5)) = some (some i)) (h : FnQ n c t f) : ∃ fn, Tryz.prog.funcs[n]? = some fn ∧ (fn.name == "runtime.NumGoroutine") = false ∧ fn.body = some i.body ∧ fn.ntmps = i.ntmps ∧ fn.results.toList = i.results := by cases e; exact h
theorem Akz : ∀ (f : Nat) (i : D5), f < 302 → fss[f]? = some (some i) → ∃ fn, Tryz.prog.funcs[f]? = some fn ∧ (fn.name == "runtime.NumGoroutine") = false ∧ fn.body = some i.body ∧ fn.ntmps = i.ntmps ∧ fn.results.toList = i.results
 | 0, i, _, h => nomatch Option.some.inj h
 | 1, i, _, h => nomatch Option.some.inj h
 | 2, i, _, h => nomatch Option.some.inj h
 | 3, i, _, h => E1 (f := Tryz.f3) h ⟨_, Tryz.func3, by kernel_rfl, by kernel_rfl, rfl, rfl⟩
 | 4, i, _, h => nomatch Option.some.inj h
 | 5, i, _, h => nomatch Option.some.inj h
 | 6, i, _, h => nomatch Option.some.inj h
 | 7, i, _, h => nomatch Option.some.inj h
 | 8, i, _, h => nomatch Option.some.inj h
 | 9, i, _, h => nomatch Option.some.inj h
 | 10, i, _, h => nomatch Option.some.inj h
 | 11, i, _, h => nomatch Option.some.inj h
 | 12, i, _, h => E1 (f := Tryz.f12) h ⟨_, Tryz.func12, by kernel_rfl, by kernel_rfl, rfl, rfl⟩
 | 13, i, _, h => E1 (f := Tryz.f13) h ⟨_, Tryz.func13, by kernel_rfl, by kernel_rfl, rfl, rfl⟩
 | 14, i, _, h => E1 (f := Tryz.f14) h ⟨_, Tryz.func14, by kernel_rfl, by kernel_rfl, rfl, rfl⟩
 | 15, i, _, h => E1 (f := Tryz.f15) h ⟨_, Tryz.func15, by kernel_rfl, by kernel_rfl, rfl, rfl⟩
 | 16, i, _, h => E1 (f := Tryz.f16) h ⟨_, Tryz.func16, by kernel_rfl, by kernel_rfl, rfl, rfl⟩
 | 17, i, _, h => E1 (f := Tryz.f17) h ⟨_, Tryz.func17, by kernel_rfl, by kernel_rfl, rfl, rfl⟩
 | 18, i, _, h => E1 (f := Tryz.f18) h ⟨_, Tryz.func18, by kernel_rfl, by kernel_rfl, rfl, rfl⟩
 | 19, i, _, h => E1 (f := Tryz.f19) h ⟨_, Tryz.func19, by kernel_rfl, by kernel_rfl, rfl, rfl⟩
 | 20, i, _, h => E1 (f := Tryz.f20) h ⟨_, Tryz.func20, by kernel_rfl, by kernel_rfl, rfl, rfl⟩
 | 21, i, _, h => E1 (f := Tryz.f21) h ⟨_, Tryz.func21, by kernel_rfl, by kernel_rfl, rfl, rfl⟩
 | 22, i, _, h => nomatch Option.some.inj h
 | 23, i, _, h => nomatch Option.some.inj h
 | 24, i, _, h => nomatch Option.some.inj h
 | 25, i, _, h => nomatch Option.some.inj h
 | 26, i, _, h => nomatch Option.some.inj h
 | 27, i, _, h => nomatch Option.some.inj h
 | 28, i, _, h => nomatch Option.some.inj h
 | 29, i, _, h => nomatch Option.some.inj h
 | 30, i, _, h => nomatch Option.some.inj h
 | 31, i, _, h => nomatch Option.some.inj h
 | 32, i, _, h => nomatch Option.some.inj h
 | 33, i, _, h => nomatch Option.some.inj h
 | 34, i, _, h => nomatch Option.some.inj h
 | 35, i, _, h => nomatch Option.some.inj h
 | 36, i, _, h => nomatch Option.some.inj h
 | 37, i, _, h => nomatch Option.some.inj h
 | 38, i, _, h => E1 (f := Tryz.f38) h ⟨_, Tryz.func38, by kernel_rfl, by kernel_rfl, rfl, rfl⟩
 | 39, i, _, h => E1 (f := Tryz.f39) h ⟨_, Tryz.func39, by kernel_rfl, by kernel_rfl, rfl, rfl⟩
 | 40, i, _, h => E1 (f := Tryz.f40) h ⟨_, Tryz.func40, by kernel_rfl, by kernel_rfl, rfl, rfl⟩
 | 41, i, _, h => nomatch Option.some.inj h
 | 42, i, _, h => nomatch Option.some.inj h
 | 43, i, _, h => nomatch Option.some.inj h
 | 44, i, _, h => nomatch Option.some.inj h
 | 45, i, _, h => nomatch Option.some.inj h
 | 46, i, _, h => nomatch Option.some.inj h
 | 47, i, _, h => nomatch Option.some.inj h
 | 48, i, _, h => nomatch Option.some.inj h
 | 49, i, _, h => nomatch Option.some.inj h
 | 50, i, _, h => nomatch Option.some.inj h
 | 51, i, _, h => nomatch Option.some.inj h
 | 52, i, _, h => nomatch Option.some.inj h
 | 53, i, _, h => nomatch Option.some.inj h
 | 54, i, _, h => nomatch Option.some.inj h
 | 55, i, _, h => nomatch Option.some.inj h
 | 56, i, _, h => nomatch Option.some.inj h
 | 57, i, _, h => nomatch Option.some.inj h
 | 58, i, _, h => nomatch Option.some.inj h
 | 59, i, _, h => nomatch Option.some.inj h
 | 60, i, _, h => nomatch Option.some.inj h
 | 61, i, _, h => nomatch Option.some.inj h
 | 62, i, _, h => nomatch Option.some.inj h
 | 63, i, _, h => nomatch Option.some.inj h
 | 64, i, _, h => nomatch Option.some.inj h
 | 65, i, _, h => nomatch Option.some.inj h
 | 66, i, _, h => nomatch Option.some.inj h
 | 67, i, _, h => nomatch Option.some.inj h
 | 68, i, _, h => nomatch Option.some.inj h
 | 69, i, _, h => nomatch Option.some.inj h
 | 70, i, _, h => nomatch Option.some.inj h
 | 71, i, _, h => nomatch Option.some.inj h
 | 72, i, _, h => nomatch Option.some.inj h
 | 73, i, _, h => nomatch Option.some.inj h
 | 74, i, _, h => E1 (f := Tryz.f74) h ⟨_, Tryz.func74, by kernel_rfl, by kernel_rfl, rfl, rfl⟩
 | 75, i, _, h => E1 (f := Tryz.f75) h ⟨_, Tryz.func75, by kernel_rfl, by kernel_rfl, rfl, rfl⟩
 | 76, i, _, h => E1 (f := Tryz.f76) h ⟨_, Tryz.func76, by kernel_rfl, by kernel_rfl, rfl, rfl⟩
 | 77, i, _, h => nomatch Option.some.inj h
 | 78, i, _, h => nomatch Option.some.inj h
 | 79, i, _, h => nomatch Option.some.inj h
 | 80, i, _, h => nomatch Option.some.inj h
 | 81, i, _, h => nomatch Option.some.inj h
 | 82, i, _, h => E1 (f := Tryz.f82) h ⟨_, Tryz.func82, by kernel_rfl, by kernel_rfl, rfl, rfl⟩
 | 83, i, _, h => E1 (f := Tryz.f83) h ⟨_, Tryz.func83, by kernel_rfl, by kernel_rfl, rfl, rfl⟩
 | 84, i, _, h => E1 (f := Tryz.f84) h ⟨_, Tryz.func84, by kernel_rfl, by kernel_rfl, rfl, rfl⟩
 | 85, i, _, h => E1 (f := Tryz.f85) h ⟨_, Tryz.func85, by kernel_rfl, by kernel_rfl, rfl, rfl⟩
 | 86, i, _, h => E1 (f := Tryz.f86) h ⟨_, Tryz.func86, by kernel_rfl, by kernel_rfl, rfl, rfl⟩
 | 87, i, _, h => E1 (f := Tryz.f87) h ⟨_, Tryz.func87, by kernel_rfl, by kernel_rfl, rfl, rfl⟩
 | 88, i, _, h => E1 (f := Tryz.f88) h ⟨_, Tryz.func88, by kernel_rfl, by kernel_rfl, rfl, rfl⟩
 | 89, i, _, h => E1 (f := Tryz.f89) h ⟨_, Tryz.func89, by kernel_rfl, by kernel_rfl, rfl, rfl⟩
 | 90, i, _, h => E1 (f := Tryz.f90) h ⟨_, Tryz.func90, by kernel_rfl, by kernel_rfl, rfl, rfl⟩
 | 91, i, _, h => nomatch Option.some.inj h
 | 92, i, _, h => E1 (f := Tryz.f92) h ⟨_, Tryz.func92, by kernel_rfl, by kernel_rfl, rfl, rfl⟩
 | 93, i, _, h => E1 (f := Tryz.f93) h ⟨_, Tryz.func93, by kernel_rfl, by kernel_rfl, rfl, rfl⟩
 | 94, i, _, h => E1 (f := Tryz.f94) h ⟨_, Tryz.func94, by kernel_rfl, by kernel_rfl, rfl, rfl⟩
 | 95, i, _, h => E1 (f := Tryz.f95) h ⟨_, Tryz.func95, by kernel_rfl, by kernel_rfl, rfl, rfl⟩
 | 96, i, _, h => E1 (f := Tryz.f96) h ⟨_, Tryz.func96, by kernel_rfl, by kernel_rfl, rfl, rfl⟩
 | 97, i, _, h => E1 (f := Tryz.f97) h ⟨_, Tryz.func97, by kernel_rfl, by kernel_rfl, rfl, rfl⟩
 | 98, i, _, h => E1 (f := Tryz.f98) h ⟨_, Tryz.func98, by kernel_rfl, by kernel_rfl, rfl, rfl⟩
 | 99, i, _, h => E1 (f := Tryz.f99) h ⟨_, Tryz.func99, by kernel_rfl, by kernel_rfl, rfl, rfl⟩
 | 100, i, _, h => E1 (f := Tryz.f100) h ⟨_, Tryz.func100, by kernel_rfl, by kernel_rfl, rfl, rfl⟩
 | 101, i, _, h => E1 (f := Tryz.f101) h ⟨_, Tryz.func101, by kernel_rfl, by kernel_rfl, rfl, rfl⟩
 | 102, i, _, h => E1 (f := Tryz.f102) h ⟨_, Tryz.func102, by kernel_rfl, by kernel_rfl, rfl, rfl⟩
 | 103, i, _, h => E1 (f := Tryz.f103) h ⟨_, Tryz.func103, by kernel_rfl, by kernel_rfl, rfl, rfl⟩
 | 104, i, _, h => E1 (f := Tryz.f104) h ⟨_, Tryz.func104, by kernel_rfl, by kernel_rfl, rfl, rfl⟩
 | 105, i, _, h => E1 (f := Tryz.f105) h ⟨_, Tryz.func105, by kernel_rfl, by kernel_rfl, rfl, rfl⟩
 | 106, i, _, h => E1 (f := Tryz.f106) h ⟨_, Tryz.func106, by kernel_rfl, by kernel_rfl, rfl, rfl⟩
 | 107, i, _, h => E1 (f := Tryz.f107) h ⟨_, Tryz.func107, by kernel_rfl, by kernel_rfl, rfl, rfl⟩
 | 108, i, _, h => nomatch Option.some.inj h
 | 109, i, _, h => nomatch Option.some.inj h
 | 110, i, _, h => nomatch Option.some.inj h
 | 111, i, _, h => nomatch Option.some.inj h
 | 112, i, _, h => nomatch Option.some.inj h
 | 113, i, _, h => nomatch Option.some.inj h
 | 114, i, _, h => nomatch Option.some.inj h
 | 115, i, _, h => nomatch Option.some.inj h
 | 116, i, _, h => nomatch Option.some.inj h
 | 117, i, _, h => nomatch Option.some.inj h
 | 118, i, _, h => nomatch Option.some.inj h
 | 119, i, _, h => nomatch Option.some.inj h
 | 120, i, _, h => E1 (f := Tryz.f120) h ⟨_, Tryz.func120, by kernel_rfl, by kernel_rfl, rfl, rfl⟩
 | 121, i, _, h => nomatch Option.some.inj h
 | 122, i, _, h => nomatch Option.some.inj h
 | 123, i, _, h => nomatch Option.some.inj h
 | 124, i, _, h => E1 (f := Tryz.f124) h ⟨_, Tryz.func124, by kernel_rfl, by kernel_rfl, rfl, rfl⟩
 | 125, i, _, h => nomatch Option.some.inj h
 | 126, i, _, h => E1 (f := Tryz.f126) h ⟨_, Tryz.func126, by kernel_rfl, by kernel_rfl, rfl, rfl⟩
 | 127, i, _, h => nomatch Option.some.inj h
 | 128, i, _, h => nomatch Option.some.inj h
 | 129, i, _, h => nomatch Option.some.inj h
 | 130, i, _, h => nomatch Option.some.inj h
 | 131, i, _, h => nomatch Option.some.inj h
 | 132, i, _, h => nomatch Option.some.inj h
 | 133, i, _, h => nomatch Option.some.inj h
 | 134, i, _, h => E1 (f := Tryz.f134) h ⟨_, Tryz.func134, by kernel_rfl, by kernel_rfl, rfl, rfl⟩
 | 135, i, _, h => nomatch Option.some.inj h
 | 136, i, _, h => nomatch Option.some.inj h
 | 137, i, _, h => E1 (f := Tryz.f137) h ⟨_, Tryz.func137, by kernel_rfl, by kernel_rfl, rfl, rfl⟩
 | 138, i, _, h => nomatch Option.some.inj h
 | 139, i, _, h => E1 (f := Tryz.f139) h ⟨_, Tryz.func139, by kernel_rfl, by kernel_rfl, rfl, rfl⟩
 | 140, i, _, h => nomatch Option.some.inj h
 | 141, i, _, h => E1 (f := Tryz.f141) h ⟨_, Tryz.func141, by kernel_rfl, by kernel_rfl, rfl, rfl⟩
 | 142, i, _, h => nomatch Option.some.inj h
 | 143, i, _, h => nomatch Option.some.inj h
 | 144, i, _, h => E1 (f := Tryz.f144) h ⟨_, Tryz.func144, by kernel_rfl, by kernel_rfl, rfl, rfl⟩
 | 145, i, _, h => nomatch Option.some.inj h
 | 146, i, _, h => nomatch Option.some.inj h
 | 147, i, _, h => nomatch Option.some.inj h
 | 148, i, _, h => nomatch Option.some.inj h
 | 149, i, _, h => E1 (f := Tryz.f149) h ⟨_, Tryz.func149, by kernel_rfl, by kernel_rfl, rfl, rfl⟩
 | 150, i, _, h => nomatch Option.some.inj h
 | 151, i, _, h => E1 (f := Tryz.f151) h ⟨_, Tryz.func151, by kernel_rfl, by kernel_rfl, rfl, rfl⟩
 | 152, i, _, h => E1 (f := Tryz.f152) h ⟨_, Tryz.func152, by kernel_rfl, by kernel_rfl, rfl, rfl⟩
 | 153, i, _, h => nomatch Option.some.inj h
 | 154, i, _, h => E1 (f := Tryz.f154) h ⟨_, Tryz.func154, by kernel_rfl, by kernel_rfl, rfl, rfl⟩
 | 155, i, _, h => nomatch Option.some.inj h
 | 156, i, _, h => nomatch Option.some.inj h
 | 157, i, _, h => nomatch Option.some.inj h
 | 158, i, _, h => nomatch Option.some.inj h
 | 159, i, _, h => nomatch Option.some.inj h
 | 160, i, _, h => nomatch Option.some.inj h
 | 161, i, _, h => nomatch Option.some.inj h
 | 162, i, _, h => nomatch Option.some.inj h
 | 163, i, _, h => nomatch Option.some.inj h
 | 164, i, _, h => nomatch Option.some.inj h
 | 165, i, _, h => nomatch Option.some.inj h
 | 166, i, _, h => nomatch Option.some.inj h
 | 167, i, _, h => nomatch Option.some.inj h
 | 168, i, _, h => nomatch Option.some.inj h
 | 169, i, _, h => nomatch Option.some.inj h
 | 170, i, _, h => nomatch Option.some.inj h
 | 171, i, _, h => nomatch Option.some.inj h
 | 172, i, _, h => nomatch Option.some.inj h
 | 173, i, _, h => nomatch Option.some.inj h
 | 174, i, _, h => nomatch Option.some.inj h
 | 175, i, _, h => nomatch Option.some.inj h
 | 176, i, _, h => nomatch Option.some.inj h
 | 177, i, _, h => nomatch Option.some.inj h
 | 178, i, _, h => nomatch Option.some.inj h
 | 179, i, _, h => nomatch Option.some.inj h
 | 180, i, _, h => nomatch Option.some.inj h
 | 181, i, _, h => nomatch Option.some.inj h
 | 182, i, _, h => nomatch Option.some.inj h
 | 183, i, _, h => E1 (f := Tryz.f183) h ⟨_, Tryz.func183, by kernel_rfl, by kernel_rfl, rfl, rfl⟩
 | 184, i, _, h => nomatch Option.some.inj h
 | 185, i, _, h => nomatch Option.some.inj h
 | 186, i, _, h => nomatch Option.some.inj h
 | 187, i, _, h => E1 (f := Tryz.f187) h ⟨_, Tryz.func187, by kernel_rfl, by kernel_rfl, rfl, rfl⟩
 | 188, i, _, h => nomatch Option.some.inj h
 | 189, i, _, h => nomatch Option.some.inj h
 | 190, i, _, h => E1 (f := Tryz.f190) h ⟨_, Tryz.func190, by kernel_rfl, by kernel_rfl, rfl, rfl⟩
 | 191, i, _, h => E1 (f := Tryz.f191) h ⟨_, Tryz.func191, by kernel_rfl, by kernel_rfl, rfl, rfl⟩
 | 192, i, _, h => E1 (f := Tryz.f192) h ⟨_, Tryz.func192, by kernel_rfl, by kernel_rfl, rfl, rfl⟩
 | 193, i, _, h => E1 (f := Tryz.f193) h ⟨_, Tryz.func193, by kernel_rfl, by kernel_rfl, rfl, rfl⟩
 | 194, i, _, h => E1 (f := Tryz.f194) h ⟨_, Tryz.func194, by kernel_rfl, by kernel_rfl, rfl, rfl⟩
 | 195, i, _, h => E1 (f := Tryz.f195) h ⟨_, Tryz.func195, by kernel_rfl, by kernel_rfl, rfl, rfl⟩
 | 196, i, _, h => E1 (f := Tryz.f196) h ⟨_, Tryz.func196, by kernel_rfl, by kernel_rfl, rfl, rfl⟩
 | 197, i, _, h => E1 (f := Tryz.f197) h ⟨_, Tryz.func197, by kernel_rfl, by kernel_rfl, rfl, rfl⟩
 | 198, i, _, h => E1 (f := Tryz.f198) h ⟨_, Tryz.func198, by kernel_rfl, by kernel_rfl, rfl, rfl⟩
 | 199, i, _, h => E1 (f := Tryz.f199) h ⟨_, Tryz.func199, by kernel_rfl, by kernel_rfl, rfl, rfl⟩
 | 200, i, _, h => nomatch Option.some.inj h
 | 201, i, _, h => nomatch Option.some.inj h
 | 202, i, _, h => nomatch Option.some.inj h
 | 203, i, _, h => E1 (f := Tryz.f203) h ⟨_, Tryz.func203, by kernel_rfl, by kernel_rfl, rfl, rfl⟩
 | 204, i, _, h => E1 (f := Tryz.f204) h ⟨_, Tryz.func204, by kernel_rfl, by kernel_rfl, rfl, rfl⟩
 | 205, i, _, h => E1 (f := Tryz.f205) h ⟨_, Tryz.func205, by kernel_rfl, by kernel_rfl, rfl, rfl⟩
 | 206, i, _, h => E1 (f := Tryz.f206) h ⟨_, Tryz.func206, by kernel_rfl, by kernel_rfl, rfl, rfl⟩
 | 207, i, _, h => E1 (f := Tryz.f207) h ⟨_, Tryz.func207, by kernel_rfl, by kernel_rfl, rfl, rfl⟩
 | 208, i, _, h => E1 (f := Tryz.f208) h ⟨_, Tryz.func208, by kernel_rfl, by kernel_rfl, rfl, rfl⟩
 | 209, i, _, h => E1 (f := Tryz.f209) h ⟨_, Tryz.func209, by kernel_rfl, by kernel_rfl, rfl, rfl⟩
 | 210, i, _, h => E1 (f := Tryz.f210) h ⟨_, Tryz.func210, by kernel_rfl, by kernel_rfl, rfl, rfl⟩
 | 211, i, _, h => E1 (f := Tryz.f211) h ⟨_, Tryz.func211, by kernel_rfl, by kernel_rfl, rfl, rfl⟩
 | 212, i, _, h => E1 (f := Tryz.f212) h ⟨_, Tryz.func212, by kernel_rfl, by kernel_rfl, rfl, rfl⟩
 | 213, i, _, h => E1 (f := Tryz.f213) h ⟨_, Tryz.func213, by kernel_rfl, by kernel_rfl, rfl, rfl⟩
 | 214, i, _, h => E1 (f := Tryz.f214) h ⟨_, Tryz.func214, by kernel_rfl, by kernel_rfl, rfl, rfl⟩
 | 215, i, _, h => E1 (f := Tryz.f215) h ⟨_, Tryz.func215, by kernel_rfl, by kernel_rfl, rfl, rfl⟩
 | 216, i, _, h => E1 (f := Tryz.f216) h ⟨_, Tryz.func216, by kernel_rfl, by kernel_rfl, rfl, rfl⟩
 | 217, i, _, h => nomatch Option.some.inj h
 | 218, i, _, h => nomatch Option.some.inj h
 | 219, i, _, h => nomatch Option.some.inj h
 | 220, i, _, h => nomatch Option.some.inj h
 | 221, i, _, h => nomatch Option.some.inj h
 | 222, i, _, h => E1 (f := Tryz.f222) h ⟨_, Tryz.func222, by kernel_rfl, by kernel_rfl, rfl, rfl⟩
 | 223, i, _, h => E1 (f := Tryz.f223) h ⟨_, Tryz.func223, by kernel_rfl, by kernel_rfl, rfl, rfl⟩
 | 224, i, _, h => E1 (f := Tryz.f224) h ⟨_, Tryz.func224, by kernel_rfl, by kernel_rfl, rfl, rfl⟩
 | 225, i, _, h => nomatch Option.some.inj h
 | 226, i, _, h => nomatch Option.some.inj h
 | 227, i, _, h => nomatch Option.some.inj h
 | 228, i, _, h => nomatch Option.some.inj h
 | 229, i, _, h => nomatch Option.some.inj h
 | 230, i, _, h => nomatch Option.some.inj h
 | 231, i, _, h => E1 (f := Tryz.f231) h ⟨_, Tryz.func231, by kernel_rfl, by kernel_rfl, rfl, rfl⟩
 | 232, i, _, h => E1 (f := Tryz.f232) h ⟨_, Tryz.func232, by kernel_rfl, by kernel_rfl, rfl, rfl⟩
 | 233, i, _, h => nomatch Option.some.inj h
 | 234, i, _, h => nomatch Option.some.inj h
 | 235, i, _, h => nomatch Option.some.inj h
 | 236, i, _, h => nomatch Option.some.inj h
 | 237, i, _, h => nomatch Option.some.inj h
 | 238, i, _, h => nomatch Option.some.inj h
 | 239, i, _, h => nomatch Option.some.inj h
 | 240, i, _, h => nomatch Option.some.inj h
 | 241, i, _, h => nomatch Option.some.inj h
 | 242, i, _, h => nomatch Option.some.inj h
 | 243, i, _, h => nomatch Option.some.inj h
 | 244, i, _, h => nomatch Option.some.inj h
 | 245, i, _, h => nomatch Option.some.inj h
 | 246, i, _, h => nomatch Option.some.inj h
 | 247, i, _, h => nomatch Option.some.inj h
 | 248, i, _, h => nomatch Option.some.inj h
 | 249, i, _, h => nomatch Option.some.inj h
 | 250, i, _, h => nomatch Option.some.inj h
 | 251, i, _, h => nomatch Option.some.inj h
 | 252, i, _, h => nomatch Option.some.inj h
 | 253, i, _, h => nomatch Option.some.inj h
 | 254, i, _, h => nomatch Option.some.inj h
 | 255, i, _, h => nomatch Option.some.inj h
 | 256, i, _, h => nomatch Option.some.inj h
 | 257, i, _, h => nomatch Option.some.inj h
 | 258, i, _, h => nomatch Option.some.inj h
 | 259, i, _, h => nomatch Option.some.inj h
 | 260, i, _, h => nomatch Option.some.inj h
 | 261, i, _, h => nomatch Option.some.inj h
 | 262, i, _, h => nomatch Option.some.inj h
 | 263, i, _, h => nomatch Option.some.inj h
 | 264, i, _, h => nomatch Option.some.inj h
 | 265, i, _, h => nomatch Option.some.inj h
 | 266, i, _, h => E1 (f := Tryz.f266) h ⟨_, Tryz.func266, by kernel_rfl, by kernel_rfl, rfl, rfl⟩
 | 267, i, _, h => nomatch Option.some.inj h
 | 268, i, _, h => E1 (f := Tryz.f268) h ⟨_, Tryz.func268, by kernel_rfl, by kernel_rfl, rfl, rfl⟩
 | 269, i, _, h => E1 (f := Tryz.f269) h ⟨_, Tryz.func269, by kernel_rfl, by kernel_rfl, rfl, rfl⟩
 | 270, i, _, h => nomatch Option.some.inj h
 | 271, i, _, h => nomatch Option.some.inj h
 | 272, i, _, h => nomatch Option.some.inj h
 | 273, i, _, h => E1 (f := Tryz.f273) h ⟨_, Tryz.func273, by kernel_rfl, by kernel_rfl, rfl, rfl⟩
 | 274, i, _, h => E1 (f := Tryz.f274) h ⟨_, Tryz.func274, by kernel_rfl, by kernel_rfl, rfl, rfl⟩
 | 275, i, _, h => nomatch Option.some.inj h
 | 276, i, _, h => nomatch Option.some.inj h
 | 277, i, _, h => E1 (f := Tryz.f277) h ⟨_, Tryz.func277, by kernel_rfl, by kernel_rfl, rfl, rfl⟩
 | 278, i, _, h => nomatch Option.some.inj h
 | 279, i, _, h => nomatch Option.some.inj h
 | 280, i, _, h => nomatch Option.some.inj h
 | 281, i, _, h => nomatch Option.some.inj h
 | 282, i, _, h => nomatch Option.some.inj h
 | 283, i, _, h => nomatch Option.some.inj h
 | 284, i, _, h => nomatch Option.some.inj h
 | 285, i, _, h => nomatch Option.some.inj h
 | 286, i, _, h => nomatch Option.some.inj h
 | 287, i, _, h => nomatch Option.some.inj h
 | 288, i, _, h => nomatch Option.some.inj h
 | 289, i, _, h => nomatch Option.some.inj h
 | 290, i, _, h => nomatch Option.some.inj h
 | 291, i, _, h => nomatch Option.some.inj h
 | 292, i, _, h => nomatch Option.some.inj h
 | 293, i, _, h => nomatch Option.some.inj h
 | 294, i, _, h => nomatch Option.some.inj h
 | 295, i, _, h => nomatch Option.some.inj h
 | 296, i, _, h => nomatch Option.some.inj h
 | 297, i, _, h => nomatch Option.some.inj h
 | 298, i, _, h => nomatch Option.some.inj h
 | 299, i, _, h => nomatch Option.some.inj h
 | 300, i, _, h => nomatch Option.some.inj h
 | 301, i, _, h => E1 (f := Tryz.f301) h ⟨_, Tryz.func301, by kernel_rfl, by kernel_rfl, rfl, rfl⟩
 | n + 302, i, hlt, h => by omega
theorem Al2 : ∀ f i, E0.fs f = some i → Aiy Tryz.prog E0 f i := by
 intro f i h
 have hl : fss[f]? = some (some i) := by
  have h : (fss[f]?).getD none = some i := h
  cases hl : fss[f]? with
  | none => rw [hl] at h; cases h
  | some o => rw [hl] at h; simp only [Option.getD_some] at h; rw [h]
 refine ⟨?_, AaH Ake hl⟩
 have hlt : f < 302 := (List.getElem?_eq_some_iff.1 hl).1
 exact Akz f i hlt hl
theorem Alz : Vh Tryz.prog E0 J0 := ⟨Z2, Akd, by kernel_rfl, Al2, Al1, (xkP Z2), AeT⟩
end
section
open Go
variable {β : Type} {n : Nat}
section
variable {k : KO β} {k1 : AV → Option β} {H : Ab}
@[simp] theorem Bb : (PR n β).load = Bh := rfl
@[simp] theorem Bo : (PR n β).store = C2 := rfl
@[simp] theorem Cp : (PR n β).new = K4 := rfl
@[simp] theorem B6 : (PR n β).box = Sf := rfl
@[simp] theorem Cj : (PR n β).newSl = D2 := rfl
@[simp] theorem Bj : (PR n β).fadr = Di := rfl
@[simp] theorem AkQ : (PR n β).fld = Ah1 := rfl
@[simp] theorem Ca : (PR n β).iadr = Cg := rfl
@[simp] theorem Eg : (PR n β).idx = Afq := rfl
@[simp] theorem Cs : (PR n β).lenS = Si := rfl
@[simp] theorem B7 : (PR n β).len = Gn := rfl
@[simp] theorem Cn : (PR n β).sliceS = Or := rfl
@[simp] theorem C5 : (PR n β).slice = Lu := rfl
@[simp] theorem De : (PR n β).app = K3 := rfl
@[simp] theorem AkO : (PR n β).appS = AaV := rfl
@[simp] theorem Bg : (PR n β).bin = Bn := rfl
@[simp] theorem Cx : (PR n β).binB = Lt := rfl
@[simp] theorem Dl : (PR n β).binA = On := rfl
@[simp] theorem D7 : (PR n β).un = pUn := rfl
@[simp] theorem B4 : (PR n β).pick = Mr := rfl
@[simp] theorem Ef : (PR n β).cvI = Wt := rfl
@[simp] theorem AkP : (PR n β).cvSS = Afo := rfl
@[simp] theorem Dq : (PR n β).cvBS = Oq := rfl
@[simp] theorem AfI : (PR n β).cvSB = Wu := rfl
@[simp] theorem Z9 : (PR n β).extr = Sh := rfl
@[simp] theorem AkR : (PR n β).nil = AjJ := rfl
@[simp] theorem B3 : (PR n β).fill = fun a l k => (Ez a l).bind k := rfl
@[simp] theorem Dz : (PR n β).make = P5 := rfl
@[simp] theorem Br : (PR n β).guard = Gw := rfl
@[simp] theorem A9 : (PR n β).cond = Cb := rfl
@[simp] theorem AjY : (PR n β).clear = Sg := rfl
@[simp] theorem Z8 : (PR n β).both = Mq := rfl
@[simp] theorem AcY : (PR n β).apart = Pg := rfl
@[simp] theorem AfJ : (PR n β).same = P6 := rfl
noncomputable def Cw (f : Nat) : Bool := E0.hm f || (E0.ext f).isSome
theorem Ww {f : Nat} (h : Cw f = false) : E0.hm f = false := by
 unfold Cw at h
 simp only [Bool.or_eq_false_iff] at h
 exact h.1
theorem T1 {f : Nat} (h : Cw f = false) : E0.ext f = none := by
 unfold Cw at h
 simp only [Bool.or_eq_false_iff] at h
 simpa using h.2
theorem Dd {ty : Nat} {f : FuncId} {args vs : List AV} {t : AV} (hh : Cw f = false) (hv : args.mapM (B8 H 8) = some vs) (ht : Bt E0 n ty f vs = some t) :
  (PR n β).call ty (.fn f [] []) args H k = k (A2 Ag E0.tp H.length ty t).1 (H ++ (A2 Ag E0.tp H.length ty t).2) := by
 show I9 E0 (Cz E0 n) ty f ([] ++ args ++ []) H k = _
 simp only [I9, T1 hh, Ww hh, List.nil_append, List.append_nil, Bool.false_eq_true, if_false, Vv, hv, Option.bind_some]
 have ht : Po E0 (Cz E0 n) ty f vs = some t := ht
 rw [ht]
 rfl
theorem AcZ {ty : Nat} {f : FuncId} {g : Nat → List AV → Option AV} {args vs : List AV} {t : AV} (hg : E0.ext f = some g) (hv : args.mapM (B8 H 8) = some vs) (ht : g ty vs = some t) :
  (PR n β).call ty (.fn f [] []) args H k = k (A2 Ag E0.tp H.length ty t).1 (H ++ (A2 Ag E0.tp H.length ty t).2) := by
 show I9 E0 (Cz E0 n) ty f ([] ++ args ++ []) H k = _
 simp only [I9, hg, List.nil_append, List.append_nil, Aaf, hv, Option.bind_some, ht]
 rfl
end
theorem Ax (n ty : Nat) (f : FuncId) (args : List AV) : Bt E0 n ty f args = Cz E0 n AV f args [] fun x H => Aw Ag E0.tp ty H x := rfl
@[simp] theorem AjI {ti : Nat → Option TI} {tp : Nat → Option (List Nat)} (ty : Nat) (H : Ab) (v : Value) : Aw ti tp ty H (.sc v) = some (.sc v) := rfl
theorem Gi {ti : Nat → Option TI} {tp : Nat → Option (List Nat)} {H : Ab} {d ty id off n z : Nat} : Cc ti tp H (d + 1) ty (.sl id off n z) = (ti ty).bind fun i => (ti i.elem).bind fun j => if z = j.size then (if F6 H id then (An H id off (n * z)).bind fun cs => (Cq (Cc ti tp H d) (List.replicate n j.cty).flatten cs).bind fun q => some (.ro n q.1, id :: q.2) else none) else none := rfl
theorem Fu {ti : Nat → Option TI} {tp : Nat → Option (List Nat)} {H : Ab} {d ty : Nat} {cs : List AV} : Cc ti tp H (d + 1) ty (.agg cs) = (ti ty).bind fun i => (Cq (Cc ti tp H d) i.cty cs).bind fun q => some (.agg q.1, q.2) := rfl
theorem Hd {ti : Nat → Option TI} {tp : Nat → Option (List Nat)} {H : Ab} {d ty : Nat} {cs : List AV} : Cc ti tp H (d + 1) ty (.tup cs) = (tp ty).bind fun ts => (Cq (Cc ti tp H d) ts cs).bind fun q => some (.tup q.1, q.2) := rfl
theorem Qr {ti : Nat → Option TI} {tp : Nat → Option (List Nat)} {H : Ab} {d ty : Nat} {v : Value} : Cc ti tp H (d + 1) ty (.sc v) = some (.sc v, []) := rfl
theorem Dk {ti : Nat → Option TI} {tp : Nat → Option (List Nat)} {n ty : Nat} {v : Value} : A2 ti tp n ty (.sc v) = (.sc v, []) := rfl
theorem Gg {ti : Nat → Option TI} {tp : Nat → Option (List Nat)} {n ty : Nat} {cs : List AV} : A2 ti tp n ty (.agg cs) = (.agg (Aj ti tp n ((ti ty).getD default).cty cs).1, (Aj ti tp n ((ti ty).getD default).cty cs).2) := rfl
theorem Tn {ti : Nat → Option TI} {tp : Nat → Option (List Nat)} {n ty : Nat} {cs : List AV} : A2 ti tp n ty (.tup cs) = (.tup (Aj ti tp n ((tp ty).getD []) cs).1, (Aj ti tp n ((tp ty).getD []) cs).2) := rfl
theorem O1 {H : Ab} {d id off n z : Nat} : B8 H (d + 1) (.sl id off n z) = (An H id off (n * z)).bind fun cs => (cs.mapM (B8 H d)).bind fun vs => some (.ro n vs) := rfl
theorem Ka {H : Ab} {d : Nat} {cs : List AV} : B8 H (d + 1) (.agg cs) = (cs.mapM (B8 H d)).bind fun vs => some (.agg vs) := rfl
theorem Xf {H : Ab} {d : Nat} {v : Value} : B8 H (d + 1) (.sc v) = some (.sc v) := rfl
theorem S0 {H : Ab} {d n : Nat} {cs : List AV} : B8 H (d + 1) (.ro n cs) = some (.ro n cs) := rfl
theorem AaP {H : Ab} {d : Nat} : ∀ (l : List Value), (l.map AV.sc).mapM (B8 H (d + 1)) = some (l.map AV.sc)
 | [] => rfl
 | x :: l => by
  have e : B8 H (d + 1) (.sc x) = some (.sc x) := rfl
  simp only [List.map_cons, List.mapM_cons, e, Option.pure_def, Option.bind_eq_bind, Option.bind_some, AaP l]
theorem U3 {ti : Nat → Option TI} {tp : Nat → Option (List Nat)} {H : Ab} {d : Nat} : ∀ (ts : List Nat) (l : List Value), ts.length = l.length → Cq (Cc ti tp H (d + 1)) ts (l.map AV.sc) = some (l.map AV.sc, [])
 | [], [], _ => rfl
 | t :: ts, x :: l, h => by
  have e : Cc ti tp H (d + 1) t (.sc x) = some (.sc x, []) := rfl
  simp only [List.map_cons, Cq, e, Option.bind_some, U3 ts l (by simpa using h), List.append_nil]
 | [], _ :: _, h => by simp at h
 | _ :: _, [], h => by simp at h
theorem Rx {ti : Nat → Option TI} {tp : Nat → Option (List Nat)} {n : Nat} : ∀ (ts : List Nat) (l : List Value), Aj ti tp n ts (l.map AV.sc) = (l.map AV.sc, [])
 | ts, [] => rfl
 | ts, x :: l => by
  simp only [List.map_cons, Aj, A2, Rx _ l, List.nil_append]
def bv (s : ByteArray) : List Value := s.data.toList.map fun b => .int .u8 b.toNat
theorem Io (s : ByteArray) : Bm s = (bv s).map AV.sc := by simp [Bm, bv]
theorem Ai1 (s : ByteArray) : (bv s).length = s.size := by simp [bv]
theorem Fi (s : ByteArray) : (Bm s).length = s.size := by simp [Bm]
theorem Uc (s : ByteArray) : (Bm s).all A4 = true := by
 simp only [Bm, List.all_map, List.all_eq_true]
 intro b _
 rfl
theorem H7 : ∀ (l : List UInt8), (l.map fun b => AV.sc (.int .u8 (b.toNat : Int))).mapM Ke = some l
 | [] => rfl
 | b :: l => by
  have e : Ke (.sc (.int .u8 (b.toNat : Int))) = some b := by simp [Ke]
  simp only [List.map_cons, List.mapM_cons, e, H7 l, Option.pure_def, Option.bind_eq_bind, Option.bind_some]
end
section
open Go
section gen
variable {ti : Nat → Option TI} {tp : Nat → Option (List Nat)}
def Ed (f : Nat → AV → Prop) : List Nat → List AV → Prop
 | [], [] => True
 | t :: ts, x :: xs => f t x ∧ Ed f ts xs
 | _, _ => False
def F7 (ti : Nat → Option TI) (tp : Nat → Option (List Nat)) : Nat → Nat → AV → Prop
 | 0, _, _ => False
 | d + 1, ty, x =>
  match x with
  | .sc _ => True
  | .ro n cells => ∃ i j, ti ty = some i ∧ ti i.elem = some j ∧ cells.length = n * j.size ∧ Ed (F7 ti tp d) (List.replicate n j.cty).flatten cells
  | .agg cs => ∃ i, ti ty = some i ∧ Ed (F7 ti tp d) i.cty cs
  | .tup cs => ∃ ts, tp ty = some ts ∧ Ed (F7 ti tp d) ts cs
  | _ => False
theorem Jh {f : Nat → AV → Prop} : ∀ {ts : List Nat} {cs : List AV} {ts' : List Nat} {cs' : List AV}, Ed f ts cs → Ed f ts' cs' → Ed f (ts ++ ts') (cs ++ cs')
 | [], [], _, _, _, h => h
 | _ :: ts, _ :: cs, _, _, h, h' => ⟨h.1, Jh h.2 h'⟩
theorem Mg {α : Type} {f : Nat → AV → Prop} {cty : List Nat} {enc : α → List AV} : ∀ (l : List α), (∀ x ∈ l, Ed f cty (enc x)) → Ed f (List.replicate l.length cty).flatten (l.map enc).flatten
 | [], _ => by simp [Ed]
 | x :: l, h => by
  rw [List.length_cons, List.replicate_succ, List.flatten_cons, List.map_cons, List.flatten_cons]
  exact Jh (h x List.mem_cons_self) (Mg l fun y hy => h y (List.mem_cons_of_mem _ hy))
theorem Lm {f g : Nat → AV → Prop} (hfg : ∀ t x, f t x → g t x) : ∀ {ts : List Nat} {cs : List AV}, Ed f ts cs → okL g ts cs
 | [], [], _ => trivial
 | _ :: ts, _ :: cs, h => ⟨hfg _ _ h.1, Lm hfg h.2⟩
theorem Lo : ∀ (d : Nat) (ty : Nat) (x : AV), F7 ti tp d ty x → Wn ti tp d ty x
 | 0, _, _, h => h
 | d + 1, ty, x, h => by
  cases x with
  | sc v => trivial
  | ro n cells =>
   obtain ⟨i, j, h1, h2, h3, h4⟩ := h
   show cells.length = n * (((ti ty).bind fun i => ti i.elem).getD default).size ∧ _
   simp only [h1, Option.bind_some, h2, Option.getD_some]
   exact ⟨h3, Lm (Lo d) h4⟩
  | agg cs =>
   obtain ⟨i, h1, h2⟩ := h
   show okL _ ((ti ty).getD default).cty cs
   rw [h1]
   exact Lm (Lo d) h2
  | tup cs =>
   obtain ⟨ts, h1, h2⟩ := h
   show okL _ ((tp ty).getD []) cs
   rw [h1]
   exact Lm (Lo d) h2
  | _ => cases h
theorem Mi {H : Ab} {d : Nat} (hd : ∀ ty t N, F7 ti tp d ty t → Lies H N (A2 ti tp N ty t).2 → (∀ b ∈ (A2 ti tp N ty t).2, b.live = true ∧ b.app = true) → Cc ti tp H d ty (A2 ti tp N ty t).1 = some (t, List.range' N (A2 ti tp N ty t).2.length)) :
  ∀ (ts : List Nat) (cs : List AV) (N : Nat), Ed (F7 ti tp d) ts cs → Lies H N (Aj ti tp N ts cs).2 → (∀ b ∈ (Aj ti tp N ts cs).2, b.live = true ∧ b.app = true) → Cq (Cc ti tp H d) ts (Aj ti tp N ts cs).1 = some (cs, List.range' N (Aj ti tp N ts cs).2.length)
 | [], [], N, _, _, _ => rfl
 | t :: ts, x :: cs, N, h, hl, hb => by
  simp only [Aj, List.headD_cons, List.tail_cons] at hl hb ⊢
  have h1 := hd t x N h.1 hl.left fun b hb' => hb b (List.mem_append_left _ hb')
  have h2 := Mi hd ts cs _ h.2 hl.right fun b hb' => hb b (List.mem_append_right _ hb')
  have e := List.range'_append (s := N) (m := (A2 ti tp N t x).2.length) (n := (Aj ti tp (N + (A2 ti tp N t x).2.length) ts cs).2.length) (step := 1)
  rw [Nat.one_mul] at e
  simp only [Cq, h1, h2, Option.bind_some, List.length_append, e]
mutual
theorem AcD : ∀ (x : AV) (N ty : Nat), ∀ b ∈ (A2 ti tp N ty x).2, b.live = true ∧ b.app = true
 | .sc v, N, ty => by intro b h; cases h
 | .ro n cells, N, ty => by
  intro b h
  simp only [A2, List.mem_cons] at h
  rcases h with rfl | h
  ·exact ⟨rfl, rfl⟩
  ·exact Fn cells _ _ b h
 | .agg cs, N, ty => fun b h => Fn cs _ _ b h
 | .tup cs, N, ty => fun b h => Fn cs _ _ b h
 | .any, N, ty => by intro b h; cases h
 | .nl, N, ty => by intro b h; cases h
 | .sl .., N, ty => by intro b h; cases h
 | .ptr .., N, ty => by intro b h; cases h
 | .rp .., N, ty => by intro b h; cases h
 | .fn .., N, ty => by intro b h; cases h
theorem Fn : ∀ (cs : List AV) (N : Nat) (ts : List Nat), ∀ b ∈ (Aj ti tp N ts cs).2, b.live = true ∧ b.app = true
 | [], N, ts => by intro b h; cases h
 | x :: cs, N, ts => by
  intro b h
  simp only [Aj, List.mem_append] at h
  rcases h with h | h
  ·exact AcD x _ _ b h
  ·exact Fn cs _ _ b h
end
theorem Iw {H : Ab} : ∀ (d ty : Nat) (t : AV) (N : Nat), F7 ti tp d ty t → Lies H N (A2 ti tp N ty t).2 → Cc ti tp H d ty (A2 ti tp N ty t).1 = some (t, List.range' N (A2 ti tp N ty t).2.length)
 | 0, _, _, _, h, _ => by cases h
 | d + 1, ty, t, N, h, hl => by
  have ih := Mi (H := H) (d := d) (ti := ti) (tp := tp) (fun ty t N h h' _ => Iw d ty t N h h')
  cases t with
  | sc v => rfl
  | ro n cells =>
   obtain ⟨i, j, h1, h2, h3, h4⟩ := h
   have e : A2 ti tp N ty (.ro n cells) = (.sl N 0 n j.size, ⟨(Aj ti tp (N + 1) (List.replicate n j.cty).flatten cells).1, true, true⟩ :: (Aj ti tp (N + 1) (List.replicate n j.cty).flatten cells).2) := by
    simp only [A2, h1, Option.bind_some, h2, Option.getD_some]
   rw [e] at hl ⊢
   have hb := hl 0 _ rfl
   rw [Nat.add_zero] at hb
   have hv := ih (List.replicate n j.cty).flatten cells (N + 1) h4 hl.tail (Fn _ _ _)
   have hlen := D8 (ti := ti) (tp := tp) (N + 1) (List.replicate n j.cty).flatten cells
   have e2 : An H N 0 (n * j.size) = some (Aj ti tp (N + 1) (List.replicate n j.cty).flatten cells).1 := by
    simp only [An, hb, if_true, List.drop_zero, Nat.zero_add]
    rw [if_pos (by rw [hlen, h3]; exact Nat.le_refl _), ← h3, ← hlen, List.take_length]
   have e3 : F6 H N = true := by simp only [F6, hb]
   rw [Gi]
   simp only [h1, h2, Option.bind_some, if_true, e2, e3, hv, List.length_cons]
   rw [List.range'_succ]
  | agg cs =>
   obtain ⟨i, h1, h2⟩ := h
   have e : A2 ti tp N ty (.agg cs) = (.agg (Aj ti tp N i.cty cs).1, (Aj ti tp N i.cty cs).2) := by rw [Gg, h1]; rfl
   rw [e] at hl ⊢
   rw [Fu]
   simp only [h1, Option.bind_some, ih i.cty cs N h2 hl (Fn _ _ _)]
  | tup cs =>
   obtain ⟨ts, h1, h2⟩ := h
   have e : A2 ti tp N ty (.tup cs) = (.tup (Aj ti tp N ts cs).1, (Aj ti tp N ts cs).2) := by rw [Tn, h1]; rfl
   rw [e] at hl ⊢
   rw [Hd]
   simp only [h1, Option.bind_some, ih ts cs N h2 hl (Fn _ _ _)]
  | _ => cases h
theorem T8 (A B X : List Fz) : Lies (A ++ B ++ X) A.length B := fun j b hj => by
 have hlt := (List.getElem?_eq_some_iff.1 hj).1
 rw [List.append_assoc, List.getElem?_append_right (by omega), Nat.add_sub_cancel_left, List.getElem?_append_left hlt]
 exact hj
theorem Js (A B : List Fz) : Lies (A ++ B) A.length B := by
 have := T8 A B []
 rwa [List.append_nil] at this
theorem U5 (A : List Fz) (ty : Nat) (t : AV) (h : F7 ti tp 8 ty t) : Aw ti tp ty (A ++ (A2 ti tp A.length ty t).2) (A2 ti tp A.length ty t).1 = some t := by
 rw [Aw, Iw 8 ty t A.length h (Js _ _)]
 simp only [Option.bind_some]
 rw [if_pos (List.nodup_range')]
def Vw (H : Ab) (x v : AV) : Prop := ∀ X : List Fz, B8 (H ++ X) 8 x = some v
theorem Vw.grow {H : Ab} {x v : AV} (h : Vw H x v) (X : List Fz) : Vw (H ++ X) x v := fun Y => by
 rw [List.append_assoc]
 exact h _
theorem Vw.now {H : Ab} {x v : AV} (h : Vw H x v) : B8 H 8 x = some v := by
 have := h []
 rwa [List.append_nil] at this
theorem Cr (H : Ab) (v : Value) : Vw H (.sc v) (.sc v) := fun _ => rfl
theorem Fe (H : Ab) (n : Nat) (cs : List AV) : Vw H (.ro n cs) (.ro n cs) := fun _ => rfl
def E6 : AV → Bool
 | .sc v => Jf v
 | .ro _ _ => true
 | _ => false
theorem N1 {cs : List AV} (h : cs.all E6 = true) : cs.all A4 = true := by
 rw [List.all_eq_true] at h ⊢
 intro x hx
 have := h x hx
 cases x <;> simp_all [E6, A4]
theorem V9 {cs : List AV} (h : cs.all E6 = true) : Bz (.agg cs) = some cs := by
 show (if cs.all A4 then some cs else none) = _
 rw [if_pos (N1 h)]
theorem Qo {H : Ab} {d : Nat} : ∀ {cs : List AV}, cs.all E6 = true → cs.mapM (B8 H (d + 1)) = some cs
 | [], _ => rfl
 | x :: cs, h => by
  rw [List.all_cons, Bool.and_eq_true] at h
  have e : B8 H (d + 1) x = some x := by
   have := h.1
   cases x <;> first | rfl | (exfalso; simp [E6] at this)
  simp only [List.mapM_cons, e, Qo h.2, Option.pure_def, Option.bind_eq_bind, Option.bind_some]
theorem E2 (H : Ab) {cs : List AV} (h : cs.all E6 = true) : Vw H (.agg cs) (.agg cs) := fun X => by
 rw [Ka, Qo h]
 rfl
theorem F8 : ∀ (cs : List AV) (N : Nat) (ts : List Nat), cs.all E6 = true → (Aj ti tp N ts cs).1.all A4 = true
 | [], _, _, _ => rfl
 | x :: cs, N, ts, h => by
  rw [List.all_cons, Bool.and_eq_true] at h
  simp only [Aj, List.all_cons, Bool.and_eq_true]
  refine ⟨?_, F8 cs _ _ h.2⟩
  have := h.1
  cases x <;> first | exact this | rfl | (exfalso; simp [E6] at this)
theorem Fm : ∀ (ts : List Nat) (cs : List AV) (ts' : List Nat) (cs' : List AV) (N : Nat), ts.length = cs.length →
  Aj ti tp N (ts ++ ts') (cs ++ cs') = ((Aj ti tp N ts cs).1 ++ (Aj ti tp (N + (Aj ti tp N ts cs).2.length) ts' cs').1, (Aj ti tp N ts cs).2 ++ (Aj ti tp (N + (Aj ti tp N ts cs).2.length) ts' cs').2)
 | [], [], ts', cs', N, _ => by simp [Aj]
 | t :: ts, x :: cs, ts', cs', N, h => by
  have ih := Fm ts cs ts' cs' (N + (A2 ti tp N t x).2.length) (by simpa using h)
  simp only [List.cons_append, Aj, List.headD_cons, List.tail_cons, ih, List.length_append, List.append_assoc, Nat.add_assoc]
end gen
section ops
variable {β : Type}
theorem Kk (w len : Nat) (cells : List AV) (i : Nat) (k : AV → Option β) (h : i < len) (h2 : i * w < cells.length) : Cg w (.ro len cells) (.sc (.int .i64 i)) k = k (.rp (cells.drop (i * w))) := by
 simp only [Cg, Xi, Option.bind_some, Int.toNat_natCast]
 rw [if_pos ⟨by omega, by omega⟩, if_pos h2]
theorem Qp (w len id off : Nat) (i : Nat) (k : AV → Option β) (h : i < len) : Cg w (.sl id off len w) (.sc (.int .i64 i)) k = k (.ptr id (off + i * w)) := by
 simp only [Cg, Xi, Option.bind_some, Int.toNat_natCast, if_true]
 rw [if_pos ⟨by omega, by omega⟩]
theorem Mp (w : Nat) (cs r : List AV) (H : Ab) (k : AV → Option β) (h : cs.length = w) : Bh true w (.rp (cs ++ r)) H k = k (.agg cs) := by
 simp only [Bh, List.length_append, h, Nat.le_add_right, if_true, List.take_left' h]
theorem Jo (c : AV) (r : List AV) (H : Ab) (k : AV → Option β) : Bh false 1 (.rp (c :: r)) H k = k c := by
 simp only [Bh, List.length_cons, Nat.le_add_left, if_true, Bool.false_eq_true, if_false]
 rfl
theorem He (w id off : Nat) (y : AV) (b : Fz) (cs : List AV) (H : Ab) (k : Ab → Option β) (h : H[id]? = some b) (hc : Bz y = some cs) (hl : cs.length = w) (ho : off + w ≤ b.cells.length) (hb : b.live = true) : C2 w (.ptr id off) y H k = k (H.set id { b with cells := Ch b.cells off cs }) := by
 simp only [C2, h, hc, Option.bind_some, hb, if_true, hl, ho]
theorem Kt (A z C cs : List AV) (h : z.length = cs.length) : Ch (A ++ (z ++ C)) A.length cs = A ++ (cs ++ C) := by
 unfold Ch
 rw [List.take_left' rfl, ← List.append_assoc A z C, List.drop_append_of_le_length (by rw [List.length_append]; omega), ← h, ← List.length_append, List.drop_length, List.nil_append, List.append_assoc]
theorem Ct (a b : Nat) (k : AV → Option β) : Bn .lss (.sc (.int .i64 a)) (.sc (.int .i64 b)) k = k (.sc (.bool (decide (a < b)))) := by
 show k (.sc (.bool (decide ((a : Int) < (b : Int))))) = _
 rw [show decide ((a : Int) < (b : Int)) = decide (a < b) from by simp]
theorem Dt (a : Nat) (k : AV → Option β) (h : a < 9223372036854775807) : Bn .add (.sc (.int .i64 a)) (.sc (.int .i64 1)) k = k (.sc (.int .i64 (a + 1 : Nat))) := by
 show k (.sc (.int .i64 (IntKind.i64.wrap ((a : Int) + 1)))) = _
 have e : IntKind.i64.wrap ((a : Int) + 1) = ((a + 1 : Nat) : Int) := by
  rw [IntKind.wrap_i64, Int.natCast_add]
  simp only [Int.cast_ofNat_Int]
  omega
 rw [e]
theorem Bl (b : Bool) (x y : Option β) : Cb (.sc (.bool b)) x y = if b then x else y := rfl
theorem Dg (n : Nat) (cs : List AV) (k : AV → Option β) : Gn (.ro n cs) k = k (.sc (.int .i64 n)) := rfl
theorem Gs (n : Int) (h0 : -9223372036854775808 ≤ n) (h1 : n ≤ 9223372036854775807) : IntKind.i64.wrap n = n := by
 rw [IntKind.wrap_i64]; omega
theorem Ms (a b : Int) (k : AV → Option β) (h0 : -9223372036854775808 ≤ a - b) (h1 : a - b ≤ 9223372036854775807) : Bn .sub (.sc (.int .i64 a)) (.sc (.int .i64 b)) k = k (.sc (.int .i64 (a - b))) := by
 show k (.sc (.int .i64 (IntKind.i64.wrap (a - b)))) = _
 rw [Gs _ h0 h1]
theorem H5 (a b : Int) (k : AV → Option β) : Bn .lss (.sc (.int .i64 a)) (.sc (.int .i64 b)) k = k (.sc (.bool (decide (a < b)))) := rfl
theorem Abp {α : Type} {w : Nat} {enc : α → List AV} (hw : ∀ x, (enc x).length = w) (pre r : List α) : ((pre ++ r).map enc).flatten.drop (pre.length * w) = (r.map enc).flatten := by
 have hl : ((pre.map enc).flatten).length = pre.length * w := by
  induction pre with
  | nil => simp
  | cons x pre ih => rw [List.map_cons, List.flatten_cons, List.length_append, ih, hw, List.length_cons, Nat.succ_mul, Nat.add_comm]
 rw [List.map_append, List.flatten_append, List.drop_append_of_le_length (by omega), ← hl, List.drop_length, List.nil_append]
theorem Gb {α : Type} {w : Nat} {enc : α → List AV} (hw : ∀ x, (enc x).length = w) (l : List α) : ((l.map enc).flatten).length = l.length * w := by
 induction l with
 | nil => simp
 | cons x l ih => rw [List.map_cons, List.flatten_cons, List.length_append, ih, hw, List.length_cons, Nat.succ_mul, Nat.add_comm]
theorem La {α : Type} {w : Nat} {enc : α → List AV} (hw : ∀ x, (enc x).length = w) (h0 : 0 < w) (pre : List α) (x : α) (r : List α) (k : AV → Option β) :
  Cg w (.ro (pre ++ x :: r).length ((pre ++ x :: r).map enc).flatten) (.sc (.int .i64 pre.length)) k = k (.rp (enc x ++ (r.map enc).flatten)) := by
 have hl := Gb hw (pre ++ x :: r)
 have h1 : pre.length < (pre ++ x :: r).length := by simp
 rw [Kk w _ _ pre.length k h1 (by rw [hl]; exact Nat.mul_lt_mul_of_pos_right h1 h0), Abp hw pre (x :: r), List.map_cons, List.flatten_cons]
theorem Abd {α : Type} {n te g w : Nat} {cty : List Nat} (enc : α → List AV) (k : KO β) (z : List AV) (hz : z.length = w) (hw : ∀ x, (enc x).length = w) (hc : cty.length = w) (h0 : 0 < w)
  (hte : ∃ i, Ag te = some i ∧ i.cty = cty) (hfl : ∀ x, (enc x).all E6 = true) (hh : Cw g = false) (L : Nat → AV → AV → KO β)
  (hL : ∀ m a o i H, L (m + 1) a o i H = Gn a fun t10 => Bn .lss i t10 fun t11 => Cb t11 (Cg w a i fun t18 => Bh true w t18 H fun t19 => (PR n β).call te (.fn g [] []) [t19] H fun t20 H => Cg w o i fun t21 => C2 w t21 t20 H fun H => Bn .add i (.sc (.int .i64 1)) fun t13 => L m a o t13 H) (k o H))
  (l : List α) (hto : ∀ x ∈ l, Bt E0 n te g [.agg (enc x)] = some (.agg (enc x))) (hlen : l.length ≤ 1048576) : ∀ (r pre : List α) (m : Nat), l = pre ++ r → r.length < m →
   L m (.ro l.length (l.map enc).flatten) (.sl 0 0 l.length w) (.sc (.int .i64 pre.length)) (⟨(Aj Ag E0.tp 1 (List.replicate pre.length cty).flatten (pre.map enc).flatten).1 ++ (List.replicate r.length z).flatten, true, true⟩ :: (Aj Ag E0.tp 1 (List.replicate pre.length cty).flatten (pre.map enc).flatten).2)
    = k (.sl 0 0 l.length w) (⟨(Aj Ag E0.tp 1 (List.replicate l.length cty).flatten (l.map enc).flatten).1, true, true⟩ :: (Aj Ag E0.tp 1 (List.replicate l.length cty).flatten (l.map enc).flatten).2)
 | [], pre, m + 1, hl, hm => by
  rw [List.append_nil] at hl
  subst hl
  rw [hL, Dg, Ct, Bl]
  simp
 | x :: r, pre, m + 1, hl, hm => by
  have hlt : pre.length < l.length := by rw [hl]; simp
  rw [hL, Dg, Ct, Bl, if_pos (by simpa using hlt)]
  have hel := fun k => La (β := β) hw h0 pre x r k
  rw [← hl] at hel
  rw [hel, Mp w _ _ _ _ (hw x)]
  rw [Dd (vs := [.agg (enc x)]) hh (by rw [List.mapM_cons, (E2 _ (hfl x)).now]; rfl) (hto x (by rw [hl]; simp))]
  rw [Qp w _ _ _ _ _ hlt]
  obtain ⟨i, hi, rfl⟩ := hte
  have hr : (List.replicate pre.length i.cty).flatten.length = ((pre.map enc).flatten).length := by rw [Gb hw]; simp [hc]
  have hJ := Fm (ti := Ag) (tp := E0.tp) (List.replicate pre.length i.cty).flatten (pre.map enc).flatten i.cty (enc x) 1 hr
  generalize hP : Aj Ag E0.tp 1 (List.replicate pre.length i.cty).flatten (pre.map enc).flatten = P at hJ ⊢
  have hPl : P.1.length = pre.length * w := by rw [← hP, D8, Gb hw]
  have hN : (⟨P.1 ++ (List.replicate (x :: r).length z).flatten, true, true⟩ :: P.2 : Ab).length = 1 + P.2.length := by simp [Nat.add_comm]
  rw [hN, Gg, hi, Option.getD_some]
  simp only
  generalize hQ : Aj Ag E0.tp (1 + P.2.length) i.cty (enc x) = Q at hJ ⊢
  have hQl : Q.1.length = w := by rw [← hQ, D8, hw]
  have hcl : Bz (.agg Q.1) = some Q.1 := by
   show (if Q.1.all A4 then some Q.1 else none) = _
   rw [if_pos (by rw [← hQ]; exact F8 _ _ _ (hfl x))]
  rw [List.cons_append, He w 0 (0 + pre.length * w) (.agg Q.1) ⟨P.1 ++ (List.replicate (x :: r).length z).flatten, true, true⟩ Q.1 _ _ rfl hcl hQl (by simp [hPl, hz, Nat.succ_mul]) rfl]
  rw [List.set_cons_zero, Dt _ _ (by omega)]
  have ih := Abd enc k z hz hw hc h0 ⟨i, hi, rfl⟩ hfl hh L hL l hto hlen r (pre ++ [x]) m (by rw [hl]; simp) (by simpa using hm)
  have e1 : (List.replicate (pre ++ [x]).length i.cty).flatten = (List.replicate pre.length i.cty).flatten ++ i.cty := by
   rw [List.length_append, List.length_singleton, List.replicate_succ', List.flatten_append]; simp
  have e2 : ((pre ++ [x]).map enc).flatten = (pre.map enc).flatten ++ enc x := by simp
  rw [e1, e2, hJ] at ih
  have e3 : Ch (P.1 ++ (List.replicate (x :: r).length z).flatten) (0 + pre.length * w) Q.1 = P.1 ++ Q.1 ++ (List.replicate r.length z).flatten := by
   rw [List.length_cons, List.replicate_succ, List.flatten_cons, Nat.zero_add, ← hPl, Kt _ _ _ _ (by rw [hz, hQl]), List.append_assoc]
  simp only [e3]
  rw [List.length_append, List.length_singleton] at ih
  exact ih
theorem Xa {α : Type} {n te tyS f g w bytes : Nat} {cty : List Nat} (enc : α → List AV) (z : List AV) (hz : z.length = w) (hw : ∀ x, (enc x).length = w) (hc : cty.length = w) (h0 : 0 < w)
  (hty : ∃ i j, Ag tyS = some i ∧ Ag i.elem = some j ∧ j.size = w ∧ j.cty = cty) (hte : ∃ i, Ag te = some i ∧ i.cty = cty) (hfl : ∀ x, (enc x).all E6 = true) (hh : Cw g = false) (L : (AV → Ab → Option AV) → Nat → AV → AV → AV → Ab → Option AV)
  (hL : ∀ k m a o i H, L k (m + 1) a o i H = Gn a fun t10 => Bn .lss i t10 fun t11 => Cb t11 (Cg w a i fun t18 => Bh true w t18 H fun t19 => (PR n AV).call te (.fn g [] []) [t19] H fun t20 H => Cg w o i fun t21 => C2 w t21 t20 H fun H => Bn .add i (.sc (.int .i64 1)) fun t13 => L k m a o t13 H) (k o H))
  (hF : ∀ a H k, Cz E0 (n + 1) AV f [a] H k = Gn a fun t6 => P5 w bytes z t6 t6 H fun t7 H => L k n a t7 (.sc (.int .i64 0)) H)
  (hby : bytes ≤ 134217728) (l : List α) (hto : ∀ x ∈ l, Bt E0 n te g [.agg (enc x)] = some (.agg (enc x))) (hok : ∀ x ∈ l, Ed (F7 Ag E0.tp 7) cty (enc x)) (hlen : l.length ≤ 1048576) (hn : 1048576 < n) :
  Bt E0 (n + 1) tyS f [.ro l.length (l.map enc).flatten] = some (.ro l.length (l.map enc).flatten) := by
 rw [Ax, hF, Dg]
 have hb : l.length * bytes ≤ 140737488355328 := Nat.le_trans (Nat.mul_le_mul hlen hby) (by decide)
 simp only [P5, Xi, Option.bind_some, if_true, Int.toNat_natCast, hb, Int.natCast_nonneg, D2, List.length_nil, List.nil_append]
 have key := Abd (n := n) (te := te) (g := g) (cty := cty) enc (fun x H => Aw Ag E0.tp tyS H x) z hz hw hc h0 hte hfl hh _ (hL _) l hto hlen l [] n (by simp) (by omega)
 simp only [List.length_nil, List.replicate_zero, List.flatten_nil, List.map_nil, Aj, List.nil_append, Int.natCast_zero] at key
 refine key.trans ?_
 obtain ⟨i, j, h1, h2, h3, rfl⟩ := hty
 have hok' : F7 Ag E0.tp 8 tyS (.ro l.length (l.map enc).flatten) := ⟨i, j, h1, h2, by rw [Gb hw, h3], Mg l hok⟩
 have := U5 [] tyS _ hok'
 simp only [A2, h1, h2, Option.bind_some, Option.getD_some, List.length_nil, List.nil_append, Nat.zero_add, h3] at this
 exact this
theorem Ti {α : Type} {n : Nat} (e : α → Value) (k : KO β) (z : AV) (hlf : ∀ x, Jf (e x) = true) (L : Nat → AV → AV → KO β)
  (hL : ∀ m a o i H, L (m + 1) a o i H = Gn a fun t10 => Bn .lss i t10 fun t11 => Cb t11 (Cg 1 a i fun t18 => Bh false 1 t18 H fun t19 => Cg 1 o i fun t21 => C2 1 t21 t19 H fun H => Bn .add i (.sc (.int .i64 1)) fun t13 => L m a o t13 H) (k o H))
  (l : List α) (hlen : l.length ≤ 1048576) : ∀ (r pre : List α) (m : Nat), l = pre ++ r → r.length < m →
   L m (.ro l.length (l.map fun x => .sc (e x))) (.sl 0 0 l.length 1) (.sc (.int .i64 pre.length)) [⟨(pre.map fun x => .sc (e x)) ++ List.replicate r.length z, true, true⟩]
    = k (.sl 0 0 l.length 1) [⟨l.map fun x => .sc (e x), true, true⟩]
 | [], pre, m + 1, hl, hm => by
  rw [List.append_nil] at hl
  subst hl
  rw [hL, Dg, Ct, Bl]
  simp
 | x :: r, pre, m + 1, hl, hm => by
  have hlt : pre.length < l.length := by rw [hl]; simp
  rw [hL, Dg, Ct, Bl, if_pos (by simpa using hlt)]
  rw [Kk 1 _ _ pre.length _ hlt (by simpa using hlt)]
  have hd : (l.map fun x => AV.sc (e x)).drop (pre.length * 1) = .sc (e x) :: r.map fun x => .sc (e x) := by
   rw [Nat.mul_one, hl, List.map_append, List.drop_append_of_le_length (by simp)]
   rw [show pre.length = (pre.map fun x => AV.sc (e x)).length by simp, List.drop_length]
   rfl
  rw [hd, Jo, Qp 1 _ _ _ _ _ hlt]
  have hc : Bz (.sc (e x)) = some [.sc (e x)] := by
   show Bz (.sc (e x)) = _
   simp only [Bz, A4, hlf, if_true]
  rw [He 1 0 (0 + pre.length * 1) (.sc (e x)) ⟨(pre.map fun x => .sc (e x)) ++ List.replicate (x :: r).length z, true, true⟩ [.sc (e x)] _ _ rfl hc rfl (by simp) rfl]
  rw [List.set_cons_zero, Dt _ _ (by omega)]
  have ih := Ti (n := n) e k z hlf L hL l hlen r (pre ++ [x]) m (by rw [hl]; simp) (by simpa using hm)
  have e3 : Ch ((pre.map fun x => AV.sc (e x)) ++ List.replicate (x :: r).length z) (0 + pre.length * 1) [.sc (e x)] = ((pre ++ [x]).map fun x => AV.sc (e x)) ++ List.replicate r.length z := by
   have := Kt (pre.map fun x => AV.sc (e x)) [z] (List.replicate r.length z) [.sc (e x)] rfl
   rw [List.length_map] at this
   rw [List.length_cons, List.replicate_succ, Nat.zero_add, Nat.mul_one]
   refine this.trans ?_
   simp
  simp only [e3]
  rw [List.length_append, List.length_singleton] at ih
  exact ih
theorem AhF {α : Type} {n tyS f bytes : Nat} (e : α → Value) (z : AV) (hlf : ∀ x, Jf (e x) = true) (hty : ∃ i j, Ag tyS = some i ∧ Ag i.elem = some j ∧ j.size = 1 ∧ j.cty.length = 1) (L : (AV → Ab → Option AV) → Nat → AV → AV → AV → Ab → Option AV)
  (hL : ∀ k m a o i H, L k (m + 1) a o i H = Gn a fun t10 => Bn .lss i t10 fun t11 => Cb t11 (Cg 1 a i fun t18 => Bh false 1 t18 H fun t19 => Cg 1 o i fun t21 => C2 1 t21 t19 H fun H => Bn .add i (.sc (.int .i64 1)) fun t13 => L k m a o t13 H) (k o H))
  (hF : ∀ a H k, Cz E0 (n + 1) AV f [a] H k = Gn a fun t6 => P5 1 bytes [z] t6 t6 H fun t7 H => L k n a t7 (.sc (.int .i64 0)) H)
  (hby : bytes ≤ 134217728) (l : List α) (hlen : l.length ≤ 1048576) (hn : 1048576 < n) :
  Bt E0 (n + 1) tyS f [.ro l.length (l.map fun x => .sc (e x))] = some (.ro l.length (l.map fun x => .sc (e x))) := by
 rw [Ax, hF, Dg]
 have hb : l.length * bytes ≤ 140737488355328 := Nat.le_trans (Nat.mul_le_mul hlen hby) (by decide)
 have hz : (List.replicate l.length [z]).flatten = List.replicate l.length z := by
  generalize l.length = m
  induction m with
  | zero => rfl
  | succ m ih => rw [List.replicate_succ, List.flatten_cons, ih, List.replicate_succ]; rfl
 simp only [P5, Xi, Option.bind_some, if_true, Int.toNat_natCast, hb, Int.natCast_nonneg, D2, List.length_nil, List.nil_append, hz]
 have key := Ti (n := n) e (fun x H => Aw Ag E0.tp tyS H x) z hlf _ (hL _) l hlen l [] n (by simp) (by omega)
 simp only [List.length_nil, List.map_nil, List.nil_append, Int.natCast_zero] at key
 refine key.trans ?_
 obtain ⟨i, j, h1, h2, h3, h4⟩ := hty
 have em : (l.map fun x => AV.sc (e x)) = (l.map e).map AV.sc := by rw [List.map_map]; rfl
 have hl1 : (List.replicate l.length j.cty).flatten.length = (l.map e).length := by simp [h4]
 have e3 := U3 (ti := Ag) (tp := E0.tp) (H := [⟨l.map fun x => AV.sc (e x), true, true⟩]) (d := 6) _ _ hl1
 have e2 : An [⟨l.map fun x => AV.sc (e x), true, true⟩] 0 0 (l.length * 1) = some (l.map fun x => AV.sc (e x)) := by
  simp [An, List.take_of_length_le]
 rw [Aw, Gi]
 simp only [h1, h2, h3, Option.bind_some, if_true, e2, F6, List.getElem?_cons_zero]
 rw [em] at e3 ⊢
 rw [e3]
 rfl
theorem Aaj {α : Type} {n tb g w : Nat} (enc : α → List AV) (k : KO β) (hw : ∀ x, (enc x).length = w) (h0 : 0 < w) (hfl : ∀ x, (enc x).all E6 = true) (hh : Cw g = false) (L : Nat → AV → AV → KO β)
  (hL : ∀ m a b i H, L (m + 1) a b i H = Gn a fun t13 => Bn .lss i t13 fun t14 => Cb t14 (Cg w a i fun t19 => Bh true w t19 H fun t20 => Cg w b i fun t23 => Bh true w t23 H fun t24 => (PR n β).call tb (.fn g [] []) [t20, t24] H fun t25 H => pUn .not t25 fun t26 => Cb t26 (k (.sc (.bool false)) H) (Bn .add i (.sc (.int .i64 1)) fun t16 => L m a b t16 H)) (k (.sc (.bool true)) H))
  (l : List α) (heq : ∀ x ∈ l, Bt E0 n tb g [.agg (enc x), .agg (enc x)] = some (.sc (.bool true))) (hlen : l.length ≤ 1048576) (H : Ab) : ∀ (r pre : List α) (m : Nat), l = pre ++ r → r.length < m →
   L m (.ro l.length (l.map enc).flatten) (.ro l.length (l.map enc).flatten) (.sc (.int .i64 pre.length)) H = k (.sc (.bool true)) H
 | [], pre, m + 1, hl, hm => by
  rw [List.append_nil] at hl
  subst hl
  rw [hL, Dg, Ct, Bl]
  simp
 | x :: r, pre, m + 1, hl, hm => by
  have hlt : pre.length < l.length := by rw [hl]; simp
  rw [hL, Dg, Ct, Bl, if_pos (by simpa using hlt)]
  have hel := fun k => La (β := β) hw h0 pre x r k
  rw [← hl] at hel
  rw [hel, Mp w _ _ _ _ (hw x), hel, Mp w _ _ _ _ (hw x)]
  rw [Dd (vs := [.agg (enc x), .agg (enc x)]) hh (by simp only [List.mapM_cons, (E2 _ (hfl x)).now]; rfl) (heq x (by rw [hl]; simp))]
  rw [Dk]
  simp only [pUn, Bool.not_true, List.append_nil]
  rw [Bl, if_neg (by simp), Dt _ _ (by omega)]
  have ih := Aaj enc k hw h0 hfl hh L hL l heq hlen H r (pre ++ [x]) m (by rw [hl]; simp) (by simpa using hm)
  rw [List.length_append, List.length_singleton] at ih
  exact ih
theorem Oh (a b : Nat) (k : AV → Option β) : Bn .neq (.sc (.int .i64 a)) (.sc (.int .i64 b)) k = k (.sc (.bool (decide (a ≠ b)))) := by
 show k (.sc (.bool ((a : Int) != (b : Int)))) = _
 congr 3
 by_cases h : a = b
 ·subst h; simp
 ·simp [bne, h]; omega
theorem Q6 {α : Type} {n tb f g w : Nat} (enc : α → List AV) (hw : ∀ x, (enc x).length = w) (h0 : 0 < w) (hfl : ∀ x, (enc x).all E6 = true) (hh : Cw g = false) (L : (AV → Ab → Option AV) → Nat → AV → AV → AV → Ab → Option AV)
  (hL : ∀ k m a b i H, L k (m + 1) a b i H = Gn a fun t13 => Bn .lss i t13 fun t14 => Cb t14 (Cg w a i fun t19 => Bh true w t19 H fun t20 => Cg w b i fun t23 => Bh true w t23 H fun t24 => (PR n AV).call tb (.fn g [] []) [t20, t24] H fun t25 H => pUn .not t25 fun t26 => Cb t26 (k (.sc (.bool false)) H) (Bn .add i (.sc (.int .i64 1)) fun t16 => L k m a b t16 H)) (k (.sc (.bool true)) H))
  (hF : ∀ a b H k, Cz E0 (n + 1) AV f [a, b] H k = Gn a fun t7 => Gn b fun t9 => Bn .neq t7 t9 fun t10 => Cb t10 (k (.sc (.bool false)) H) (L k n a b (.sc (.int .i64 0)) H))
  (l : List α) (heq : ∀ x ∈ l, Bt E0 n tb g [.agg (enc x), .agg (enc x)] = some (.sc (.bool true))) (hlen : l.length ≤ 1048576) (hn : 1048576 < n) (tb' : Nat) :
  Bt E0 (n + 1) tb' f [.ro l.length (l.map enc).flatten, .ro l.length (l.map enc).flatten] = some (.sc (.bool true)) := by
 rw [Ax, hF, Dg, Dg, Oh, Bl, if_neg (by simp)]
 have key := Aaj (n := n) (tb := tb) (g := g) enc (fun x H => Aw Ag E0.tp tb' H x) hw h0 hfl hh (L fun x H => Aw Ag E0.tp tb' H x) (hL fun x H => Aw Ag E0.tp tb' H x) l heq hlen [] l [] n (by simp) (by omega)
 simp only [List.length_nil, Int.natCast_zero] at key
 rw [key]
 rfl
theorem V6 {α : Type} {n : Nat} (e : α → Value) (k : KO β) (hne : ∀ (x : α) (γ : Type) (k : AV → Option γ), Bn .neq (.sc (e x)) (.sc (e x)) k = k (.sc (.bool false))) (L : Nat → AV → AV → KO β)
  (hL : ∀ m a b i H, L (m + 1) a b i H = Gn a fun t13 => Bn .lss i t13 fun t14 => Cb t14 (Cg 1 a i fun t19 => Bh false 1 t19 H fun t20 => Cg 1 b i fun t23 => Bh false 1 t23 H fun t24 => Bn .neq t20 t24 fun t25 => Cb t25 (k (.sc (.bool false)) H) (Bn .add i (.sc (.int .i64 1)) fun t16 => L m a b t16 H)) (k (.sc (.bool true)) H))
  (l : List α) (hlen : l.length ≤ 1048576) (H : Ab) : ∀ (r pre : List α) (m : Nat), l = pre ++ r → r.length < m →
   L m (.ro l.length (l.map fun x => .sc (e x))) (.ro l.length (l.map fun x => .sc (e x))) (.sc (.int .i64 pre.length)) H = k (.sc (.bool true)) H
 | [], pre, m + 1, hl, hm => by
  rw [List.append_nil] at hl
  subst hl
  rw [hL, Dg, Ct, Bl]
  simp
 | x :: r, pre, m + 1, hl, hm => by
  have hlt : pre.length < l.length := by rw [hl]; simp
  rw [hL, Dg, Ct, Bl, if_pos (by simpa using hlt)]
  have hd : (l.map fun x => AV.sc (e x)).drop (pre.length * 1) = .sc (e x) :: r.map fun x => .sc (e x) := by
   rw [Nat.mul_one, hl, List.map_append, List.drop_append_of_le_length (by simp)]
   rw [show pre.length = (pre.map fun x => AV.sc (e x)).length by simp, List.drop_length]
   rfl
  rw [Kk 1 _ _ pre.length _ hlt (by simpa using hlt), hd, Jo, Kk 1 _ _ pre.length _ hlt (by simpa using hlt), hd, Jo, hne, Bl, if_neg (by simp), Dt _ _ (by omega)]
  have ih := V6 (n := n) e k hne L hL l hlen H r (pre ++ [x]) m (by rw [hl]; simp) (by simpa using hm)
  rw [List.length_append, List.length_singleton] at ih
  exact ih
theorem Ui {α : Type} {n f : Nat} (e : α → Value) (hne : ∀ (x : α) (γ : Type) (k : AV → Option γ), Bn .neq (.sc (e x)) (.sc (e x)) k = k (.sc (.bool false))) (L : (AV → Ab → Option AV) → Nat → AV → AV → AV → Ab → Option AV)
  (hL : ∀ k m a b i H, L k (m + 1) a b i H = Gn a fun t13 => Bn .lss i t13 fun t14 => Cb t14 (Cg 1 a i fun t19 => Bh false 1 t19 H fun t20 => Cg 1 b i fun t23 => Bh false 1 t23 H fun t24 => Bn .neq t20 t24 fun t25 => Cb t25 (k (.sc (.bool false)) H) (Bn .add i (.sc (.int .i64 1)) fun t16 => L k m a b t16 H)) (k (.sc (.bool true)) H))
  (hF : ∀ a b H k, Cz E0 (n + 1) AV f [a, b] H k = Gn a fun t7 => Gn b fun t9 => Bn .neq t7 t9 fun t10 => Cb t10 (k (.sc (.bool false)) H) (L k n a b (.sc (.int .i64 0)) H))
  (l : List α) (hlen : l.length ≤ 1048576) (hn : 1048576 < n) (tb' : Nat) :
  Bt E0 (n + 1) tb' f [.ro l.length (l.map fun x => .sc (e x)), .ro l.length (l.map fun x => .sc (e x))] = some (.sc (.bool true)) := by
 rw [Ax, hF, Dg, Dg, Oh, Bl, if_neg (by simp)]
 have key := V6 (n := n) e (fun x H => Aw Ag E0.tp tb' H x) hne (L fun x H => Aw Ag E0.tp tb' H x) (hL fun x H => Aw Ag E0.tp tb' H x) l hlen [] l [] n (by simp) (by omega)
 simp only [List.length_nil, Int.natCast_zero] at key
 rw [key]
 rfl
def H6 (w : Nat) (left : Int) : Int := if left < w then -1 else left - w
def Mm {α : Type} (wt : α → Nat) : List α → Nat
 | [] => 0
 | x :: l => 1 + wt x + Mm wt l
def Xl {α : Type} (wt : α → Nat) : List α → Nat
 | [] => 0
 | x :: l => wt x + Xl wt l
theorem Ge {α : Type} (wt : α → Nat) : ∀ l : List α, Mm wt l = l.length + Xl wt l
 | [] => rfl
 | x :: l => by rw [Mm, Xl, Ge wt l, List.length_cons]; omega
theorem Ig {α : Type} {wt : α → Nat} : ∀ {l : List α} {x : α}, x ∈ l → wt x ≤ Xl wt l
 | y :: l, x, h => by
  rw [Xl]
  rcases List.mem_cons.1 h with rfl | h
  ·omega
  ·have := Ig (wt := wt) h
   omega
theorem Abb {α : Type} {n ty g w : Nat} (enc : α → List AV) (wt : α → Nat) (k : KO β) (hw : ∀ x, (enc x).length = w) (h0 : 0 < w) (hfl : ∀ x, (enc x).all E6 = true) (hh : Cw g = false) (L : Nat → AV → AV → KO β)
  (hL : ∀ m a l i H, L (m + 1) a l i H = Gn a fun t14 => Bn .lss i t14 fun t15 => Cb t15 (Cg w a i fun t20 => Bh true w t20 H fun t21 => (PR n β).call ty (.fn g [] []) [t21, l] H fun t23 H => Bn .lss t23 (.sc (.int .i64 0)) fun t25 => Cb t25 (k (.sc (.int .i64 (-1))) H) (Bn .add i (.sc (.int .i64 1)) fun t17 => L m a t23 t17 H)) (k l H))
  (l : List α) (hsz : ∀ x ∈ l, ∀ left : Int, 0 ≤ left → left ≤ 1048576 → Bt E0 n ty g [.agg (enc x), .sc (.int .i64 left)] = some (.sc (.int .i64 (H6 (wt x) left)))) (hlen : l.length ≤ 1048576) (H : Ab) : ∀ (r pre : List α) (m : Nat) (left : Int), 0 ≤ left → left ≤ 1048576 → l = pre ++ r → r.length < m →
   L m (.ro l.length (l.map enc).flatten) (.sc (.int .i64 left)) (.sc (.int .i64 pre.length)) H = k (.sc (.int .i64 (H6 (Xl wt r) left))) H
 | [], pre, m + 1, left, hl0, hl1, hl, hm => by
  rw [List.append_nil] at hl
  subst hl
  rw [hL, Dg, Ct, Bl]
  have : H6 (Xl wt []) left = left := by simp [H6, Xl]; omega
  rw [this]
  simp
 | x :: r, pre, m + 1, left, hl0, hl1, hl, hm => by
  have hlt : pre.length < l.length := by rw [hl]; simp
  rw [hL, Dg, Ct, Bl, if_pos (by simpa using hlt)]
  have hel := fun k => La (β := β) hw h0 pre x r k
  rw [← hl] at hel
  rw [hel, Mp w _ _ _ _ (hw x)]
  rw [Dd (vs := [.agg (enc x), .sc (.int .i64 left)]) hh (by simp only [List.mapM_cons, (E2 _ (hfl x)).now]; rfl) (hsz x (by rw [hl]; simp) left hl0 hl1)]
  rw [Dk]
  simp only [List.append_nil]
  rw [H5, Bl]
  by_cases hs : left < wt x
  ·have e1 : H6 (wt x) left = -1 := by simp [H6, hs]
   have e2 : H6 (Xl wt (x :: r)) left = -1 := by
    rw [Xl, H6, if_pos]; omega
   rw [e1, e2]
   simp
  ·have e1 : H6 (wt x) left = left - wt x := by simp [H6, hs]
   have e2 : H6 (Xl wt (x :: r)) left = H6 (Xl wt r) (left - wt x) := by
    unfold H6
    rw [Xl]
    by_cases h : left < ((wt x + Xl wt r : Nat) : Int)
    ·rw [if_pos h, if_pos (by omega)]
    ·rw [if_neg h, if_neg (by omega)]; omega
   rw [e1, e2, if_neg (by simp; omega), Dt _ _ (by omega)]
   have ih := Abb enc wt k hw h0 hfl hh L hL l hsz hlen H r (pre ++ [x]) m (left - wt x) (by omega) (by omega) (by rw [hl]; simp) (by simpa using hm)
   rw [List.length_append, List.length_singleton] at ih
   exact ih
theorem W7 {α : Type} {n ty f g w : Nat} (enc : α → List AV) (wt : α → Nat) (hw : ∀ x, (enc x).length = w) (h0 : 0 < w) (hfl : ∀ x, (enc x).all E6 = true) (hh : Cw g = false) (L : (AV → Ab → Option AV) → Nat → AV → AV → AV → Ab → Option AV)
  (hL : ∀ k m a l i H, L k (m + 1) a l i H = Gn a fun t14 => Bn .lss i t14 fun t15 => Cb t15 (Cg w a i fun t20 => Bh true w t20 H fun t21 => (PR n AV).call ty (.fn g [] []) [t21, l] H fun t23 H => Bn .lss t23 (.sc (.int .i64 0)) fun t25 => Cb t25 (k (.sc (.int .i64 (-1))) H) (Bn .add i (.sc (.int .i64 1)) fun t17 => L k m a t23 t17 H)) (k l H))
  (hF : ∀ a b H k, Cz E0 (n + 1) AV f [a, b] H k = Gn a fun t8 => Bn .sub b t8 fun t9 => Bn .lss t9 (.sc (.int .i64 0)) fun t11 => Cb t11 (k (.sc (.int .i64 (-1))) H) (L k n a t9 (.sc (.int .i64 0)) H))
  (l : List α) (hsz : ∀ x ∈ l, ∀ left : Int, 0 ≤ left → left ≤ 1048576 → Bt E0 n ty g [.agg (enc x), .sc (.int .i64 left)] = some (.sc (.int .i64 (H6 (wt x) left)))) (hmax : l.length ≤ 9223372036854775807) (hn : 1048576 < n) (left : Int) (hl0 : 0 ≤ left) (hl1 : left ≤ 1048576) (ty' : Nat) :
  Bt E0 (n + 1) ty' f [.ro l.length (l.map enc).flatten, .sc (.int .i64 left)] = some (.sc (.int .i64 (H6 (Mm wt l) left))) := by
 rw [Ax, hF, Dg, Ms _ _ _ (by omega) (by omega), H5, Bl]
 by_cases h : left - (l.length : Int) < 0
 ·have e : H6 (Mm wt l) left = -1 := by rw [Ge, H6, if_pos]; omega
  rw [if_pos (by simpa using h), e]
  rfl
 ·have e : H6 (Mm wt l) left = H6 (Xl wt l) (left - l.length) := by
   rw [Ge]
   unfold H6
   by_cases h : left < ((l.length + Xl wt l : Nat) : Int)
   ·rw [if_pos h, if_pos (by omega)]
   ·rw [if_neg h, if_neg (by omega)]; omega
  rw [if_neg (by simpa using h), e]
  have key := Abb (n := n) (ty := ty) (g := g) enc wt (fun x H => Aw Ag E0.tp ty' H x) hw h0 hfl hh (L fun x H => Aw Ag E0.tp ty' H x) (hL fun x H => Aw Ag E0.tp ty' H x) l hsz (by omega) [] l [] n (left - l.length) (by omega) (by omega) (by simp) (by omega)
  simp only [List.length_nil, Int.natCast_zero] at key
  rw [key]
  rfl
theorem AjP {n f : Nat} (hF : ∀ a b H k, Cz E0 (n + 1) AV f [a, b] H k = Gn a fun t8 => Bn .sub b t8 fun t9 => Bn .lss t9 (.sc (.int .i64 0)) fun t11 => Cb t11 (k (.sc (.int .i64 (-1))) H) (k t9 H))
  (len : Nat) (cells : List AV) (hmax : len ≤ 9223372036854775807) (left : Int) (hl0 : 0 ≤ left) (hl1 : left ≤ 1048576) (ty' : Nat) :
  Bt E0 (n + 1) ty' f [.ro len cells, .sc (.int .i64 left)] = some (.sc (.int .i64 (H6 len left))) := by
 rw [Ax, hF, Dg, Ms _ _ _ (by omega) (by omega), H5, Bl]
 by_cases h : left - (len : Int) < 0
 ·have e : H6 len left = -1 := by rw [H6, if_pos]; omega
  rw [if_pos (by simpa using h), e]
  rfl
 ·have e : H6 len left = left - len := by rw [H6, if_neg]; omega
  rw [if_neg (by simpa using h), e]
  rfl
end ops
end
section
open Go
variable {β : Type} {n : Nat}
theorem E3 (cs : List AV) (H : Ab) (k : KO β) (h : cs.all E6 = true) : Sf (.agg cs) H k = k (.ptr H.length 0) (H ++ [⟨cs, true, true⟩]) := by
 rw [Sf, V9 h]
 rfl
theorem ldT {m id off : Nat} {H : Ab} {cs : List AV} (h : An H id off m = some cs) (k : AV → Option β) : Bh true m (.ptr id off) H k = k (.agg cs) := by
 simp only [Bh, h, Option.bind_some, if_true]
theorem Zc {id off : Nat} {H : Ab} {c : AV} (h : An H id off 1 = some [c]) (k : AV → Option β) : Bh false 1 (.ptr id off) H k = k c := by
 simp only [Bh, h, Option.bind_some, Bool.false_eq_true, if_false, one]
noncomputable def O3 (b0 b1 : Fz) (ts : List Nat) (cs z : List AV) : Ab := b0 :: b1 :: ⟨(Aj Ag E0.tp 3 ts cs).1 ++ z, true, true⟩ :: (Aj Ag E0.tp 3 ts cs).2
theorem Y4 {b0 b1 : Fz} {ts : List Nat} {cs z0 z : List AV} {w o : Nat} {y : AV} {ys : List AV} {B : List Fz} {ts' : List Nat} {cs' : List AV} (hl : ts.length = cs.length) (ho : o = cs.length) (hw : z0.length = w) (hc : Bz y = some ys) (hy : ys.length = w)
  (hB : Aj Ag E0.tp (3 + (Aj Ag E0.tp 3 ts cs).2.length) ts' cs' = (ys, B)) (K : Ab → Option β) :
  C2 w (.ptr 2 o) y (O3 b0 b1 ts cs (z0 ++ z) ++ B) K = K (O3 b0 b1 (ts ++ ts') (cs ++ cs') z) := by
 have hP : (Aj Ag E0.tp 3 ts cs).1.length = cs.length := D8 _ _ _
 rw [He w 2 o y ⟨(Aj Ag E0.tp 3 ts cs).1 ++ (z0 ++ z), true, true⟩ ys _ _ rfl hc hy (by simp [hP, ho, hw]) rfl]
 congr 1
 have hs : Ch ((Aj Ag E0.tp 3 ts cs).1 ++ (z0 ++ z)) o ys = (Aj Ag E0.tp 3 ts cs).1 ++ (ys ++ z) := by
  rw [ho, ← hP]
  exact Kt _ _ _ _ (by rw [hw, hy])
 simp only [O3, List.cons_append, List.set_cons_succ, List.set_cons_zero, hs, Fm ts cs ts' cs' 3 hl, hB, List.append_assoc]
theorem AkM {b0 b1 : Fz} {ts : List Nat} {cs z z' : List AV} {o : Nat} {t : Nat} {v : Value} {c : AV} {K : Ab → Option β} {r : Option β} (hr : An (O3 b0 b1 ts cs z) 0 o 1 = some [.sc v]) (hv : Jf v = true) (hl : ts.length = cs.length) (ho : o = cs.length) (hz : z = c :: z')
  (h : K (O3 b0 b1 (ts ++ [t]) (cs ++ [.sc v]) z') = r) :
  (Di o (.ptr 0 0) fun t4 => Bh false 1 t4 (O3 b0 b1 ts cs z) fun t5 => Di o (.ptr 2 0) fun t6 => C2 1 t6 t5 (O3 b0 b1 ts cs z) fun H => K H) = r := by
 subst hz
 simp only [Di, Nat.zero_add]
 rw [Zc hr]
 have := Y4 (β := β) (b0 := b0) (b1 := b1) (ts := ts) (cs := cs) (z0 := [c]) (z := z') (w := 1) (o := o) (y := .sc v) (ys := [.sc v]) (B := []) (ts' := [t]) (cs' := [.sc v]) hl ho rfl (by simp only [Bz, A4, hv, if_true]) rfl (by simp [Aj, A2]) K
 rw [List.append_nil] at this
 exact this.trans h
theorem AkL {b0 b1 : Fz} {ts : List Nat} {cs z z' : List AV} {o t g len : Nat} {c : AV} {cells : List AV} {K : Ab → Option β} {r : Option β} (hr : An (O3 b0 b1 ts cs z) 0 o 1 = some [.ro len cells]) (hh : Cw g = false) (ht : Bt E0 n t g [.ro len cells] = some (.ro len cells)) (hl : ts.length = cs.length) (ho : o = cs.length) (hz : z = c :: z')
  (h : K (O3 b0 b1 (ts ++ [t]) (cs ++ [.ro len cells]) z') = r) :
  (Di o (.ptr 0 0) fun t4 => Bh false 1 t4 (O3 b0 b1 ts cs z) fun t5 => (PR n β).call t (.fn g [] []) [t5] (O3 b0 b1 ts cs z) fun t9 H => Di o (.ptr 2 0) fun t6 => C2 1 t6 t9 H fun H => K H) = r := by
 subst hz
 simp only [Di, Nat.zero_add]
 rw [Zc hr, Dd (vs := [.ro len cells]) hh (by simp only [List.mapM_cons, S0]; rfl) ht]
 have hH : (O3 b0 b1 ts cs (c :: z')).length = 3 + (Aj Ag E0.tp 3 ts cs).2.length := by simp [O3]; omega
 rw [hH]
 have hi : ∀ N, ∃ s : AV, A4 s = true ∧ (A2 Ag E0.tp N t (.ro len cells)).1 = s ∧ Bz s = some [s] := fun N => by
  refine ⟨_, ?_, rfl, ?_⟩ <;> simp [A2, A4, Bz]
 obtain ⟨s, _, hs, hc⟩ := hi (3 + (Aj Ag E0.tp 3 ts cs).2.length)
 have := Y4 (β := β) (b0 := b0) (b1 := b1) (ts := ts) (cs := cs) (z0 := [c]) (z := z') (w := 1) (o := o) (y := s) (ys := [s]) (ts' := [t]) (cs' := [.ro len cells]) (B := (A2 Ag E0.tp (3 + (Aj Ag E0.tp 3 ts cs).2.length) t (.ro len cells)).2) hl ho rfl hc rfl (by simp only [Aj, List.headD_cons, List.append_nil, hs]) K
 rw [hs]
 exact this.trans h
theorem AjR {b0 b1 : Fz} {ts cty : List Nat} {cs z z0 z' : List AV} {o t g w : Nat} {cells : List AV} {K : Ab → Option β} {r : Option β} (hr : An (O3 b0 b1 ts cs z) 0 o w = some cells) (hh : Cw g = false) (hfl : cells.all E6 = true) (ht : Bt E0 n t g [.agg cells] = some (.agg cells)) (hty : ∃ i, Ag t = some i ∧ i.cty = cty) (hw : cells.length = w) (hl : ts.length = cs.length) (ho : o = cs.length) (hz : z = z0 ++ z') (hz0 : z0.length = w)
  (h : K (O3 b0 b1 (ts ++ cty) (cs ++ cells) z') = r) :
  (Di o (.ptr 0 0) fun t4 => Bh true w t4 (O3 b0 b1 ts cs z) fun t5 => (PR n β).call t (.fn g [] []) [t5] (O3 b0 b1 ts cs z) fun t9 H => Di o (.ptr 2 0) fun t6 => C2 w t6 t9 H fun H => K H) = r := by
 subst hz
 obtain ⟨i, hi, rfl⟩ := hty
 simp only [Di, Nat.zero_add]
 rw [ldT hr, Dd (vs := [.agg cells]) hh (by rw [List.mapM_cons, (E2 _ hfl).now]; rfl) ht]
 have hH : (O3 b0 b1 ts cs (z0 ++ z')).length = 3 + (Aj Ag E0.tp 3 ts cs).2.length := by simp [O3]; omega
 rw [hH, Gg, hi, Option.getD_some]
 have hleaf := F8 (ti := Ag) (tp := E0.tp) cells (3 + (Aj Ag E0.tp 3 ts cs).2.length) i.cty hfl
 have hlen := D8 (ti := Ag) (tp := E0.tp) (3 + (Aj Ag E0.tp 3 ts cs).2.length) i.cty cells
 have := Y4 (β := β) (b0 := b0) (b1 := b1) (ts := ts) (cs := cs) (z0 := z0) (z := z') (w := w) (o := o) (y := .agg (Aj Ag E0.tp (3 + (Aj Ag E0.tp 3 ts cs).2.length) i.cty cells).1) (ys := (Aj Ag E0.tp (3 + (Aj Ag E0.tp 3 ts cs).2.length) i.cty cells).1) (ts' := i.cty) (cs' := cells) (B := (Aj Ag E0.tp (3 + (Aj Ag E0.tp 3 ts cs).2.length) i.cty cells).2) hl ho hz0 (by
  show (if _ then _ else none) = _
  rw [if_pos hleaf]) (by rw [hlen, hw]) rfl K
 exact this.trans h
theorem AjS {b0 : Fz} {z1 cells : List AV} {cty : List Nat} {w ty : Nat} (hw : cells.length = w) (hz : z1.length = w) (hfl : cells.all E6 = true) (hty : ∃ i, Ag ty = some i ∧ i.cty = cty) (hok : Ed (F7 Ag E0.tp 7) cty cells) :
  (Bh true w (.ptr 2 0) (O3 b0 ⟨z1, true, true⟩ cty cells []) fun t14 => C2 w (.ptr 1 0) t14 (O3 b0 ⟨z1, true, true⟩ cty cells []) fun H => Bh true w (.ptr 1 0) H fun r0 => Aw Ag E0.tp ty H r0) = some (.agg cells) := by
 obtain ⟨i, hi, rfl⟩ := hty
 have hlen := D8 (ti := Ag) (tp := E0.tp) 3 i.cty cells
 have hleaf := F8 (ti := Ag) (tp := E0.tp) cells 3 i.cty hfl
 have h1 : An (O3 b0 ⟨z1, true, true⟩ i.cty cells []) 2 0 w = some (Aj Ag E0.tp 3 i.cty cells).1 := by
  simp [An, O3, hlen, hw, List.take_of_length_le]
 rw [ldT h1]
 have hc : Bz (.agg (Aj Ag E0.tp 3 i.cty cells).1) = some (Aj Ag E0.tp 3 i.cty cells).1 := by
  show (if _ then _ else none) = _
  rw [if_pos hleaf]
 rw [He w 1 0 _ ⟨z1, true, true⟩ _ _ _ rfl hc (by rw [hlen, hw]) (by simp [hz]) rfl]
 have hs : Ch z1 0 (Aj Ag E0.tp 3 i.cty cells).1 = (Aj Ag E0.tp 3 i.cty cells).1 := by
  unfold Ch
  rw [List.take_zero, List.nil_append, List.drop_of_length_le (by rw [hlen, hw, hz]; omega), List.append_nil]
 simp only [hs]
 have h2 : An ((O3 b0 ⟨z1, true, true⟩ i.cty cells []).set 1 ⟨(Aj Ag E0.tp 3 i.cty cells).1, true, true⟩) 1 0 w = some (Aj Ag E0.tp 3 i.cty cells).1 := by
  simp [An, O3, hlen, hw, List.take_of_length_le]
 rw [ldT h2]
 have hok' : F7 Ag E0.tp 8 ty (.agg cells) := ⟨i, hi, hok⟩
 have := U5 [b0, ⟨(Aj Ag E0.tp 3 i.cty cells).1, true, true⟩, ⟨(Aj Ag E0.tp 3 i.cty cells).1 ++ [], true, true⟩] ty _ hok'
 rw [Gg, hi] at this
 exact this
noncomputable def StB (T : List Nat) (C Z : List AV) (o : Nat) : Ab := O3 ⟨C, true, true⟩ ⟨Z, true, true⟩ (T.take o) (C.take o) (Z.drop o)
theorem Xo {T : List Nat} {C Z : List AV} {o p w : Nat} {cs : List AV} (h : (C.drop p).take w = cs) (hl : cs.length = w) (hw : 0 < w) : An (StB T C Z o) 0 p w = some cs := by
 have hle : p + w ≤ C.length := by
  have := congrArg List.length h
  rw [hl, List.length_take, List.length_drop] at this
  omega
 show (match (some ⟨C, true, true⟩ : Option Fz) with | some b => if b.live then (if p + w ≤ b.cells.length then some ((b.cells.drop p).take w) else none) else none | none => none) = _
 simp only [if_true, hle, h]
theorem U2 {C : List AV} {o : Nat} {c : AV} (h : C[o]? = some c) : (C.drop o).take 1 = [c] := by
 obtain ⟨hlt, e⟩ := List.getElem?_eq_some_iff.1 h
 rw [List.drop_eq_getElem_cons hlt, e]
 rfl
theorem Pn {α : Type} {T : List α} {o w o' : Nat} {c : List α} (h : (T.drop o).take w = c) (ho : o' = o + w) : T.take o' = T.take o ++ c := by
 rw [ho, List.take_add, h]
theorem T3 {T : List Nat} {C Z : List AV} {o o' : Nat} {v : Value} {K : Ab → Option β} {r : Option β} (hT : T.length = C.length) (hZ : Z.length = C.length) (hC : C[o]? = some (.sc v)) (hv : Jf v = true) (ho : o' = o + 1) (h : K (StB T C Z o') = r) :
  (Di o (.ptr 0 0) fun t4 => Bh false 1 t4 (StB T C Z o) fun t5 => Di o (.ptr 2 0) fun t6 => C2 1 t6 t5 (StB T C Z o) fun H => K H) = r := by
 obtain ⟨hlt, _⟩ := List.getElem?_eq_some_iff.1 hC
 have hz : Z.drop o = Z[o]'(by omega) :: Z.drop o' := by rw [ho]; exact List.drop_eq_getElem_cons _
 refine AkM (t := T[o]'(by omega)) (z' := Z.drop o') (Xo (U2 hC) rfl (by decide)) hv (by simp [hT]) (by simp; omega) hz ?_
 have e1 : T.take o' = T.take o ++ [T[o]'(by omega)] := Pn (w := 1) (by rw [List.drop_eq_getElem_cons (by omega)]; rfl) ho
 have e2 : C.take o' = C.take o ++ [.sc v] := Pn (U2 hC) ho
 rw [← e1, ← e2]
 exact h
theorem Af1 {T : List Nat} {C Z : List AV} {o o' t g len : Nat} {cells : List AV} {K : Ab → Option β} {r : Option β} (hT : T.length = C.length) (hZ : Z.length = C.length) (hC : C[o]? = some (.ro len cells)) (hTt : T[o]? = some t) (hh : Cw g = false) (ht : Bt E0 n t g [.ro len cells] = some (.ro len cells)) (ho : o' = o + 1) (h : K (StB T C Z o') = r) :
  (Di o (.ptr 0 0) fun t4 => Bh false 1 t4 (StB T C Z o) fun t5 => (PR n β).call t (.fn g [] []) [t5] (StB T C Z o) fun t9 H => Di o (.ptr 2 0) fun t6 => C2 1 t6 t9 H fun H => K H) = r := by
 obtain ⟨hlt, _⟩ := List.getElem?_eq_some_iff.1 hC
 obtain ⟨hlt2, hTe⟩ := List.getElem?_eq_some_iff.1 hTt
 have hz : Z.drop o = Z[o]'(by omega) :: Z.drop o' := by rw [ho]; exact List.drop_eq_getElem_cons _
 refine AkL (z' := Z.drop o') (Xo (U2 hC) rfl (by decide)) hh ht (by simp [hT]) (by simp; omega) hz ?_
 have e1 : T.take o' = T.take o ++ [t] := Pn (w := 1) (by rw [List.drop_eq_getElem_cons hlt2, hTe]; rfl) ho
 have e2 : C.take o' = C.take o ++ [.ro len cells] := Pn (U2 hC) ho
 rw [← e1, ← e2]
 exact h
theorem AjN {T cty : List Nat} {C Z : List AV} {o o' t g w : Nat} {cells : List AV} {K : Ab → Option β} {r : Option β} (hT : T.length = C.length) (hZ : Z.length = C.length) (hC : (C.drop o).take w = cells) (hTt : (T.drop o).take w = cty) (hh : Cw g = false) (hfl : cells.all E6 = true) (ht : Bt E0 n t g [.agg cells] = some (.agg cells)) (hty : ∃ i, Ag t = some i ∧ i.cty = cty) (hw : cells.length = w) (hw0 : 0 < w) (ho : o' = o + w) (h : K (StB T C Z o') = r) :
  (Di o (.ptr 0 0) fun t4 => Bh true w t4 (StB T C Z o) fun t5 => (PR n β).call t (.fn g [] []) [t5] (StB T C Z o) fun t9 H => Di o (.ptr 2 0) fun t6 => C2 w t6 t9 H fun H => K H) = r := by
 have hle : o + w ≤ C.length := by
  have := congrArg List.length hC
  rw [hw, List.length_take, List.length_drop] at this
  omega
 have hz : Z.drop o = (Z.drop o).take w ++ Z.drop o' := by
  rw [ho]
  conv => lhs; rw [← List.take_append_drop w (Z.drop o)]
  rw [List.drop_drop]
 refine AjR (z0 := (Z.drop o).take w) (z' := Z.drop o') (Xo hC hw hw0) hh hfl ht hty hw (by simp [hT]) (by simp; omega) hz (by simp; omega) ?_
 have e1 : T.take o' = T.take o ++ cty := Pn hTt ho
 have e2 : C.take o' = C.take o ++ cells := Pn hC ho
 rw [← e1, ← e2]
 exact h
theorem Zx {T : List Nat} {C Z : List AV} {w ty : Nat} (hT : T.length = C.length) (hZ : Z.length = C.length) (hw : C.length = w) (hfl : C.all E6 = true) (hty : ∃ i, Ag ty = some i ∧ i.cty = T) (hok : Ed (F7 Ag E0.tp 7) T C) :
  (Bh true w (.ptr 2 0) (StB T C Z w) fun t14 => C2 w (.ptr 1 0) t14 (StB T C Z w) fun H => Bh true w (.ptr 1 0) H fun r0 => Aw Ag E0.tp ty H r0) = some (.agg C) := by
 have e : StB T C Z w = O3 ⟨C, true, true⟩ ⟨Z, true, true⟩ T C [] := by
  unfold StB
  rw [List.take_of_length_le (by omega), List.take_of_length_le (by omega), List.drop_of_length_le (by omega)]
 rw [e]
 exact AjS hw (by omega) hfl hty hok
theorem Hi {o : Nat} {H : Ab} {v : Value} {A K r : Option β} (h0 : An H 0 o 1 = some [.sc v]) (h1 : An H 1 o 1 = some [.sc v]) (hv : ∀ k : AV → Option β, Bn .neq (.sc v) (.sc v) k = k (.sc (.bool false))) (h : K = r) :
  (Di o (.ptr 0 0) fun t5 => Bh false 1 t5 H fun t6 => Di o (.ptr 1 0) fun t7 => Bh false 1 t7 H fun t8 => Bn .neq t6 t8 fun t9 => Cb t9 A K) = r := by
 simp only [Di, Nat.zero_add]
 rw [Zc h0, Zc h1, hv, Bl]
 exact h
theorem Uh {o : Nat} {H : Ab} {b : Bool} {A K r : Option β} (h0 : An H 0 o 1 = some [.sc (.bool b)]) (h1 : An H 1 o 1 = some [.sc (.bool b)]) (h : K = r) :
  (Di o (.ptr 0 0) fun t5 => Bh false 1 t5 H fun t6 => Di o (.ptr 1 0) fun t7 => Bh false 1 t7 H fun t8 => Lt .neq t6 t8 fun t9 => Cb t9 A K) = r := by
 simp only [Di, Nat.zero_add]
 rw [Zc h0, Zc h1]
 simp only [Lt, asB, Option.bind_some, binB, beq_self_eq_true, Bool.not_true]
 exact h
theorem Nf {o tb g : Nat} {H : Ab} {len : Nat} {cells : List AV} {A : Ab → Option β} {K : Ab → Option β} {r : Option β} (h0 : An H 0 o 1 = some [.ro len cells]) (h1 : An H 1 o 1 = some [.ro len cells]) (hh : Cw g = false) (ht : Bt E0 n tb g [.ro len cells, .ro len cells] = some (.sc (.bool true))) (h : K H = r) :
  (Di o (.ptr 0 0) fun t5 => Bh false 1 t5 H fun t6 => Di o (.ptr 1 0) fun t7 => Bh false 1 t7 H fun t8 => (PR n β).call tb (.fn g [] []) [t6, t8] H fun t H => pUn .not t fun t9 => Cb t9 (A H) (K H)) = r := by
 simp only [Di, Nat.zero_add]
 rw [Zc h0, Zc h1, Dd (vs := [.ro len cells, .ro len cells]) hh (by simp only [List.mapM_cons, S0]; rfl) ht, Dk, List.append_nil]
 exact h
theorem AiU {o tb g w : Nat} {H : Ab} {cells : List AV} {A : Ab → Option β} {K : Ab → Option β} {r : Option β} (h0 : An H 0 o w = some cells) (h1 : An H 1 o w = some cells) (hh : Cw g = false) (hfl : cells.all E6 = true) (ht : Bt E0 n tb g [.agg cells, .agg cells] = some (.sc (.bool true))) (h : K H = r) :
  (Di o (.ptr 0 0) fun t5 => Bh true w t5 H fun t6 => Di o (.ptr 1 0) fun t7 => Bh true w t7 H fun t8 => (PR n β).call tb (.fn g [] []) [t6, t8] H fun t H => pUn .not t fun t9 => Cb t9 (A H) (K H)) = r := by
 simp only [Di, Nat.zero_add]
 rw [ldT h0, ldT h1, Dd (vs := [.agg cells, .agg cells]) hh (by simp only [List.mapM_cons, (E2 _ hfl).now]; rfl) ht, Dk, List.append_nil]
 exact h
theorem Hl (z : Int) (k : AV → Option β) : Bn .neq (.sc (.int .i64 z)) (.sc (.int .i64 z)) k = k (.sc (.bool false)) := by
 show k (.sc (.bool (z != z))) = _
 rw [bne_self_eq_false]
theorem M3 (s : ByteArray) (k : AV → Option β) : Bn .neq (.sc (.string s)) (.sc (.string s)) k = k (.sc (.bool false)) := by
 show k (.sc (.bool (!(s.toList == s.toList)))) = _
 rw [beq_self_eq_true, Bool.not_true]
theorem AkD (z : Int) (k : AV → Option β) : Bn .neq (.sc (.int .u8 z)) (.sc (.int .u8 z)) k = k (.sc (.bool false)) := by
 show k (.sc (.bool (z != z))) = _
 rw [bne_self_eq_false]
def T4 (W : Nat) (left : Int) : Option AV := some (.sc (.int .i64 (H6 W left)))
theorem Vb {s W : Nat} {left : Int} (h : left < s) : H6 (s + W) left = -1 := by rw [H6, if_pos]; omega
theorem Z0 {s W : Nat} {left : Int} (h : ¬ left < s) : H6 (s + W) left = H6 W (left - s) := by
 unfold H6
 by_cases h2 : left < ((s + W : Nat) : Int)
 ·rw [if_pos h2, if_pos (by omega)]
 ·rw [if_neg h2, if_neg (by omega)]; omega
theorem AjQ {o : Nat} {H : Ab} {s : ByteArray} {W : Nat} {left : Int} {A : Option AV} {K : AV → Option AV} (hr : An H 0 o 1 = some [.sc (.string s)]) (h0 : 0 ≤ left) (h1 : left ≤ 1048576) (hs : s.size ≤ 9223372036854775807) (hA : A = some (.sc (.int .i64 (-1)))) (hK : 0 ≤ left - s.size → left - s.size ≤ 1048576 → K (.sc (.int .i64 (left - s.size))) = T4 W (left - s.size)) :
  (Di o (.ptr 0 0) fun t6 => Bh false 1 t6 H fun t7 => Si t7 fun t8 => Bn .sub (.sc (.int .i64 left)) t8 fun t9 => Bn .lss t9 (.sc (.int .i64 0)) fun t11 => Cb t11 A (K t9)) = T4 (s.size + W) left := by
 simp only [Di, Nat.zero_add]
 rw [Zc hr]
 simp only [Si, asS, Option.bind_some]
 rw [Ms _ _ _ (by omega) (by omega), H5, Bl]
 by_cases h : left < s.size
 ·rw [if_pos (by simpa using (show left - (s.size : Int) < 0 by omega)), hA, T4, Vb h]
 ·rw [if_neg (by simpa using (show ¬ left - (s.size : Int) < 0 by omega)), hK (by omega) (by omega), T4, T4, Z0 h]
theorem Af3 {o ty g : Nat} {H : Ab} {len : Nat} {cells : List AV} {w W : Nat} {left : Int} {A : Ab → Option AV} {K : AV → Ab → Option AV} (hr : An H 0 o 1 = some [.ro len cells]) (h0 : 0 ≤ left) (h1 : left ≤ 1048576) (hh : Cw g = false) (ht : Bt E0 n ty g [.ro len cells, .sc (.int .i64 left)] = some (.sc (.int .i64 (H6 w left)))) (hA : A H = some (.sc (.int .i64 (-1)))) (hK : 0 ≤ left - w → left - w ≤ 1048576 → K (.sc (.int .i64 (left - w))) H = T4 W (left - w)) :
  (Di o (.ptr 0 0) fun t6 => Bh false 1 t6 H fun t7 => (PR n AV).call ty (.fn g [] []) [t7, .sc (.int .i64 left)] H fun t15 H => Bn .lss t15 (.sc (.int .i64 0)) fun t11 => Cb t11 (A H) (K t15 H)) = T4 (w + W) left := by
 simp only [Di, Nat.zero_add]
 rw [Zc hr, Dd (vs := [.ro len cells, .sc (.int .i64 left)]) hh (by simp only [List.mapM_cons, S0, Xf]; rfl) ht, Dk, List.append_nil]
 simp only
 rw [H5, Bl]
 by_cases h : left < w
 ·have e : H6 w left = -1 := by rw [H6, if_pos h]
  rw [e, if_pos (by decide), hA, T4, Vb h]
 ·have e : H6 w left = left - w := by rw [H6, if_neg h]
  rw [e, if_neg (by simpa using (show ¬ left - (w : Int) < 0 by omega)), hK (by omega) (by omega), T4, T4, Z0 h]
theorem AjO {o ty g wd : Nat} {H : Ab} {cells : List AV} {w W : Nat} {left : Int} {A : Ab → Option AV} {K : AV → Ab → Option AV} (hr : An H 0 o wd = some cells) (h0 : 0 ≤ left) (h1 : left ≤ 1048576) (hh : Cw g = false) (hfl : cells.all E6 = true) (ht : Bt E0 n ty g [.agg cells, .sc (.int .i64 left)] = some (.sc (.int .i64 (H6 w left)))) (hA : A H = some (.sc (.int .i64 (-1)))) (hK : 0 ≤ left - w → left - w ≤ 1048576 → K (.sc (.int .i64 (left - w))) H = T4 W (left - w)) :
  (Di o (.ptr 0 0) fun t6 => Bh true wd t6 H fun t7 => (PR n AV).call ty (.fn g [] []) [t7, .sc (.int .i64 left)] H fun t15 H => Bn .lss t15 (.sc (.int .i64 0)) fun t11 => Cb t11 (A H) (K t15 H)) = T4 (w + W) left := by
 simp only [Di, Nat.zero_add]
 rw [ldT hr, Dd (vs := [.agg cells, .sc (.int .i64 left)]) hh (by simp only [List.mapM_cons, (E2 _ hfl).now, Xf]; rfl) ht, Dk, List.append_nil]
 simp only
 rw [H5, Bl]
 by_cases h : left < w
 ·have e : H6 w left = -1 := by rw [H6, if_pos h]
  rw [e, if_pos (by decide), hA, T4, Vb h]
 ·have e : H6 w left = left - w := by rw [H6, if_neg h]
  rw [e, if_neg (by simpa using (show ¬ left - (w : Int) < 0 by omega)), hK (by omega) (by omega), T4, T4, Z0 h]
theorem Z1 {left : Int} (h0 : 0 ≤ left) : some (AV.sc (.int .i64 left)) = T4 0 left := by
 rw [T4, H6, if_neg (by omega)]
 simp
abbrev As (s : ByteArray) : AV := .ro s.size (Bm s)
abbrev Fs (l : List Int) : AV := .ro l.length (l.map fun z => .sc (.int .i64 z))
abbrev Fv (l : List ByteArray) : AV := .ro l.length (l.map fun s => .sc (.string s))
abbrev At {α : Type} (enc : α → List AV) (l : List α) : AV := .ro l.length (l.map enc).flatten
def okI (z : Int) : Prop := -9223372036854775808 ≤ z ∧ z ≤ 9223372036854775807
def okS (s : ByteArray) : Prop := s.size ≤ 9223372036854775807
theorem Tw {f : Nat → AV → Prop} {α : Type} (e : α → Value) (hf : ∀ t v, f t (.sc v)) : ∀ (ts : List Nat) (l : List α), ts.length = l.length → Ed f ts (l.map fun x => .sc (e x))
 | [], [], _ => trivial
 | t :: ts, x :: l, h => ⟨hf _ _, Tw e hf ts l (by simpa using h)⟩
 | [], _ :: _, h => by simp at h
 | _ :: _, [], h => by simp at h
theorem Ln {α : Type} {ty d : Nat} (e : α → Value) (hty : ∃ i j, Ag ty = some i ∧ Ag i.elem = some j ∧ j.size = 1 ∧ j.cty.length = 1) (l : List α) : F7 Ag E0.tp (d + 2) ty (.ro l.length (l.map fun x => .sc (e x))) := by
 obtain ⟨i, j, h1, h2, h3, h4⟩ := hty
 exact ⟨i, j, h1, h2, by simp [h3], Tw e (fun _ _ => trivial) _ l (by simp [h4])⟩
theorem J7 {d ty : Nat} (hty : ∃ i j, Ag ty = some i ∧ Ag i.elem = some j ∧ j.size = 1 ∧ j.cty.length = 1) (s : ByteArray) : F7 Ag E0.tp (d + 2) ty (As s) := by
 have := Ln (d := d) (fun b : UInt8 => .int .u8 b.toNat) hty s.data.toList
 have e : s.data.toList.length = s.size := by simp
 rw [e] at this
 exact this
theorem Ht {α : Type} {ty d w : Nat} {cty : List Nat} {enc : α → List AV} (hw : ∀ x, (enc x).length = w) (hty : ∃ i j, Ag ty = some i ∧ Ag i.elem = some j ∧ j.size = w ∧ j.cty = cty) (he : ∀ x, Ed (F7 Ag E0.tp d) cty (enc x)) (l : List α) : F7 Ag E0.tp (d + 1) ty (At enc l) := by
 obtain ⟨i, j, h1, h2, h3, rfl⟩ := hty
 exact ⟨i, j, h1, h2, by rw [Gb hw, h3], Mg l fun x _ => he x⟩
theorem Sb {α : Type} {enc : α → List AV} {ok : α → Prop} {n t e : Nat} {cs : List AV} (hi : ∃ i, Ag t = some i ∧ i.isB = false ∧ i.ik = none ∧ i.isStr = false ∧ i.sl = true ∧ i.elem = e) (hel : ∀ n cs, Ty Ag n e cs → ∃ x, cs = enc x ∧ ok x) (h : Ty Ag n t cs) :
  ∃ l : List α, cs = [At enc l] ∧ l.length ≤ 9223372036854775807 ∧ ∀ x ∈ l, ok x := by
 cases n with
 | zero => cases h
 | succ n =>
  obtain ⟨i, h1, h2, h3, h4, h5, rfl⟩ := hi
  obtain ⟨i', hi', h⟩ := h
  rw [h1] at hi'
  obtain rfl := Option.some.inj hi'
  simp only [h2, h3, h4, h5] at h
  obtain ⟨rows, rfl, hl, hr⟩ := h
  have hm : maxLen = 9223372036854775807 := by decide
  rw [hm] at hl
  have key : ∀ rows : List (List AV), (∀ r ∈ rows, Ty Ag n i.elem r) → ∃ l : List α, rows = l.map enc ∧ ∀ x ∈ l, ok x := by
   intro rows
   induction rows with
   | nil => intro _; exact ⟨[], rfl, fun x h => by cases h⟩
   | cons r rows ih =>
    intro h
    obtain ⟨l, h1, h2⟩ := ih fun r hr => h r (List.mem_cons_of_mem _ hr)
    obtain ⟨x, hx, hox⟩ := hel n r (h r List.mem_cons_self)
    exact ⟨x :: l, by rw [h1, hx]; rfl, fun y hy => by rcases List.mem_cons.1 hy with rfl | hy; exact hox; exact h2 y hy⟩
  obtain ⟨l, rfl, h2⟩ := key rows hr
  exact ⟨l, by simp, by simpa using hl, h2⟩
theorem Afj {n : Nat} {cs : List AV} (h : Ty Ag n 9 cs) : ∃ s : ByteArray, cs = [.sc (.string s)] ∧ okS s := by
 cases n with
 | zero => cases h
 | succ n =>
  obtain ⟨i, hi, h⟩ := h
  obtain rfl := Option.some.inj (show some _ = some i from hi)
  have hm : maxLen = 9223372036854775807 := by decide
  obtain ⟨s, h1, h2⟩ := (show ∃ s : ByteArray, cs = [.sc (.string s)] ∧ s.size ≤ maxLen from h)
  exact ⟨s, h1, by rw [hm] at h2; exact h2⟩
theorem J5 {n : Nat} {cs : List AV} (h : Ty Ag n 3 cs) : ∃ z : Int, cs = [.sc (.int .i64 z)] ∧ okI z := by
 cases n with
 | zero => cases h
 | succ n =>
  obtain ⟨i, hi, h⟩ := h
  obtain rfl := Option.some.inj (show some _ = some i from hi)
  obtain ⟨z, h1, h2⟩ := (show ∃ z, cs = [.sc (.int .i64 z)] ∧ (Lit.int .i64 z).wf = true from h)
  refine ⟨z, h1, ?_⟩
  have hw' : IntKind.i64.min ≤ z ∧ z ≤ IntKind.i64.max := by simpa [Lit.wf] using h2
  have e1 : IntKind.i64.min = -9223372036854775808 := by decide
  have e2 : IntKind.i64.max = 9223372036854775807 := by decide
  rw [e1, e2] at hw'
  exact hw'
theorem AcH {n : Nat} {cs : List AV} (h : Ty Ag n 4 cs) : ∃ b : Bool, cs = [.sc (.bool b)] := by
 cases n with
 | zero => cases h
 | succ n =>
  obtain ⟨i, hi, h⟩ := h
  obtain rfl := Option.some.inj (show some _ = some i from hi)
  exact h
theorem AcI {n : Nat} {cs : List AV} (h : Ty Ag n 5 cs) : ∃ b : UInt8, cs = [.sc (.int .u8 b.toNat)] := by
 cases n with
 | zero => cases h
 | succ n =>
  obtain ⟨i, hi, h⟩ := h
  obtain rfl := Option.some.inj (show some _ = some i from hi)
  obtain ⟨z, rfl, hw⟩ := (show ∃ z, cs = [.sc (.int .u8 z)] ∧ (Lit.int .u8 z).wf = true from h)
  have hz : 0 ≤ z ∧ z < 256 := by
   have hw' : IntKind.u8.min ≤ z ∧ z ≤ IntKind.u8.max := by simpa [Lit.wf] using hw
   have e1 : IntKind.u8.min = 0 := by decide
   have e2 : IntKind.u8.max = 255 := by decide
   rw [e1, e2] at hw'
   omega
  refine ⟨UInt8.ofNat z.toNat, ?_⟩
  have : (UInt8.ofNat z.toNat).toNat = z.toNat := by simp [UInt8.toNat_ofNat']; omega
  rw [this, Int.toNat_of_nonneg hz.1]
theorem N2 {α : Type} (e : α → AV) (l : List α) : (l.map fun x => [e x]).flatten = l.map e := by
 induction l with
 | nil => rfl
 | cons x l ih => rw [List.map_cons, List.flatten_cons, ih]; rfl
theorem Zp {n t : Nat} {cs : List AV} (hi : ∃ i, Ag t = some i ∧ i.isB = false ∧ i.ik = none ∧ i.isStr = false ∧ i.sl = true ∧ i.elem = 5) (h : Ty Ag n t cs) : ∃ s : ByteArray, cs = [As s] ∧ okS s := by
 obtain ⟨l, rfl, h1, _⟩ := Sb (α := UInt8) (enc := fun b => [.sc (.int .u8 b.toNat)]) (ok := fun _ => True) hi (fun n cs h => by obtain ⟨b, h⟩ := AcI h; exact ⟨b, h, trivial⟩) h
 refine ⟨⟨l.toArray⟩, ?_, ?_⟩
 ·rw [At, N2]
  simp [As, Bm]
  rfl
 ·exact h1
theorem M4 {n t : Nat} {cs : List AV} {fs : List (Nat × Nat)} (hi : ∃ i, Ag t = some i ∧ i.isB = false ∧ i.ik = none ∧ i.isStr = false ∧ i.sl = false ∧ i.isAgg = true ∧ i.fields = fs) (h : Ty Ag n t cs) : ∃ m, Afi (Ty Ag m) fs cs := by
 cases n with
 | zero => cases h
 | succ n =>
  obtain ⟨i, h1, h2, h3, h4, h5, h6, rfl⟩ := hi
  obtain ⟨i', hi', h⟩ := h
  rw [h1] at hi'
  obtain rfl := Option.some.inj hi'
  simp only [h2, h3, h4, h5, h6] at h
  exact ⟨n, h⟩
end
section
open Go
theorem Id : ∃ i j, Ag 31 = some i ∧ Ag i.elem = some j ∧ j.size = 1 ∧ j.cty.length = 1 := ⟨_, _, rfl, rfl, rfl, rfl⟩
theorem AcS (n : Nat) (hn : 1048576 < n) (s : ByteArray) (h : s.size ≤ 1048576) : Bt E0 (n + 1) 31 126 [As s] = some (As s) := by
 have e : s.data.toList.length = s.size := by simp
 have h0 := AhF (n := n) (bytes := 1) (fun b : UInt8 => .int .u8 b.toNat) (.sc (.int .u8 0)) (fun _ => rfl) Id (fun k => Ns (PR n AV) n k) (fun k m a o i H => rfl) (fun a H k => Aga n a H k) (by decide) s.data.toList (by rw [e]; exact h) hn
 rw [e] at h0
 exact h0
theorem L5 (n : Nat) (hn : 1048576 < n) (tb : Nat) (s : ByteArray) (h : s.size ≤ 1048576) : Bt E0 (n + 1) tb 95 [As s, As s] = some (.sc (.bool true)) := by
 have e : s.data.toList.length = s.size := by simp
 have h0 := Ui (n := n) (fun b : UInt8 => .int .u8 b.toNat) (fun x γ k => AkD _ k) (fun k => Rl (PR n AV) n k) (fun k m a b i H => rfl) (fun a b H k => Ajx n a b H k) s.data.toList (by rw [e]; exact h) hn tb
 rw [e] at h0
 exact h0
theorem AcQ (n : Nat) (ty : Nat) (s : ByteArray) (hmax : s.size ≤ 9223372036854775807) (left : Int) (h0 : 0 ≤ left) (h1 : left ≤ 1048576) : Bt E0 (n + 1) ty 120 [As s, .sc (.int .i64 left)] = some (.sc (.int .i64 (H6 s.size left))) :=
 AjP (n := n) (fun a b H k => AfY n a b H k) s.size _ hmax left h0 h1 ty
theorem Af7 : ∃ i j, Ag 34 = some i ∧ Ag i.elem = some j ∧ j.size = 1 ∧ j.cty.length = 1 := ⟨_, _, rfl, rfl, rfl, rfl⟩
theorem Ado (n : Nat) (hn : 1048576 < n) (tb : Nat) (s : List Int) (h : s.length ≤ 1048576) : Bt E0 (n + 1) tb 38 [Fs s, Fs s] = some (.sc (.bool true)) :=
 Ui (n := n) (fun z : Int => .int .i64 z) (fun x γ k => Hl _ k) (fun k => Ra (PR n AV) n k) (fun k m a b i H => rfl) (fun a b H k => Ajf n a b H k) s h hn tb
theorem T6 : ∃ i j, Ag 33 = some i ∧ Ag i.elem = some j ∧ j.size = 1 ∧ j.cty.length = 1 := ⟨_, _, rfl, rfl, rfl, rfl⟩
theorem V5 (n : Nat) (hn : 1048576 < n) (tb : Nat) (s : List ByteArray) (h : s.length ≤ 1048576) : Bt E0 (n + 1) tb 97 [Fv s, Fv s] = some (.sc (.bool true)) :=
 Ui (n := n) (fun s : ByteArray => .string s) (fun x γ k => M3 _ k) (fun k => Rn (PR n AV) n k) (fun k m a b i H => rfl) (fun a b H k => Ajz n a b H k) s h hn tb
structure Ej where
 fTopic : ByteArray
 fBody : ByteArray
 fQos : Int
 fRetain : Bool
def A1 (x : Ej) : List AV := .sc (.string x.fTopic) :: As x.fBody :: .sc (.int .i64 x.fQos) :: .sc (.bool x.fRetain) :: []
def Eu (x : Ej) : Nat := x.fTopic.size + (x.fBody.size + 0)
def Tx (x : Ej) : Prop := okS x.fTopic ∧ okS x.fBody ∧ okI x.fQos ∧ True
theorem F4 (x : Ej) : (A1 x).length = 4 := rfl
theorem Ff (x : Ej) : (A1 x).all E6 = true := rfl
def G8 : List Nat := [9, 31, 3, 4]
theorem Qb : ∃ i, Ag 85 = some i ∧ i.cty = G8 := ⟨_, rfl, rfl⟩
theorem Kp (d : Nat) (x : Ej) : Ed (F7 Ag E0.tp (d + 2)) G8 (A1 x) := ⟨trivial, ⟨J7 (d := d + 0) Id x.fBody, ⟨trivial, ⟨trivial, trivial⟩⟩⟩⟩
theorem AaR {n : Nat} {cs : List AV} (h : Ty Ag n 79 cs) : ∃ x : Ej, cs = A1 x ∧ Tx x := by
 obtain ⟨m, hf⟩ := M4 (fs := [(0, 9), (1, 31), (2, 3), (3, 4)]) ⟨_, rfl, rfl, rfl, rfl, rfl, rfl, rfl⟩ h
 obtain ⟨a0, b0, rfl, h0, hf⟩ := hf
 obtain ⟨v0, rfl, k0⟩ := Afj h0
 obtain ⟨a1, b1, rfl, h1, hf⟩ := hf
 obtain ⟨v1, rfl, k1⟩ := Zp ⟨_, rfl, rfl, rfl, rfl, rfl, rfl⟩ h1
 obtain ⟨a2, b2, rfl, h2, hf⟩ := hf
 obtain ⟨v2, rfl, k2⟩ := J5 h2
 obtain ⟨a3, b3, rfl, h3, hf⟩ := hf
 obtain ⟨v3, rfl⟩ := AcH h3
 subst hf
 exact ⟨⟨v0, v1, v2, v3⟩, rfl, k0, k1, k2, trivial⟩
theorem Pq : ∃ i j, Ag 28 = some i ∧ Ag i.elem = some j ∧ j.size = 4 ∧ j.cty = G8 := ⟨_, _, rfl, rfl, rfl, rfl⟩
def S3 : List AV := [(.sc (.string ⟨#[]⟩)), .nl, (.sc (.int .i64 0)), (.sc (.bool false))]
theorem Abc (n : Nat) (hn : 1048576 < n) (x : Ej) (h : Eu x ≤ 1048576) : Bt E0 (n + 2) 85 144 [.agg (A1 x)] = some (.agg (A1 x)) := by
 rw [Ax, Agg, f144]
 simp only [B6, Cp, Bj, Bb, Bo, K4]
 rw [E3 _ _ _ (Ff x)]
 simp only [List.length_nil, List.nil_append, List.length_cons, List.cons_append, Nat.zero_add, Nat.reduceAdd]
 refine T3 (T := G8) (C := A1 x) (Z := S3) (v := .string x.fTopic) (o' := 1) rfl rfl rfl rfl rfl ?_
 refine Af1 (o' := 2) rfl rfl rfl rfl rfl (AcS (n + 0) (by omega) x.fBody (by unfold Eu at h; omega)) rfl ?_
 refine T3 (v := .int .i64 x.fQos) (o' := 3) rfl rfl rfl rfl rfl ?_
 refine T3 (v := .bool x.fRetain) (o' := 4) rfl rfl rfl rfl rfl ?_
 exact Zx rfl rfl rfl (Ff x) Qb (Kp 5 x)
theorem Aah (n : Nat) (hn : 1048576 < n) (tb : Nat) (x : Ej) (h : Eu x ≤ 1048576) : Bt E0 (n + 2) tb 154 [.agg (A1 x), .agg (A1 x)] = some (.sc (.bool true)) := by
 rw [Ax, Agk, f154]
 simp only [B6, Bj, Bb, Bg, Cx, D7, A9]
 rw [E3 _ _ _ (Ff x), E3 _ _ _ (Ff x)]
 simp only [List.length_nil, List.nil_append, List.length_cons, List.cons_append, Nat.zero_add, Nat.reduceAdd]
 refine Hi (v := .string x.fTopic) rfl rfl (fun k => M3 _ k) ?_
 refine Nf rfl rfl rfl (L5 (n + 0) (by omega) _ x.fBody (by unfold Eu at h; omega)) ?_
 refine Hi (v := .int .i64 x.fQos) rfl rfl (fun k => Hl _ k) ?_
 refine Uh (b := x.fRetain) rfl rfl ?_
 rfl
theorem Aba (n : Nat) (hn : 1048576 < n) (ty : Nat) (x : Ej) (hx : Tx x) (left : Int) (h0 : 0 ≤ left) (h1 : left ≤ 1048576) : Bt E0 (n + 2) ty 134 [.agg (A1 x), .sc (.int .i64 left)] = T4 (Eu x) left := by
 obtain ⟨k0, k1, _, _⟩ := hx
 unfold Eu
 rw [Ax, Agb, f134]
 simp only [B6, Bj, Bb, Cs, Bg, A9]
 rw [E3 _ _ _ (Ff x)]
 simp only [List.length_nil, List.nil_append, List.length_cons, List.cons_append, Nat.zero_add, Nat.reduceAdd]
 refine AjQ (s := x.fTopic) rfl h0 h1 k0 rfl fun h0 h1 => ?_
 refine Af3 rfl h0 h1 rfl (AcQ (n + 0) _ x.fBody k1 _ h0 h1) rfl fun h0 h1 => ?_
 exact Z1 h0
theorem Af5 (n : Nat) (hn : 1048576 < n) (l : List Ej) (h : Mm Eu l ≤ 1048576) : Bt E0 (n + 3) 28 88 [At A1 l] = some (At A1 l) := by
 have e := Ge Eu l
 exact Xa (n := n + 2) (w := 4) (bytes := 56) (cty := G8) A1 [(.sc (.string ⟨#[]⟩)), .nl, (.sc (.int .i64 0)), (.sc (.bool false))] rfl F4 rfl (by decide) Pq Qb Ff rfl (fun k => Ri (PR (n + 2) AV) (n + 2) k) (fun k m a o i H => rfl) (fun a H k => Ajr (n + 2) a H k) (by decide) l (fun x hx => Abc n hn x (by have := Ig (wt := Eu) hx; omega)) (fun x _ => Kp 5 x) (by omega) (by omega)
theorem Adp (n : Nat) (hn : 1048576 < n) (tb : Nat) (l : List Ej) (h : Mm Eu l ≤ 1048576) : Bt E0 (n + 3) tb 94 [At A1 l, At A1 l] = some (.sc (.bool true)) := by
 have e := Ge Eu l
 exact Q6 (n := n + 2) A1 F4 (by decide) Ff rfl (fun k => Rk (PR (n + 2) AV) (n + 2) k) (fun k m a b i H => rfl) (fun a b H k => Ajw (n + 2) a b H k) l (fun x hx => Aah n hn _ x (by have := Ig (wt := Eu) hx; omega)) (by omega) (by omega) tb
theorem Af2 (n : Nat) (hn : 1048576 < n) (ty : Nat) (l : List Ej) (hmax : l.length ≤ 9223372036854775807) (hok : ∀ x ∈ l, Tx x) (left : Int) (h0 : 0 ≤ left) (h1 : left ≤ 1048576) : Bt E0 (n + 3) ty 84 [At A1 l, .sc (.int .i64 left)] = some (.sc (.int .i64 (H6 (Mm Eu l) left))) :=
 W7 (n := n + 2) A1 Eu F4 (by decide) Ff rfl (fun k => Rg (PR (n + 2) AV) (n + 2) k) (fun k m a l i H => rfl) (fun a b H k => Ajn (n + 2) a b H k) l (fun x hx left h0 h1 => Aba n hn _ x (hok x hx) left h0 h1) hmax (by omega) left h0 h1 ty
structure Af where
 fId : Int
 fM : Ej
 fSt : Int
def Ap (x : Af) : List AV := .sc (.int .i64 x.fId) :: (A1 x.fM ++ .sc (.int .i64 x.fSt) :: [])
def B9 (x : Af) : Nat := Eu x.fM + 0
def Ll (x : Af) : Prop := okI x.fId ∧ Tx x.fM ∧ okI x.fSt
theorem Bf (x : Af) : (Ap x).length = 6 := rfl
theorem Df (x : Af) : (Ap x).all E6 = true := rfl
def Ek : List Nat := [3, 9, 31, 3, 4, 3]
theorem Xd : ∃ i, Ag 143 = some i ∧ i.cty = Ek := ⟨_, rfl, rfl⟩
theorem J6 (d : Nat) (x : Af) : Ed (F7 Ag E0.tp (d + 2)) Ek (Ap x) := ⟨trivial, Jh (ts := G8) (ts' := [3]) (Kp (d + 0) x.fM) ⟨trivial, trivial⟩⟩
theorem Zo {n : Nat} {cs : List AV} (h : Ty Ag n 234 cs) : ∃ x : Af, cs = Ap x ∧ Ll x := by
 obtain ⟨m, hf⟩ := M4 (fs := [(0, 3), (1, 79), (5, 3)]) ⟨_, rfl, rfl, rfl, rfl, rfl, rfl, rfl⟩ h
 obtain ⟨a0, b0, rfl, h0, hf⟩ := hf
 obtain ⟨v0, rfl, k0⟩ := J5 h0
 obtain ⟨a1, b1, rfl, h1, hf⟩ := hf
 obtain ⟨v1, rfl, k1⟩ := AaR h1
 obtain ⟨a2, b2, rfl, h2, hf⟩ := hf
 obtain ⟨v2, rfl, k2⟩ := J5 h2
 subst hf
 exact ⟨⟨v0, v1, v2⟩, rfl, k0, k1, k2⟩
theorem Pp : ∃ i j, Ag 27 = some i ∧ Ag i.elem = some j ∧ j.size = 6 ∧ j.cty = Ek := ⟨_, _, rfl, rfl, rfl, rfl⟩
def O2 : List AV := [(.sc (.int .i64 0)), (.sc (.string ⟨#[]⟩)), .nl, (.sc (.int .i64 0)), (.sc (.bool false)), (.sc (.int .i64 0))]
theorem Z3 (n : Nat) (hn : 1048576 < n) (x : Af) (h : B9 x ≤ 1048576) : Bt E0 (n + 3) 143 209 [.agg (Ap x)] = some (.agg (Ap x)) := by
 rw [Ax, Ag0, f209]
 simp only [B6, Cp, Bj, Bb, Bo, K4]
 rw [E3 _ _ _ (Df x)]
 simp only [List.length_nil, List.nil_append, List.length_cons, List.cons_append, Nat.zero_add, Nat.reduceAdd]
 refine T3 (T := Ek) (C := Ap x) (Z := O2) (v := .int .i64 x.fId) (o' := 1) rfl rfl rfl rfl rfl ?_
 refine AjN (cty := G8) (cells := A1 x.fM) (o' := 5) rfl rfl rfl rfl rfl (Ff _) (Abc (n + 0) (by omega) x.fM (by unfold B9 at h; omega)) Qb rfl (by decide) rfl ?_
 refine T3 (v := .int .i64 x.fSt) (o' := 6) rfl rfl rfl rfl rfl ?_
 exact Zx rfl rfl rfl (Df x) Xd (J6 5 x)
theorem X2 (n : Nat) (hn : 1048576 < n) (tb : Nat) (x : Af) (h : B9 x ≤ 1048576) : Bt E0 (n + 3) tb 214 [.agg (Ap x), .agg (Ap x)] = some (.sc (.bool true)) := by
 rw [Ax, Ag5, f214]
 simp only [B6, Bj, Bb, Bg, Cx, D7, A9]
 rw [E3 _ _ _ (Df x), E3 _ _ _ (Df x)]
 simp only [List.length_nil, List.nil_append, List.length_cons, List.cons_append, Nat.zero_add, Nat.reduceAdd]
 refine Hi (v := .int .i64 x.fId) rfl rfl (fun k => Hl _ k) ?_
 refine AiU (cells := A1 x.fM) rfl rfl rfl (Ff _) (Aah (n + 0) (by omega) _ x.fM (by unfold B9 at h; omega)) ?_
 refine Hi (v := .int .i64 x.fSt) rfl rfl (fun k => Hl _ k) ?_
 rfl
theorem Zz (n : Nat) (hn : 1048576 < n) (ty : Nat) (x : Af) (hx : Ll x) (left : Int) (h0 : 0 ≤ left) (h1 : left ≤ 1048576) : Bt E0 (n + 3) ty 206 [.agg (Ap x), .sc (.int .i64 left)] = T4 (B9 x) left := by
 obtain ⟨_, k1, _⟩ := hx
 unfold B9
 rw [Ax, Agx, f206]
 simp only [B6, Bj, Bb, Cs, Bg, A9]
 rw [E3 _ _ _ (Df x)]
 simp only [List.length_nil, List.nil_append, List.length_cons, List.cons_append, Nat.zero_add, Nat.reduceAdd]
 refine AjO (cells := A1 x.fM) rfl h0 h1 rfl (Ff _) (Aba (n + 0) (by omega) _ x.fM k1 _ h0 h1) rfl fun h0 h1 => ?_
 exact Z1 h0
theorem W9 (n : Nat) (hn : 1048576 < n) (l : List Af) (h : Mm B9 l ≤ 1048576) : Bt E0 (n + 4) 27 87 [At Ap l] = some (At Ap l) := by
 have e := Ge B9 l
 exact Xa (n := n + 3) (w := 6) (bytes := 72) (cty := Ek) Ap [(.sc (.int .i64 0)), (.sc (.string ⟨#[]⟩)), .nl, (.sc (.int .i64 0)), (.sc (.bool false)), (.sc (.int .i64 0))] rfl Bf rfl (by decide) Pp Xd Df rfl (fun k => Rh (PR (n + 3) AV) (n + 3) k) (fun k m a o i H => rfl) (fun a H k => Ajq (n + 3) a H k) (by decide) l (fun x hx => Z3 n hn x (by have := Ig (wt := B9) hx; omega)) (fun x _ => J6 5 x) (by omega) (by omega)
theorem V4 (n : Nat) (hn : 1048576 < n) (tb : Nat) (l : List Af) (h : Mm B9 l ≤ 1048576) : Bt E0 (n + 4) tb 93 [At Ap l, At Ap l] = some (.sc (.bool true)) := by
 have e := Ge B9 l
 exact Q6 (n := n + 3) Ap Bf (by decide) Df rfl (fun k => Rj (PR (n + 3) AV) (n + 3) k) (fun k m a b i H => rfl) (fun a b H k => Ajv (n + 3) a b H k) l (fun x hx => X2 n hn _ x (by have := Ig (wt := B9) hx; omega)) (by omega) (by omega) tb
theorem W6 (n : Nat) (hn : 1048576 < n) (ty : Nat) (l : List Af) (hmax : l.length ≤ 9223372036854775807) (hok : ∀ x ∈ l, Ll x) (left : Int) (h0 : 0 ≤ left) (h1 : left ≤ 1048576) : Bt E0 (n + 4) ty 83 [At Ap l, .sc (.int .i64 left)] = some (.sc (.int .i64 (H6 (Mm B9 l) left))) :=
 W7 (n := n + 3) Ap B9 Bf (by decide) Df rfl (fun k => Rf (PR (n + 3) AV) (n + 3) k) (fun k m a l i H => rfl) (fun a b H k => Ajm (n + 3) a b H k) l (fun x hx left h0 h1 => Zz n hn _ x (hok x hx) left h0 h1) hmax (by omega) left h0 h1 ty
structure Ci where
 fLast : Int
 fFl : List Af
 fQ : List Ej
def Ar (x : Ci) : List AV := .sc (.int .i64 x.fLast) :: At Ap x.fFl :: At A1 x.fQ :: []
def Ev (x : Ci) : Nat := Mm B9 x.fFl + (Mm Eu x.fQ + 0)
def Wm (x : Ci) : Prop := okI x.fLast ∧ (x.fFl.length ≤ 9223372036854775807 ∧ ∀ z ∈ x.fFl, Ll z) ∧ (x.fQ.length ≤ 9223372036854775807 ∧ ∀ z ∈ x.fQ, Tx z)
theorem Fa (x : Ci) : (Ar x).length = 3 := rfl
theorem Fq (x : Ci) : (Ar x).all E6 = true := rfl
def Mx : List Nat := [3, 27, 28]
theorem Oz : ∃ i, Ag 30 = some i ∧ i.cty = Mx := ⟨_, rfl, rfl⟩
theorem Hb (d : Nat) (x : Ci) : Ed (F7 Ag E0.tp (d + 3)) Mx (Ar x) := ⟨trivial, ⟨Ht (d := d + 2) Bf Pp (J6 (d + 0)) x.fFl, ⟨Ht (d := d + 2) F4 Pq (Kp (d + 0)) x.fQ, trivial⟩⟩⟩
theorem Ahx {n : Nat} {cs : List AV} (h : Ty Ag n 25 cs) : ∃ x : Ci, cs = Ar x ∧ Wm x := by
 obtain ⟨m, hf⟩ := M4 (fs := [(0, 3), (1, 22), (2, 23)]) ⟨_, rfl, rfl, rfl, rfl, rfl, rfl, rfl⟩ h
 obtain ⟨a0, b0, rfl, h0, hf⟩ := hf
 obtain ⟨v0, rfl, k0⟩ := J5 h0
 obtain ⟨a1, b1, rfl, h1, hf⟩ := hf
 obtain ⟨v1, rfl, k1⟩ := Sb (ok := Ll) ⟨_, rfl, rfl, rfl, rfl, rfl, rfl⟩ (fun n cs h => Zo h) h1
 obtain ⟨a2, b2, rfl, h2, hf⟩ := hf
 obtain ⟨v2, rfl, k2⟩ := Sb (ok := Tx) ⟨_, rfl, rfl, rfl, rfl, rfl, rfl⟩ (fun n cs h => AaR h) h2
 subst hf
 exact ⟨⟨v0, v1, v2⟩, rfl, k0, k1, k2⟩
def Dx : List AV := [(.sc (.int .i64 0)), .nl, .nl]
theorem Qu (n : Nat) (hn : 1048576 < n) (x : Ci) (h : Ev x ≤ 1048576) : Bt E0 (n + 5) 30 14 [.agg (Ar x)] = some (.agg (Ar x)) := by
 rw [Ax, AiX, f14]
 simp only [B6, Cp, Bj, Bb, Bo, K4]
 rw [E3 _ _ _ (Fq x)]
 simp only [List.length_nil, List.nil_append, List.length_cons, List.cons_append, Nat.zero_add, Nat.reduceAdd]
 refine T3 (T := Mx) (C := Ar x) (Z := Dx) (v := .int .i64 x.fLast) (o' := 1) rfl rfl rfl rfl rfl ?_
 refine Af1 (o' := 2) rfl rfl rfl rfl rfl (W9 (n + 0) (by omega) x.fFl (by unfold Ev at h; omega)) rfl ?_
 refine Af1 (o' := 3) rfl rfl rfl rfl rfl (Af5 (n + 1) (by omega) x.fQ (by unfold Ev at h; omega)) rfl ?_
 exact Zx rfl rfl rfl (Fq x) Oz (Hb 4 x)
theorem Ql (n : Nat) (hn : 1048576 < n) (tb : Nat) (x : Ci) (h : Ev x ≤ 1048576) : Bt E0 (n + 5) tb 16 [.agg (Ar x), .agg (Ar x)] = some (.sc (.bool true)) := by
 rw [Ax, AiZ, f16]
 simp only [B6, Bj, Bb, Bg, Cx, D7, A9]
 rw [E3 _ _ _ (Fq x), E3 _ _ _ (Fq x)]
 simp only [List.length_nil, List.nil_append, List.length_cons, List.cons_append, Nat.zero_add, Nat.reduceAdd]
 refine Hi (v := .int .i64 x.fLast) rfl rfl (fun k => Hl _ k) ?_
 refine Nf rfl rfl rfl (V4 (n + 0) (by omega) _ x.fFl (by unfold Ev at h; omega)) ?_
 refine Nf rfl rfl rfl (Adp (n + 1) (by omega) _ x.fQ (by unfold Ev at h; omega)) ?_
 rfl
theorem AhE (n : Nat) (hn : 1048576 < n) (ty : Nat) (x : Ci) (hx : Wm x) (left : Int) (h0 : 0 ≤ left) (h1 : left ≤ 1048576) : Bt E0 (n + 5) ty 12 [.agg (Ar x), .sc (.int .i64 left)] = T4 (Ev x) left := by
 obtain ⟨_, k1, k2⟩ := hx
 unfold Ev
 rw [Ax, AiV, f12]
 simp only [B6, Bj, Bb, Cs, Bg, A9]
 rw [E3 _ _ _ (Fq x)]
 simp only [List.length_nil, List.nil_append, List.length_cons, List.cons_append, Nat.zero_add, Nat.reduceAdd]
 refine Af3 rfl h0 h1 rfl (W6 (n + 0) (by omega) _ x.fFl k1.1 k1.2 _ h0 h1) rfl fun h0 h1 => ?_
 refine Af3 rfl h0 h1 rfl (Af2 (n + 1) (by omega) _ x.fQ k2.1 k2.2 _ h0 h1) rfl fun h0 h1 => ?_
 exact Z1 h0
structure H0 where
 fFilter : ByteArray
 fQos : Int
def B0 (x : H0) : List AV := .sc (.string x.fFilter) :: .sc (.int .i64 x.fQos) :: []
def I5 (x : H0) : Nat := x.fFilter.size + 0
theorem Kn (x : H0) : (B0 x).length = 2 := rfl
theorem Y2 (x : H0) : (B0 x).all E6 = true := rfl
def Ue : List Nat := [9, 3]
theorem AaS (d : Nat) (x : H0) : Ed (F7 Ag E0.tp (d + 1)) Ue (B0 x) := ⟨trivial, ⟨trivial, trivial⟩⟩
theorem AhG : ∃ i j, Ag 32 = some i ∧ Ag i.elem = some j ∧ j.size = 2 ∧ j.cty = Ue := ⟨_, _, rfl, rfl, rfl, rfl⟩
theorem Adq (n : Nat) (hn : 1048576 < n) (tb : Nat) (x : H0) (h : I5 x ≤ 1048576) : Bt E0 (n + 1) tb 215 [.agg (B0 x), .agg (B0 x)] = some (.sc (.bool true)) := by
 rw [Ax, Ag6, f215]
 simp only [B6, Bj, Bb, Bg, Cx, D7, A9]
 rw [E3 _ _ _ (Y2 x), E3 _ _ _ (Y2 x)]
 simp only [List.length_nil, List.nil_append, List.length_cons, List.cons_append, Nat.zero_add, Nat.reduceAdd]
 refine Hi (v := .string x.fFilter) rfl rfl (fun k => M3 _ k) ?_
 refine Hi (v := .int .i64 x.fQos) rfl rfl (fun k => Hl _ k) ?_
 rfl
theorem Abq (n : Nat) (hn : 1048576 < n) (tb : Nat) (l : List H0) (h : Mm I5 l ≤ 1048576) : Bt E0 (n + 2) tb 96 [At B0 l, At B0 l] = some (.sc (.bool true)) := by
 have e := Ge I5 l
 exact Q6 (n := n + 1) B0 Kn (by decide) Y2 rfl (fun k => Rm (PR (n + 1) AV) (n + 1) k) (fun k m a b i H => rfl) (fun a b H k => Ajy (n + 1) a b H k) l (fun x hx => Adq n hn _ x (by have := Ig (wt := I5) hx; omega)) (by omega) (by omega) tb
structure Ay where
 fType : Int
 fDup : Bool
 fQos : Int
 fRetain : Bool
 fId : Int
 fTopic : ByteArray
 fBody : ByteArray
 fClient : ByteArray
 fLevel : Int
 fClean : Bool
 fKeep : Int
 fHasWill : Bool
 fWTopic : ByteArray
 fWBody : ByteArray
 fWQos : Int
 fWRetain : Bool
 fHasUser : Bool
 fUser : ByteArray
 fHasPass : Bool
 fPass : ByteArray
 fCode : Int
 fPresent : Bool
 fWants : List H0
 fNames : List ByteArray
 fCodes : List Int
def Aq (x : Ay) : List AV := .sc (.int .i64 x.fType) :: .sc (.bool x.fDup) :: .sc (.int .i64 x.fQos) :: .sc (.bool x.fRetain) :: .sc (.int .i64 x.fId) :: .sc (.string x.fTopic) :: As x.fBody :: .sc (.string x.fClient) :: .sc (.int .i64 x.fLevel) :: .sc (.bool x.fClean) :: .sc (.int .i64 x.fKeep) :: .sc (.bool x.fHasWill) :: .sc (.string x.fWTopic) :: As x.fWBody :: .sc (.int .i64 x.fWQos) :: .sc (.bool x.fWRetain) :: .sc (.bool x.fHasUser) :: .sc (.string x.fUser) :: .sc (.bool x.fHasPass) :: As x.fPass :: .sc (.int .i64 x.fCode) :: .sc (.bool x.fPresent) :: At B0 x.fWants :: Fv x.fNames :: Fs x.fCodes :: []
def Ee (x : Ay) : Nat := x.fTopic.size + (x.fBody.size + (x.fClient.size + (x.fWTopic.size + (x.fWBody.size + (x.fUser.size + (x.fPass.size + (Mm I5 x.fWants + (Mm ByteArray.size x.fNames + (x.fCodes.length + 0)))))))))
theorem E7 (x : Ay) : (Aq x).length = 25 := rfl
theorem D0 (x : Ay) : (Aq x).all E6 = true := rfl
def Jx : List Nat := [3, 4, 3, 4, 3, 9, 31, 9, 3, 4, 3, 4, 9, 31, 3, 4, 4, 9, 4, 31, 3, 4, 32, 33, 34]
theorem Sz : ∃ i, Ag 36 = some i ∧ i.cty = Jx := ⟨_, rfl, rfl⟩
theorem G2 (d : Nat) (x : Ay) : Ed (F7 Ag E0.tp (d + 2)) Jx (Aq x) := ⟨trivial, ⟨trivial, ⟨trivial, ⟨trivial, ⟨trivial, ⟨trivial, ⟨J7 (d := d + 0) Id x.fBody, ⟨trivial, ⟨trivial, ⟨trivial, ⟨trivial, ⟨trivial, ⟨trivial, ⟨J7 (d := d + 0) Id x.fWBody, ⟨trivial, ⟨trivial, ⟨trivial, ⟨trivial, ⟨trivial, ⟨J7 (d := d + 0) Id x.fPass, ⟨trivial, ⟨trivial, ⟨Ht (d := d + 1) Kn AhG (AaS (d + 0)) x.fWants, ⟨Ln (d := d + 0) (fun s : ByteArray => .string s) T6 x.fNames, ⟨Ln (d := d + 0) (fun z : Int => .int .i64 z) Af7 x.fCodes, trivial⟩⟩⟩⟩⟩⟩⟩⟩⟩⟩⟩⟩⟩⟩⟩⟩⟩⟩⟩⟩⟩⟩⟩⟩⟩
theorem My (n : Nat) (hn : 1048576 < n) (tb : Nat) (x : Ay) (h : Ee x ≤ 1048576) : Bt E0 (n + 3) tb 17 [.agg (Aq x), .agg (Aq x)] = some (.sc (.bool true)) := by
 rw [Ax, Aja, f17]
 simp only [B6, Bj, Bb, Bg, Cx, D7, A9]
 rw [E3 _ _ _ (D0 x), E3 _ _ _ (D0 x)]
 simp only [List.length_nil, List.nil_append, List.length_cons, List.cons_append, Nat.zero_add, Nat.reduceAdd]
 refine Hi (v := .int .i64 x.fType) rfl rfl (fun k => Hl _ k) ?_
 refine Uh (b := x.fDup) rfl rfl ?_
 refine Hi (v := .int .i64 x.fQos) rfl rfl (fun k => Hl _ k) ?_
 refine Uh (b := x.fRetain) rfl rfl ?_
 refine Hi (v := .int .i64 x.fId) rfl rfl (fun k => Hl _ k) ?_
 refine Hi (v := .string x.fTopic) rfl rfl (fun k => M3 _ k) ?_
 refine Nf rfl rfl rfl (L5 (n + 1) (by omega) _ x.fBody (by unfold Ee at h; omega)) ?_
 refine Hi (v := .string x.fClient) rfl rfl (fun k => M3 _ k) ?_
 refine Hi (v := .int .i64 x.fLevel) rfl rfl (fun k => Hl _ k) ?_
 refine Uh (b := x.fClean) rfl rfl ?_
 refine Hi (v := .int .i64 x.fKeep) rfl rfl (fun k => Hl _ k) ?_
 refine Uh (b := x.fHasWill) rfl rfl ?_
 refine Hi (v := .string x.fWTopic) rfl rfl (fun k => M3 _ k) ?_
 refine Nf rfl rfl rfl (L5 (n + 1) (by omega) _ x.fWBody (by unfold Ee at h; omega)) ?_
 refine Hi (v := .int .i64 x.fWQos) rfl rfl (fun k => Hl _ k) ?_
 refine Uh (b := x.fWRetain) rfl rfl ?_
 refine Uh (b := x.fHasUser) rfl rfl ?_
 refine Hi (v := .string x.fUser) rfl rfl (fun k => M3 _ k) ?_
 refine Uh (b := x.fHasPass) rfl rfl ?_
 refine Nf rfl rfl rfl (L5 (n + 1) (by omega) _ x.fPass (by unfold Ee at h; omega)) ?_
 refine Hi (v := .int .i64 x.fCode) rfl rfl (fun k => Hl _ k) ?_
 refine Uh (b := x.fPresent) rfl rfl ?_
 refine Nf rfl rfl rfl (Abq (n + 0) (by omega) _ x.fWants (by unfold Ee at h; omega)) ?_
 refine Nf rfl rfl rfl (V5 (n + 1) (by omega) _ x.fNames (by unfold Ee at h; have := Ge ByteArray.size x.fNames; omega)) ?_
 refine Nf rfl rfl rfl (Ado (n + 1) (by omega) _ x.fCodes (by unfold Ee at h; omega)) ?_
 rfl
end
section
open Go
variable {β : Type} {n : Nat} {H : Ab} {r : Option β}
theorem Dc : ([] : List AV).mapM (B8 H 8) = some [] := rfl
theorem A8 {x v : AV} {xs vs : List AV} (h : Vw H x v) (hs : xs.mapM (B8 H 8) = some vs) : (x :: xs).mapM (B8 H 8) = some (v :: vs) := by
 simp only [List.mapM_cons, h.now, hs, Option.pure_def, Option.bind_eq_bind, Option.bind_some]
theorem Bd {i : Nat} {b : Fz} (h : H[i]? = some b) (X : List Fz) : (H ++ X)[i]? = some b := by
 rw [List.getElem?_append_left (List.getElem?_eq_some_iff.1 h).1]
 exact h
theorem Fh {i w : Nat} {cs : List AV} {K : AV → Option β} (hi : H[i]? = some ⟨cs, true, true⟩) (hw : cs.length = w) (h : K (.agg cs) = r) : Bh true w (.ptr i 0) H (fun x => K x) = r := by
 have e : An H i 0 w = some cs := by
  simp only [An, hi, if_true, List.drop_zero, Nat.zero_add, ← hw, Nat.le_refl, List.take_length]
 rw [ldT e]
 exact h
theorem Dv {ty f : Nat} {args vs : List AV} {v : Value} {K : KO β} (hh : Cw f = false) (hv : args.mapM (B8 H 8) = some vs) (ht : Bt E0 n ty f vs = some (.sc v)) (h : K (.sc v) H = r) : (PR n β).call ty (.fn f [] []) args H (fun x H => K x H) = r := by
 rw [Dd hh hv ht, Dk, List.append_nil]
 exact h
theorem Ux {w : Nat} {z ys : List AV} {K : KO β} (hz : z.length = w) (hy : ys.length = w) (hl : ys.all A4 = true) (h : ∀ i, (H ++ [⟨ys, true, true⟩])[i]? = some ⟨ys, true, true⟩ → K (.ptr i 0) (H ++ [⟨ys, true, true⟩]) = r) :
  K4 z H (fun t H => C2 w t (.agg ys) H fun H => K t H) = r := by
 have hg : (H ++ [(⟨z, true, true⟩ : Fz)])[H.length]? = some ⟨z, true, true⟩ := by rw [List.getElem?_append_right (Nat.le_refl _), Nat.sub_self]; rfl
 have hc : Bz (.agg ys) = some ys := by
  show (if ys.all A4 then some ys else none) = _
  rw [if_pos hl]
 show C2 w (.ptr H.length 0) (.agg ys) (H ++ [⟨z, true, true⟩]) _ = r
 rw [He w H.length 0 _ ⟨z, true, true⟩ ys _ _ hg hc hy (by rw [hz]; omega) rfl]
 have hs : Ch z 0 ys = ys := by
  unfold Ch
  rw [List.take_zero, List.nil_append, List.drop_of_length_le (by rw [hz, hy]; omega), List.append_nil]
 have e : (H ++ [(⟨z, true, true⟩ : Fz)]).set H.length ⟨ys, true, true⟩ = H ++ [⟨ys, true, true⟩] := by
  rw [List.set_append_right _ _ (Nat.le_refl _), Nat.sub_self]
  rfl
 simp only [hs, e]
 exact h _ (by rw [List.getElem?_append_right (Nat.le_refl _), Nat.sub_self]; rfl)
theorem AkB {ty f W : Nat} {args vs : List AV} {left : Int} {A : Ab → Option β} {K : KO β} (hh : Cw f = false) (hv : args.mapM (B8 H 8) = some vs) (ht : Bt E0 n ty f vs = some (.sc (.int .i64 (H6 W left)))) (h0 : 0 ≤ left) (hA : A H = r) (h : (W : Int) ≤ left → K (.sc (.int .i64 (left - W))) H = r) :
  (PR n β).call ty (.fn f [] []) args H (fun t H => Bn .lss t (.sc (.int .i64 0)) fun t' => Cb t' (A H) (K t H)) = r := by
 rw [Dd hh hv ht, Dk, List.append_nil]
 simp only
 rw [H5, Bl]
 by_cases hw : left < W
 ·have e : H6 W left = -1 := by rw [H6, if_pos hw]
  rw [e, if_pos (by decide)]
  exact hA
 ·have e : H6 W left = left - W := by rw [H6, if_neg hw]
  rw [e, if_neg (by simpa using (show ¬ left - (W : Int) < 0 by omega))]
  exact h (by omega)
theorem Adr (a b : Int) (k : AV → Option β) : Bn .eql (.sc (.int .i64 a)) (.sc (.int .i64 b)) k = k (.sc (.bool (a == b))) := rfl
theorem Aiu (a b : Int) (k : AV → Option β) : Bn .neq (.sc (.int .i64 a)) (.sc (.int .i64 b)) k = k (.sc (.bool (a != b))) := rfl
theorem Tq (a b : Int) (k : AV → Option β) : Bn .leq (.sc (.int .i64 a)) (.sc (.int .i64 b)) k = k (.sc (.bool (decide (a ≤ b)))) := rfl
theorem Ais (a b : Int) (k : AV → Option β) : Bn .gtr (.sc (.int .i64 a)) (.sc (.int .i64 b)) k = k (.sc (.bool (decide (a > b)))) := rfl
theorem Aac (a b : Int) (k : AV → Option β) : Bn .add (.sc (.int .i64 a)) (.sc (.int .i64 b)) k = k (.sc (.int .i64 (IntKind.i64.wrap (a + b)))) := rfl
theorem AkC (a b : Int) (k : AV → Option β) : Bn .mul (.sc (.int .i64 a)) (.sc (.int .i64 b)) k = k (.sc (.int .i64 (IntKind.i64.wrap (a * b)))) := rfl
theorem Al3 (a b : ByteArray) (k : AV → Option β) : Bn .neq (.sc (.string a)) (.sc (.string b)) k = k (.sc (.bool (!(a.toList == b.toList)))) := rfl
theorem AkE (a b : Bool) (k : AV → Option β) : Lt .neq (.sc (.bool a)) (.sc (.bool b)) k = k (.sc (.bool (!(a == b)))) := rfl
theorem R2 (s : ByteArray) (k : AV → Option β) : Si (.sc (.string s)) k = k (.sc (.int .i64 s.size)) := rfl
theorem AkG (ty : Nat) (H : Ab) (v : Value) : Aw Ag E0.tp ty H (.sc v) = some (.sc v) := rfl
end
section
open Go
section
variable {β : Type} {n : Nat} {H : Ab} {r : Option β} {K : AV → Option β} {KH : KO β}
theorem L0 {cs : List AV} (hf : cs.all E6 = true) (h : ∀ i, i = H.length → (H ++ [⟨cs, true, true⟩])[i]? = some ⟨cs, true, true⟩ → KH (.ptr i 0) (H ++ [⟨cs, true, true⟩]) = r) : Sf (.agg cs) H (fun x H => KH x H) = r := by
 rw [E3 cs H _ hf]
 exact h _ rfl (by rw [List.getElem?_append_right (Nat.le_refl _), Nat.sub_self]; rfl)
theorem T7 {cs : List AV} (h : ∀ i, i = H.length → (H ++ [⟨cs, true, true⟩])[i]? = some ⟨cs, true, true⟩ → KH (.ptr i 0) (H ++ [⟨cs, true, true⟩]) = r) : K4 cs H (fun x H => KH x H) = r :=
 h _ rfl (by rw [List.getElem?_append_right (Nat.le_refl _), Nat.sub_self]; rfl)
theorem Pt {zs cs : List AV} {ps : List (Nat × Nat × AV)} {KL : List AV → Option β} (hf : Ez zs ps = some cs) (h : KL cs = r) : ((Ez zs ps).bind fun c => KL c) = r := by
 rw [hf]
 exact h
theorem Ah {o id off : Nat} (h : K (.ptr id (off + o)) = r) : Di o (.ptr id off) (fun x => K x) = r := h
theorem Ho {o : Nat} {cells : List AV} (h : K (.rp (cells.drop o)) = r) : Di o (.rp cells) (fun x => K x) = r := h
theorem Ba {i off : Nat} {cs : List AV} {c : AV} (hi : H[i]? = some ⟨cs, true, true⟩) (hl : off < cs.length) (hc : (cs.drop off).take 1 = [c]) (h : K c = r) : Bh false 1 (.ptr i off) H (fun x => K x) = r := by
 have e : An H i off 1 = some [c] := by
  simp only [An, hi, if_true]
  rw [if_pos (by omega), hc]
 rw [Zc e]
 exact h
theorem Qc {i off w : Nat} {cs ds : List AV} (hi : H[i]? = some ⟨cs, true, true⟩) (hl : off + w ≤ cs.length) (hc : (cs.drop off).take w = ds) (h : K (.agg ds) = r) : Bh true w (.ptr i off) H (fun x => K x) = r := by
 have e : An H i off w = some ds := by
  simp only [An, hi, if_true]
  rw [if_pos hl, hc]
 rw [ldT e]
 exact h
theorem Ml {cells : List AV} {c : AV} (hc : cells.take 1 = [c]) (h : K c = r) : Bh false 1 (.rp cells) H (fun x => K x) = r := by
 cases cells with
 | nil => cases hc
 | cons x xs =>
  obtain rfl : x = c := by simpa using hc
  rw [Jo]
  exact h
theorem I0 {w : Nat} {cells ds : List AV} (hl : w ≤ cells.length) (hc : cells.take w = ds) (h : K (.agg ds) = r) : Bh true w (.rp cells) H (fun x => K x) = r := by
 simp only [Bh, hl, if_true, hc]
 exact h
theorem Bk {op : BinOp} {x y v : AV} (e : ∀ k : AV → Option β, Bn op x y k = k v) (h : K v = r) : Bn op x y (fun t => K t) = r := (e _).trans h
theorem Gc {op : BinOp} {x y v : AV} (e : ∀ k : AV → Option β, Lt op x y k = k v) (h : K v = r) : Lt op x y (fun t => K t) = r := (e _).trans h
theorem Jj {b : Bool} (h : K (.sc (.bool (!b))) = r) : pUn .not (.sc (.bool b)) (fun t => K t) = r := h
theorem AfD {s : ByteArray} (h : K (.sc (.int .i64 s.size)) = r) : Si (.sc (.string s)) (fun t => K t) = r := h
theorem Et {m : Nat} {cs : List AV} (h : K (.sc (.int .i64 m)) = r) : Gn (.ro m cs) (fun t => K t) = r := h
theorem Ae {g : Prop} (b : Bool) (ht : b = true → g) (hf : b = false → g) : g := by
 cases h : b
 ·exact hf h
 ·exact ht h
theorem Hh {b : Bool} {x y : Option β} (hb : b = true) (h : x = r) : Cb (.sc (.bool b)) x y = r := by subst hb; exact h
theorem Hz {b : Bool} {x y : Option β} (hb : b = false) (h : y = r) : Cb (.sc (.bool b)) x y = r := by subst hb; exact h
theorem Al {b : Bool} {m : (KO β) → Option β} (hb : b = true) (h : m (fun x H => KH x H) = r) : Gw (.sc (.bool b)) true H m (fun x H => KH x H) = r := by subst hb; exact h
theorem Am {b : Bool} {m : (KO β) → Option β} (hb : b = false) (h : KH (.sc undef) H = r) : Gw (.sc (.bool b)) true H m (fun x H => KH x H) = r := by subst hb; exact h
theorem C3 {b : Bool} {m : (KO β) → Option β} (hb : b = false) (h : m (fun x H => KH x H) = r) : Gw (.sc (.bool b)) false H m (fun x H => KH x H) = r := by subst hb; exact h
theorem C8 {b : Bool} {m : (KO β) → Option β} (hb : b = true) (h : KH (.sc undef) H = r) : Gw (.sc (.bool b)) false H m (fun x H => KH x H) = r := by subst hb; exact h
theorem w_u {t : Bool} {m : (KO β) → Option β} (h : KH (.sc undef) H = r) : Gw (.sc undef) t H m (fun x H => KH x H) = r := h
theorem AcV {b : Bool} {x y : AV} (hb : b = true) (h : K x = r) : Mr (.sc (.bool b)) x y (fun t => K t) = r := by
 subst hb
 cases x <;> cases y <;> exact h
theorem Z5 {b : Bool} {x y : AV} (hb : b = false) (h : K y = r) : Mr (.sc (.bool b)) x y (fun t => K t) = r := by
 subst hb
 cases x <;> cases y <;> exact h
def Hk {α : Type} (p : α → α → Bool) : List α → List α → Bool
 | x :: a, y :: b => if p x y then Hk p a b else false
 | _, _ => true
theorem Ir {α : Type} {w : Nat} (enc : α → List AV) (hw : ∀ x, (enc x).length = w) (h0 : 0 < w) (pk : α → AV) (LOAD : AV → (AV → Option β) → Option β) (hld : ∀ x rest k, LOAD (.rp (enc x ++ rest)) k = k (pk x)) (NE : AV → AV → (AV → Option β) → Option β) (pr : α → α → Bool) (hne : ∀ x y k, NE (pk x) (pk y) k = k (.sc (.bool (!(pr x y)))))
  (l q : List α) (hlq : l.length = q.length) (hlen : l.length ≤ 1048576) (L : Nat → AV → Option β) (KF KT : Option β)
  (hL : ∀ m i, L (m + 1) i = Bn .lss i (.sc (.int .i64 l.length)) fun t14 => Cb t14 (Cg w (At enc l) i fun t19 => LOAD t19 fun t20 => Cg w (At enc q) i fun t23 => LOAD t23 fun t24 => NE t20 t24 fun t25 => Cb t25 KF (Bn .add i (.sc (.int .i64 1)) fun t16 => L m t16)) KT) :
  ∀ (s t pl pq : List α) (m : Nat), l = pl ++ s → q = pq ++ t → pl.length = pq.length → s.length < m → L m (.sc (.int .i64 pl.length)) = if Hk pr s t then KT else KF
 | [], t, pl, pq, m + 1, hl, hq, hpp, hm => by
  rw [List.append_nil] at hl
  subst hl
  rw [hL, Ct, Bl]
  cases t <;> simp [Hk]
 | x :: s, [], pl, pq, m + 1, hl, hq, hpp, hm => by
  have h1 := congrArg List.length hl
  have h2 := congrArg List.length hq
  simp only [List.length_append, List.length_cons, List.length_nil] at h1 h2
  omega
 | x :: s, y :: t, pl, pq, m + 1, hl, hq, hpp, hm => by
  have hlt : pl.length < l.length := by rw [hl]; simp
  rw [hL, Ct, Bl, if_pos (by simpa using hlt)]
  have hel := fun k => La (β := β) hw h0 pl x s k
  rw [← hl] at hel
  have heq := fun k => La (β := β) hw h0 pq y t k
  rw [← hq, ← hpp] at heq
  rw [hel, hld, heq, hld, hne, Bl, Hk]
  cases hpx : pr x y
  ·simp
  ·simp only [Bool.not_true, Bool.false_eq_true, if_false, if_true]
   rw [Dt _ _ (by omega)]
   have ih := Ir enc hw h0 pk LOAD hld NE pr hne l q hlq hlen L KF KT hL s t (pl ++ [x]) (pq ++ [y]) m (by rw [hl]; simp) (by rw [hq]; simp) (by simp [hpp]) (by simpa using hm)
   rw [List.length_append, List.length_singleton] at ih
   exact ih
def Uf (z : Int) : List AV := [.sc (.int .i64 z)]
def Ug (s : ByteArray) : List AV := [.sc (.string s)]
theorem Mb (l : List Int) : Fs l = At Uf l := by
 rw [At, show (Uf) = fun z => [AV.sc (.int .i64 z)] from rfl, N2]
theorem Mk (l : List ByteArray) : Fv l = At Ug l := by
 rw [At, show (Ug) = fun z => [AV.sc (.string z)] from rfl, N2]
theorem ldI (z : Int) (rest : List AV) (H : Ab) (k : AV → Option β) : Bh false 1 (.rp (Uf z ++ rest)) H k = k (.sc (.int .i64 z)) := Jo _ _ _ _
theorem ldS (z : ByteArray) (rest : List AV) (H : Ab) (k : AV → Option β) : Bh false 1 (.rp (Ug z ++ rest)) H k = k (.sc (.string z)) := Jo _ _ _ _
def Xj (x y : Int) : Bool := x == y
def O7 (x y : ByteArray) : Bool := x.toList == y.toList
def Gk {α : Type} (p : α → α → Bool) (a b : List α) : Bool := if a.length = b.length then Hk p a b else false
theorem neI (x y : Int) (k : AV → Option β) : Bn .neq (.sc (.int .i64 x)) (.sc (.int .i64 y)) k = k (.sc (.bool (!(Xj x y)))) := rfl
theorem neS (x y : ByteArray) (k : AV → Option β) : Bn .neq (.sc (.string x)) (.sc (.string y)) k = k (.sc (.bool (!(O7 x y)))) := rfl
theorem Aae (qs : List Nat) (cs ds : List AV) (b : Bool) (h : Jb qs cs ds = some b) (k : AV → Option β) : On .neq qs (.agg cs) (.agg ds) k = k (.sc (.bool (!b))) := by
 simp only [On, h, Option.bind_some]
theorem Az {X : Option β} (e : Bool) {K : Bool → Option β} (h1 : ∀ b, b = e → X = K b) (h2 : ∀ b, b = e → K b = r) : X = r := (h1 e rfl).trans (h2 e rfl)
theorem Bv {c v b : Bool} {y : AV} (hc : c = true) (hv : v = b) (h : K (.sc (.bool b)) = r) : Mr (.sc (.bool c)) (.sc (.bool v)) y (fun t => K t) = r := by
 subst hc
 subst hv
 cases y <;> exact h
theorem Bu {c v b : Bool} {x : AV} (hc : c = false) (hv : v = b) (h : K (.sc (.bool b)) = r) : Mr (.sc (.bool c)) x (.sc (.bool v)) (fun t => K t) = r := by
 subst hc
 subst hv
 cases x <;> exact h
theorem Gm {b c v : Bool} (hb : b = (c && v)) (h : c = true) : v = b := by rw [hb, h]; rfl
theorem Gl {b c v : Bool} (hb : b = (c && v)) (h : c = false) : false = b := by rw [hb, h]; rfl
theorem mOT {b c v : Bool} (hb : b = (c || v)) (h : c = true) : true = b := by rw [hb, h]; rfl
theorem mOF {b c v : Bool} (hb : b = (c || v)) (h : c = false) : v = b := by rw [hb, h]; rfl
theorem Es {ty : Nat} {b b' : Bool} (h : b = b') : Aw Ag E0.tp ty H (.sc (.bool b)) = some (.sc (.bool b')) := by subst h; rfl
theorem Vn {ty : Nat} {f : FuncId} {caps args vs : List AV} {t : AV} {k : KO β} (hh : Cw f = false) (hv : (args ++ caps).mapM (B8 H 8) = some vs) (ht : Bt E0 n ty f vs = some t) :
  (PR n β).call ty (.fn f [] caps) args H k = k (A2 Ag E0.tp H.length ty t).1 (H ++ (A2 Ag E0.tp H.length ty t).2) := by
 show I9 E0 (Cz E0 n) ty f ([] ++ args ++ caps) H k = _
 simp only [I9, T1 hh, Ww hh, List.nil_append, Bool.false_eq_true, if_false, Vv, hv, Option.bind_some]
 have ht : Po E0 (Cz E0 n) ty f vs = some t := ht
 rw [ht]
 rfl
def Cl {α : Type} (p : α → Bool) : List α → Nat → Int
 | [], _ => -1
 | x :: l, i => if p x then i else Cl p l (i + 1)
theorem Rw {α : Type} {tb g w : Nat} {caps : List AV} (enc : α → List AV) (pr : α → Bool) (k : KO β) (hw : ∀ x, (enc x).length = w) (h0 : 0 < w) (hfl : ∀ x, (enc x).all E6 = true) (hh : Cw g = false) (hcv : ∀ H, caps.mapM (B8 H 8) = some caps) (L : Nat → AV → AV → AV → KO β)
  (hL : ∀ m a b c i H, L (m + 1) a b c i H = Bn .lss i c fun t9 => Cb t9 (Cg w a i fun t14 => Bh true w t14 H fun t15 => (PR n β).call tb b [t15] H fun t16 H => Cb t16 (k i H) (Bn .add i (.sc (.int .i64 1)) fun t18 => L m a b c t18 H)) (k (.sc (.int .i64 (-1))) H))
  (l : List α) (hp : ∀ x ∈ l, Bt E0 n tb g (.agg (enc x) :: caps) = some (.sc (.bool (pr x)))) (hlen : l.length ≤ 1048576) (H : Ab) : ∀ (t pre : List α) (m : Nat), l = pre ++ t → t.length < m →
   L m (At enc l) (.fn g [] caps) (.sc (.int .i64 l.length)) (.sc (.int .i64 pre.length)) H = k (.sc (.int .i64 (Cl pr t pre.length))) H
 | [], pre, m + 1, hl, hm => by
  rw [List.append_nil] at hl
  subst hl
  rw [hL, Ct, Bl]
  simp [Cl]
 | x :: t, pre, m + 1, hl, hm => by
  have hlt : pre.length < l.length := by rw [hl]; simp
  rw [hL, Ct, Bl, if_pos (by simpa using hlt)]
  have hel := fun k => La (β := β) hw h0 pre x t k
  rw [← hl] at hel
  rw [hel, Mp w _ _ _ _ (hw x)]
  rw [Vn (vs := .agg (enc x) :: caps) hh (by simp only [List.cons_append, List.nil_append, List.mapM_cons, (E2 _ (hfl x)).now, hcv]; rfl) (hp x (by rw [hl]; simp)), Dk, List.append_nil]
  simp only
  rw [Bl, Cl]
  cases hpx : pr x
  ·simp only [Bool.false_eq_true, if_false]
   rw [Dt _ _ (by omega)]
   have ih := Rw enc pr k hw h0 hfl hh hcv L hL l hp hlen H t (pre ++ [x]) m (by rw [hl]; simp) (by simpa using hm)
   rw [List.length_append, List.length_singleton] at ih
   exact ih
  ·simp only [if_true]
theorem Aiz {i g : Nat} {cs : List AV} (hi : H[i]? = some ⟨cs, true, true⟩) (hfl : cs.all E6 = true) : Vw H (.fn g [] [.ptr i 0]) (.fn g [] [.rp cs]) := fun X => by
 have hg : (H ++ X)[i]? = some ⟨cs, true, true⟩ := Bd hi X
 have hr : An (H ++ X) i 0 (cs.length - 0) = some cs := by
  simp only [An, hg, if_true, Nat.sub_zero, Nat.zero_add, Nat.le_refl, List.drop_zero, List.take_length]
 have hp : B8 (H ++ X) 7 (.ptr i 0) = some (.rp cs) := by
  show ((H ++ X)[i]?).bind (fun b => (An (H ++ X) i 0 (b.cells.length - 0)).bind fun cs => (cs.mapM (B8 (H ++ X) 6)).bind fun vs => some (AV.rp vs)) = _
  rw [hg, Option.bind_some]
  show (An (H ++ X) i 0 (cs.length - 0)).bind _ = _
  rw [hr, Option.bind_some, Qo hfl]
  rfl
 show (([] : List AV).mapM (B8 (H ++ X) 7)).bind (fun us => ([AV.ptr i 0].mapM (B8 (H ++ X) 7)).bind fun cs => some (AV.fn g us cs)) = _
 simp only [List.mapM_cons, List.mapM_nil, hp, Option.pure_def, Option.bind_eq_bind, Option.bind_some]
theorem AjU {v : Value} (hv : Jf v = true) (h : ∀ i, i = H.length → (H ++ [⟨[.sc v], true, true⟩])[i]? = some ⟨[.sc v], true, true⟩ → KH (.ptr i 0) (H ++ [⟨[.sc v], true, true⟩]) = r) : Sf (.sc v) H (fun x H => KH x H) = r := by
 have e : Bz (.sc v) = some [.sc v] := by simp only [Bz, A4, hv, if_true]
 show (Bz (.sc v)).bind _ = r
 rw [e]
 exact h _ rfl (by rw [List.getElem?_append_right (Nat.le_refl _), Nat.sub_self]; rfl)
theorem Ait (s : ByteArray) (i : Nat) (b : UInt8) (k : AV → Option β) (h : s.data.toList[i]? = some b) : Afq (.sc (.string s)) (.sc (.int .i64 i)) k = k (.sc (.int .u8 b.toNat)) := by
 have hlt : i < s.size := by
  have := (List.getElem?_eq_some_iff.1 h).1
  simpa using this
 have hb : s[i]'hlt = b := by
  have := (List.getElem?_eq_some_iff.1 h).2
  simp only [Array.getElem_toList] at this
  exact this
 simp only [Afq, Xi, asS, Option.bind_some, Int.toNat_natCast]
 rw [dif_pos ⟨by omega, hlt⟩, hb]
theorem nT {b : Bool} (h : b = false) : (!b) = true := by rw [h]; rfl
theorem nF {b : Bool} (h : b = true) : (!b) = false := by rw [h]; rfl
end
end
section
open Go
def Gj (x lo hi : Int) : Bool := decide (lo ≤ x) && decide (x ≤ hi)
theorem P4 (n : Nat) (ty : Nat) (x : Int) (lo : Int) (hi : Int) : Bt E0 (n + 1) ty 187 [.sc (.int .i64 x), .sc (.int .i64 lo), .sc (.int .i64 hi)] = some (.sc (.bool (Gj x lo hi))) := by
 rw [Ax, Agm, f187]
 try simp only [B6, Cp, Bj, Bb, Bo, Bg, Cx, Dl, D7, A9, Br, B4, B7, Cs, Ca, Eg, C5, Cn, Cj, B3, Dz, De, Ef, Dq]
 refine Bk (v := .sc (.bool (decide (x ≥ lo)))) (fun k => rfl) ?_
 apply Az ((decide (x ≥ lo)) && (decide (x ≤ hi)))
 ·intro b1 q1
  refine Ae ((decide (x ≥ lo))) (fun h1 => ?_) (fun h1 => ?_)
  ·refine Al h1 ?_
   refine Al h1 ?_
   refine Al h1 ?_
   refine Bk (v := .sc (.bool (decide (x ≤ hi)))) (fun k => rfl) ?_
   refine Bv h1 (Gm q1 h1) ?_
   exact rfl
  ·refine Am h1 ?_
   refine Am h1 ?_
   refine Am h1 ?_
   refine Bu h1 (Gl q1 h1) ?_
   exact rfl
 intro b1 q1
 exact Es (by first | (simp_all [Gj]; done) | (rw [Bool.eq_iff_iff]; simp [Gj] at *; omega))
theorem Kx (n : Nat) (ty : Nat) (x : Int) (lo : Int) (hi : Int) : Bt E0 (n + 1) ty 149 [.sc (.int .i64 x), .sc (.int .i64 lo), .sc (.int .i64 hi)] = some (.sc (.bool (Gj x lo hi))) := by
 rw [Ax, Agh, f149]
 try simp only [B6, Cp, Bj, Bb, Bo, Bg, Cx, Dl, D7, A9, Br, B4, B7, Cs, Ca, Eg, C5, Cn, Cj, B3, Dz, De, Ef, Dq]
 refine Bk (v := .sc (.bool (decide (x ≥ lo)))) (fun k => rfl) ?_
 apply Az ((decide (x ≥ lo)) && (decide (x ≤ hi)))
 ·intro b1 q1
  refine Ae ((decide (x ≥ lo))) (fun h1 => ?_) (fun h1 => ?_)
  ·refine Al h1 ?_
   refine Al h1 ?_
   refine Al h1 ?_
   refine Bk (v := .sc (.bool (decide (x ≤ hi)))) (fun k => rfl) ?_
   refine Bv h1 (Gm q1 h1) ?_
   exact rfl
  ·refine Am h1 ?_
   refine Am h1 ?_
   refine Am h1 ?_
   refine Bu h1 (Gl q1 h1) ?_
   exact rfl
 intro b1 q1
 exact Es (by first | (simp_all [Gj]; done) | (rw [Bool.eq_iff_iff]; simp [Gj] at *; omega))
theorem Uv (n : Nat) (ty : Nat) (s t : ByteArray) : Bt E0 (n + 1) ty 232 [As s, As t] = some (.sc (.bool (s.toList == t.toList))) := by
 rw [Ax, AgB, f232]
 have e : ∀ u : ByteArray, Cf [] 1 (.ro u.size (Bm u)) = some (Bm u) := by
  intro u
  simp [Cf, Fi]
 have eb : ∀ u : ByteArray, (Bm u).mapM Ke = some u.data.toList := fun u => H7 _
 simp only [Dq, Bg, Oq, e, eb, Option.bind_some, Bn, S4]
 simp
theorem K8 (n : Nat) (ty : Nat) (s t : ByteArray) : Bt E0 (n + 1) ty 183 [As s, As t] = some (.sc (.bool (s.toList == t.toList))) := by
 rw [Ax, Agl, f183]
 have e : ∀ u : ByteArray, Cf [] 1 (.ro u.size (Bm u)) = some (Bm u) := by
  intro u
  simp [Cf, Fi]
 have eb : ∀ u : ByteArray, (Bm u).mapM Ke = some u.data.toList := fun u => H7 _
 simp only [Dq, Bg, Oq, e, eb, Option.bind_some, Bn, S4]
 simp
end
end Go.Proofs.YtjiahcekpohehaaGreatDoor.Abs
