/- What the proof needs, part 3: a sound evaluator over trees, the program's functions on it, and what they come to. -/
import Derived.Test.YtjiahcekpohehaaMb
import Derived.Test.YtjiahcekpohehaaChecked
import Derived.Laws.BitsLemmas
set_option linter.unusedVariables false
set_option linter.unusedSimpArgs false
set_option maxRecDepth 100000
namespace Go.Proofs.Ytjiahcekpohehaa.Abs
section
open Go
variable {β : Type}
noncomputable def J9 (p : Pr β) (n : Nat)  (k : KO β) : Nat → AV → AV → AV → KO β
 | 0, _, _, _, _, _ => none
 | m + 1, t0, t2, t3, t6, H => p.bin .gtr t6 (.sc (.int .i64 0)) fun t57 =>
   p.cond t57
   (p.both
   (p.load true 3 t3 H fun t61 =>
   p.call 73 (.fn 145 [] []) [t0] H fun t63 H =>
   p.call 194 (.fn 144 [] []) [t61, t63] H fun t64 H =>
   p.extr t64 0 fun t65 =>
   p.extr t64 1 fun t66 =>
   p.store 3 t3 t65 H fun H =>
   p.bin .sub t6 (.sc (.int .i64 1)) fun t59 =>
   J9 p n  k m t0 t2 t3 t59 H)
   (p.call 73 (.fn 145 [] []) [t0] H fun t63 H =>
   p.load true 3 t3 H fun t61 =>
   p.call 194 (.fn 144 [] []) [t61, t63] H fun t64 H =>
   p.extr t64 0 fun t65 =>
   p.extr t64 1 fun t66 =>
   p.store 3 t3 t65 H fun H =>
   p.bin .sub t6 (.sc (.int .i64 1)) fun t59 =>
   J9 p n  k m t0 t2 t3 t59 H))
   (p.load true 3 t3 H fun t67 =>
   p.store 3 t2 t67 H fun H =>
   p.load true 3 t2 H fun r0 =>
   k r0 H)
noncomputable def Ar (p : Pr β) (n : Nat)  (k : KO β) : Nat → AV → AV → AV → KO β
 | 0, _, _, _, _, _ => none
 | m + 1, t0, t2, t3, t4, H => p.bin .gtr t4 (.sc (.int .i64 0)) fun t17 =>
   p.cond t17
   (p.load true 3 t3 H fun t21 =>
   p.call 191 (.fn 142 [] []) [t21] H fun t22 H =>
   p.extr t22 0 fun t23 =>
   p.extr t22 1 fun t24 =>
   p.extr t22 2 fun t25 =>
   p.store 3 t3 t23 H fun H =>
   p.fadr 1 t3 fun t26 =>
   p.load false 1 t26 H fun t27 =>
   p.len t27 fun t28 =>
   p.bin .gtr t28 (.sc (.int .i64 0)) fun t29 =>
   p.guard t29 true H (fun k' => k' t0 H) fun t31 H =>
   p.guard t29 true H (fun k' => p.call 4 (.fn 28 [] []) [t31, (.sc (.int .i64 3))] H fun t' H => k' t' H) fun t32 H =>
   p.pick t29 t32 (.sc (.bool false)) fun t33 =>
   p.cond t33
   (p.fadr 1 t3 fun t34 =>
   p.fadr 1 t3 fun t37 =>
   p.load false 1 t37 H fun t38 =>
   p.len t38 fun t39 =>
   p.both
   (p.load false 1 t34 H fun t35 =>
   p.both
   (p.call 3 (.fn 29 [] []) [t0, t39] H fun t40 H =>
   p.iadr 6 t35 t40 fun t41 =>
   p.load true 6 t41 H fun t42 =>
   p.new [(.sc (.int .i64 0)), (.sc (.string ⟨#[]⟩)), .nl, (.sc (.int .i64 0)), (.sc (.bool false)), (.sc (.int .i64 0))] H fun t5 H =>
   p.store 6 t5 t42 H fun H =>
   p.fadr 0 t5 fun t48 =>
   p.both
   (p.load true 3 t3 H fun t44 =>
   p.both
   (p.fill [(.sc (.int .i64 0)), (.sc (.int .i64 0)), (.sc (.int .i64 0))] [(0, 1, (.sc (.int .i64 4))), (1, 1, (.sc (.int .i64 5))), (2, 1, (.sc (.int .i64 7)))] fun ct46 => p.newSl 3 1 ct46 true H fun t46 H =>
   p.both
   (p.call 3 (.fn 32 [] []) [t0, t46] H fun t47 H =>
   p.load false 1 t48 H fun t49 =>
   p.call 191 (.fn 143 [] []) [t44, t47, t49] H fun t50 H =>
   p.extr t50 0 fun t51 =>
   p.extr t50 1 fun t52 =>
   p.extr t50 2 fun t53 =>
   p.store 3 t3 t51 H fun H =>
   p.bin .sub t4 (.sc (.int .i64 1)) fun t19 =>
   Ar p n  k m t0 t2 t3 t19 H)
   (p.load false 1 t48 H fun t49 =>
   p.call 3 (.fn 32 [] []) [t0, t46] H fun t47 H =>
   p.call 191 (.fn 143 [] []) [t44, t47, t49] H fun t50 H =>
   p.extr t50 0 fun t51 =>
   p.extr t50 1 fun t52 =>
   p.extr t50 2 fun t53 =>
   p.store 3 t3 t51 H fun H =>
   p.bin .sub t4 (.sc (.int .i64 1)) fun t19 =>
   Ar p n  k m t0 t2 t3 t19 H))
   (p.load false 1 t48 H fun t49 =>
   p.fill [(.sc (.int .i64 0)), (.sc (.int .i64 0)), (.sc (.int .i64 0))] [(0, 1, (.sc (.int .i64 4))), (1, 1, (.sc (.int .i64 5))), (2, 1, (.sc (.int .i64 7)))] fun ct46 => p.newSl 3 1 ct46 true H fun t46 H =>
   p.call 3 (.fn 32 [] []) [t0, t46] H fun t47 H =>
   p.call 191 (.fn 143 [] []) [t44, t47, t49] H fun t50 H =>
   p.extr t50 0 fun t51 =>
   p.extr t50 1 fun t52 =>
   p.extr t50 2 fun t53 =>
   p.store 3 t3 t51 H fun H =>
   p.bin .sub t4 (.sc (.int .i64 1)) fun t19 =>
   Ar p n  k m t0 t2 t3 t19 H))
   (p.both
   (p.fill [(.sc (.int .i64 0)), (.sc (.int .i64 0)), (.sc (.int .i64 0))] [(0, 1, (.sc (.int .i64 4))), (1, 1, (.sc (.int .i64 5))), (2, 1, (.sc (.int .i64 7)))] fun ct46 => p.newSl 3 1 ct46 true H fun t46 H =>
   p.both
   (p.load true 3 t3 H fun t44 =>
   p.both
   (p.call 3 (.fn 32 [] []) [t0, t46] H fun t47 H =>
   p.load false 1 t48 H fun t49 =>
   p.call 191 (.fn 143 [] []) [t44, t47, t49] H fun t50 H =>
   p.extr t50 0 fun t51 =>
   p.extr t50 1 fun t52 =>
   p.extr t50 2 fun t53 =>
   p.store 3 t3 t51 H fun H =>
   p.bin .sub t4 (.sc (.int .i64 1)) fun t19 =>
   Ar p n  k m t0 t2 t3 t19 H)
   (p.load false 1 t48 H fun t49 =>
   p.call 3 (.fn 32 [] []) [t0, t46] H fun t47 H =>
   p.call 191 (.fn 143 [] []) [t44, t47, t49] H fun t50 H =>
   p.extr t50 0 fun t51 =>
   p.extr t50 1 fun t52 =>
   p.extr t50 2 fun t53 =>
   p.store 3 t3 t51 H fun H =>
   p.bin .sub t4 (.sc (.int .i64 1)) fun t19 =>
   Ar p n  k m t0 t2 t3 t19 H))
   (p.both
   (p.call 3 (.fn 32 [] []) [t0, t46] H fun t47 H =>
   p.load true 3 t3 H fun t44 =>
   p.load false 1 t48 H fun t49 =>
   p.call 191 (.fn 143 [] []) [t44, t47, t49] H fun t50 H =>
   p.extr t50 0 fun t51 =>
   p.extr t50 1 fun t52 =>
   p.extr t50 2 fun t53 =>
   p.store 3 t3 t51 H fun H =>
   p.bin .sub t4 (.sc (.int .i64 1)) fun t19 =>
   Ar p n  k m t0 t2 t3 t19 H)
   (p.load false 1 t48 H fun t49 =>
   p.both
   (p.load true 3 t3 H fun t44 =>
   p.call 3 (.fn 32 [] []) [t0, t46] H fun t47 H =>
   p.call 191 (.fn 143 [] []) [t44, t47, t49] H fun t50 H =>
   p.extr t50 0 fun t51 =>
   p.extr t50 1 fun t52 =>
   p.extr t50 2 fun t53 =>
   p.store 3 t3 t51 H fun H =>
   p.bin .sub t4 (.sc (.int .i64 1)) fun t19 =>
   Ar p n  k m t0 t2 t3 t19 H)
   (p.call 3 (.fn 32 [] []) [t0, t46] H fun t47 H =>
   p.load true 3 t3 H fun t44 =>
   p.call 191 (.fn 143 [] []) [t44, t47, t49] H fun t50 H =>
   p.extr t50 0 fun t51 =>
   p.extr t50 1 fun t52 =>
   p.extr t50 2 fun t53 =>
   p.store 3 t3 t51 H fun H =>
   p.bin .sub t4 (.sc (.int .i64 1)) fun t19 =>
   Ar p n  k m t0 t2 t3 t19 H))))
   (p.load false 1 t48 H fun t49 =>
   p.both
   (p.load true 3 t3 H fun t44 =>
   p.fill [(.sc (.int .i64 0)), (.sc (.int .i64 0)), (.sc (.int .i64 0))] [(0, 1, (.sc (.int .i64 4))), (1, 1, (.sc (.int .i64 5))), (2, 1, (.sc (.int .i64 7)))] fun ct46 => p.newSl 3 1 ct46 true H fun t46 H =>
   p.call 3 (.fn 32 [] []) [t0, t46] H fun t47 H =>
   p.call 191 (.fn 143 [] []) [t44, t47, t49] H fun t50 H =>
   p.extr t50 0 fun t51 =>
   p.extr t50 1 fun t52 =>
   p.extr t50 2 fun t53 =>
   p.store 3 t3 t51 H fun H =>
   p.bin .sub t4 (.sc (.int .i64 1)) fun t19 =>
   Ar p n  k m t0 t2 t3 t19 H)
   (p.fill [(.sc (.int .i64 0)), (.sc (.int .i64 0)), (.sc (.int .i64 0))] [(0, 1, (.sc (.int .i64 4))), (1, 1, (.sc (.int .i64 5))), (2, 1, (.sc (.int .i64 7)))] fun ct46 => p.newSl 3 1 ct46 true H fun t46 H =>
   p.both
   (p.load true 3 t3 H fun t44 =>
   p.call 3 (.fn 32 [] []) [t0, t46] H fun t47 H =>
   p.call 191 (.fn 143 [] []) [t44, t47, t49] H fun t50 H =>
   p.extr t50 0 fun t51 =>
   p.extr t50 1 fun t52 =>
   p.extr t50 2 fun t53 =>
   p.store 3 t3 t51 H fun H =>
   p.bin .sub t4 (.sc (.int .i64 1)) fun t19 =>
   Ar p n  k m t0 t2 t3 t19 H)
   (p.call 3 (.fn 32 [] []) [t0, t46] H fun t47 H =>
   p.load true 3 t3 H fun t44 =>
   p.call 191 (.fn 143 [] []) [t44, t47, t49] H fun t50 H =>
   p.extr t50 0 fun t51 =>
   p.extr t50 1 fun t52 =>
   p.extr t50 2 fun t53 =>
   p.store 3 t3 t51 H fun H =>
   p.bin .sub t4 (.sc (.int .i64 1)) fun t19 =>
   Ar p n  k m t0 t2 t3 t19 H)))))
   (p.new [(.sc (.int .i64 0)), (.sc (.string ⟨#[]⟩)), .nl, (.sc (.int .i64 0)), (.sc (.bool false)), (.sc (.int .i64 0))] H fun t5 H =>
   p.call 3 (.fn 29 [] []) [t0, t39] H fun t40 H =>
   p.iadr 6 t35 t40 fun t41 =>
   p.load true 6 t41 H fun t42 =>
   p.store 6 t5 t42 H fun H =>
   p.fadr 0 t5 fun t48 =>
   p.both
   (p.load true 3 t3 H fun t44 =>
   p.both
   (p.fill [(.sc (.int .i64 0)), (.sc (.int .i64 0)), (.sc (.int .i64 0))] [(0, 1, (.sc (.int .i64 4))), (1, 1, (.sc (.int .i64 5))), (2, 1, (.sc (.int .i64 7)))] fun ct46 => p.newSl 3 1 ct46 true H fun t46 H =>
   p.both
   (p.call 3 (.fn 32 [] []) [t0, t46] H fun t47 H =>
   p.load false 1 t48 H fun t49 =>
   p.call 191 (.fn 143 [] []) [t44, t47, t49] H fun t50 H =>
   p.extr t50 0 fun t51 =>
   p.extr t50 1 fun t52 =>
   p.extr t50 2 fun t53 =>
   p.store 3 t3 t51 H fun H =>
   p.bin .sub t4 (.sc (.int .i64 1)) fun t19 =>
   Ar p n  k m t0 t2 t3 t19 H)
   (p.load false 1 t48 H fun t49 =>
   p.call 3 (.fn 32 [] []) [t0, t46] H fun t47 H =>
   p.call 191 (.fn 143 [] []) [t44, t47, t49] H fun t50 H =>
   p.extr t50 0 fun t51 =>
   p.extr t50 1 fun t52 =>
   p.extr t50 2 fun t53 =>
   p.store 3 t3 t51 H fun H =>
   p.bin .sub t4 (.sc (.int .i64 1)) fun t19 =>
   Ar p n  k m t0 t2 t3 t19 H))
   (p.load false 1 t48 H fun t49 =>
   p.fill [(.sc (.int .i64 0)), (.sc (.int .i64 0)), (.sc (.int .i64 0))] [(0, 1, (.sc (.int .i64 4))), (1, 1, (.sc (.int .i64 5))), (2, 1, (.sc (.int .i64 7)))] fun ct46 => p.newSl 3 1 ct46 true H fun t46 H =>
   p.call 3 (.fn 32 [] []) [t0, t46] H fun t47 H =>
   p.call 191 (.fn 143 [] []) [t44, t47, t49] H fun t50 H =>
   p.extr t50 0 fun t51 =>
   p.extr t50 1 fun t52 =>
   p.extr t50 2 fun t53 =>
   p.store 3 t3 t51 H fun H =>
   p.bin .sub t4 (.sc (.int .i64 1)) fun t19 =>
   Ar p n  k m t0 t2 t3 t19 H))
   (p.both
   (p.fill [(.sc (.int .i64 0)), (.sc (.int .i64 0)), (.sc (.int .i64 0))] [(0, 1, (.sc (.int .i64 4))), (1, 1, (.sc (.int .i64 5))), (2, 1, (.sc (.int .i64 7)))] fun ct46 => p.newSl 3 1 ct46 true H fun t46 H =>
   p.both
   (p.load true 3 t3 H fun t44 =>
   p.both
   (p.call 3 (.fn 32 [] []) [t0, t46] H fun t47 H =>
   p.load false 1 t48 H fun t49 =>
   p.call 191 (.fn 143 [] []) [t44, t47, t49] H fun t50 H =>
   p.extr t50 0 fun t51 =>
   p.extr t50 1 fun t52 =>
   p.extr t50 2 fun t53 =>
   p.store 3 t3 t51 H fun H =>
   p.bin .sub t4 (.sc (.int .i64 1)) fun t19 =>
   Ar p n  k m t0 t2 t3 t19 H)
   (p.load false 1 t48 H fun t49 =>
   p.call 3 (.fn 32 [] []) [t0, t46] H fun t47 H =>
   p.call 191 (.fn 143 [] []) [t44, t47, t49] H fun t50 H =>
   p.extr t50 0 fun t51 =>
   p.extr t50 1 fun t52 =>
   p.extr t50 2 fun t53 =>
   p.store 3 t3 t51 H fun H =>
   p.bin .sub t4 (.sc (.int .i64 1)) fun t19 =>
   Ar p n  k m t0 t2 t3 t19 H))
   (p.both
   (p.call 3 (.fn 32 [] []) [t0, t46] H fun t47 H =>
   p.load true 3 t3 H fun t44 =>
   p.load false 1 t48 H fun t49 =>
   p.call 191 (.fn 143 [] []) [t44, t47, t49] H fun t50 H =>
   p.extr t50 0 fun t51 =>
   p.extr t50 1 fun t52 =>
   p.extr t50 2 fun t53 =>
   p.store 3 t3 t51 H fun H =>
   p.bin .sub t4 (.sc (.int .i64 1)) fun t19 =>
   Ar p n  k m t0 t2 t3 t19 H)
   (p.load false 1 t48 H fun t49 =>
   p.both
   (p.load true 3 t3 H fun t44 =>
   p.call 3 (.fn 32 [] []) [t0, t46] H fun t47 H =>
   p.call 191 (.fn 143 [] []) [t44, t47, t49] H fun t50 H =>
   p.extr t50 0 fun t51 =>
   p.extr t50 1 fun t52 =>
   p.extr t50 2 fun t53 =>
   p.store 3 t3 t51 H fun H =>
   p.bin .sub t4 (.sc (.int .i64 1)) fun t19 =>
   Ar p n  k m t0 t2 t3 t19 H)
   (p.call 3 (.fn 32 [] []) [t0, t46] H fun t47 H =>
   p.load true 3 t3 H fun t44 =>
   p.call 191 (.fn 143 [] []) [t44, t47, t49] H fun t50 H =>
   p.extr t50 0 fun t51 =>
   p.extr t50 1 fun t52 =>
   p.extr t50 2 fun t53 =>
   p.store 3 t3 t51 H fun H =>
   p.bin .sub t4 (.sc (.int .i64 1)) fun t19 =>
   Ar p n  k m t0 t2 t3 t19 H))))
   (p.load false 1 t48 H fun t49 =>
   p.both
   (p.load true 3 t3 H fun t44 =>
   p.fill [(.sc (.int .i64 0)), (.sc (.int .i64 0)), (.sc (.int .i64 0))] [(0, 1, (.sc (.int .i64 4))), (1, 1, (.sc (.int .i64 5))), (2, 1, (.sc (.int .i64 7)))] fun ct46 => p.newSl 3 1 ct46 true H fun t46 H =>
   p.call 3 (.fn 32 [] []) [t0, t46] H fun t47 H =>
   p.call 191 (.fn 143 [] []) [t44, t47, t49] H fun t50 H =>
   p.extr t50 0 fun t51 =>
   p.extr t50 1 fun t52 =>
   p.extr t50 2 fun t53 =>
   p.store 3 t3 t51 H fun H =>
   p.bin .sub t4 (.sc (.int .i64 1)) fun t19 =>
   Ar p n  k m t0 t2 t3 t19 H)
   (p.fill [(.sc (.int .i64 0)), (.sc (.int .i64 0)), (.sc (.int .i64 0))] [(0, 1, (.sc (.int .i64 4))), (1, 1, (.sc (.int .i64 5))), (2, 1, (.sc (.int .i64 7)))] fun ct46 => p.newSl 3 1 ct46 true H fun t46 H =>
   p.both
   (p.load true 3 t3 H fun t44 =>
   p.call 3 (.fn 32 [] []) [t0, t46] H fun t47 H =>
   p.call 191 (.fn 143 [] []) [t44, t47, t49] H fun t50 H =>
   p.extr t50 0 fun t51 =>
   p.extr t50 1 fun t52 =>
   p.extr t50 2 fun t53 =>
   p.store 3 t3 t51 H fun H =>
   p.bin .sub t4 (.sc (.int .i64 1)) fun t19 =>
   Ar p n  k m t0 t2 t3 t19 H)
   (p.call 3 (.fn 32 [] []) [t0, t46] H fun t47 H =>
   p.load true 3 t3 H fun t44 =>
   p.call 191 (.fn 143 [] []) [t44, t47, t49] H fun t50 H =>
   p.extr t50 0 fun t51 =>
   p.extr t50 1 fun t52 =>
   p.extr t50 2 fun t53 =>
   p.store 3 t3 t51 H fun H =>
   p.bin .sub t4 (.sc (.int .i64 1)) fun t19 =>
   Ar p n  k m t0 t2 t3 t19 H))))))
   (p.both
   (p.call 3 (.fn 29 [] []) [t0, t39] H fun t40 H =>
   p.load false 1 t34 H fun t35 =>
   p.iadr 6 t35 t40 fun t41 =>
   p.load true 6 t41 H fun t42 =>
   p.new [(.sc (.int .i64 0)), (.sc (.string ⟨#[]⟩)), .nl, (.sc (.int .i64 0)), (.sc (.bool false)), (.sc (.int .i64 0))] H fun t5 H =>
   p.store 6 t5 t42 H fun H =>
   p.fadr 0 t5 fun t48 =>
   p.both
   (p.load true 3 t3 H fun t44 =>
   p.both
   (p.fill [(.sc (.int .i64 0)), (.sc (.int .i64 0)), (.sc (.int .i64 0))] [(0, 1, (.sc (.int .i64 4))), (1, 1, (.sc (.int .i64 5))), (2, 1, (.sc (.int .i64 7)))] fun ct46 => p.newSl 3 1 ct46 true H fun t46 H =>
   p.both
   (p.call 3 (.fn 32 [] []) [t0, t46] H fun t47 H =>
   p.load false 1 t48 H fun t49 =>
   p.call 191 (.fn 143 [] []) [t44, t47, t49] H fun t50 H =>
   p.extr t50 0 fun t51 =>
   p.extr t50 1 fun t52 =>
   p.extr t50 2 fun t53 =>
   p.store 3 t3 t51 H fun H =>
   p.bin .sub t4 (.sc (.int .i64 1)) fun t19 =>
   Ar p n  k m t0 t2 t3 t19 H)
   (p.load false 1 t48 H fun t49 =>
   p.call 3 (.fn 32 [] []) [t0, t46] H fun t47 H =>
   p.call 191 (.fn 143 [] []) [t44, t47, t49] H fun t50 H =>
   p.extr t50 0 fun t51 =>
   p.extr t50 1 fun t52 =>
   p.extr t50 2 fun t53 =>
   p.store 3 t3 t51 H fun H =>
   p.bin .sub t4 (.sc (.int .i64 1)) fun t19 =>
   Ar p n  k m t0 t2 t3 t19 H))
   (p.load false 1 t48 H fun t49 =>
   p.fill [(.sc (.int .i64 0)), (.sc (.int .i64 0)), (.sc (.int .i64 0))] [(0, 1, (.sc (.int .i64 4))), (1, 1, (.sc (.int .i64 5))), (2, 1, (.sc (.int .i64 7)))] fun ct46 => p.newSl 3 1 ct46 true H fun t46 H =>
   p.call 3 (.fn 32 [] []) [t0, t46] H fun t47 H =>
   p.call 191 (.fn 143 [] []) [t44, t47, t49] H fun t50 H =>
   p.extr t50 0 fun t51 =>
   p.extr t50 1 fun t52 =>
   p.extr t50 2 fun t53 =>
   p.store 3 t3 t51 H fun H =>
   p.bin .sub t4 (.sc (.int .i64 1)) fun t19 =>
   Ar p n  k m t0 t2 t3 t19 H))
   (p.both
   (p.fill [(.sc (.int .i64 0)), (.sc (.int .i64 0)), (.sc (.int .i64 0))] [(0, 1, (.sc (.int .i64 4))), (1, 1, (.sc (.int .i64 5))), (2, 1, (.sc (.int .i64 7)))] fun ct46 => p.newSl 3 1 ct46 true H fun t46 H =>
   p.both
   (p.load true 3 t3 H fun t44 =>
   p.both
   (p.call 3 (.fn 32 [] []) [t0, t46] H fun t47 H =>
   p.load false 1 t48 H fun t49 =>
   p.call 191 (.fn 143 [] []) [t44, t47, t49] H fun t50 H =>
   p.extr t50 0 fun t51 =>
   p.extr t50 1 fun t52 =>
   p.extr t50 2 fun t53 =>
   p.store 3 t3 t51 H fun H =>
   p.bin .sub t4 (.sc (.int .i64 1)) fun t19 =>
   Ar p n  k m t0 t2 t3 t19 H)
   (p.load false 1 t48 H fun t49 =>
   p.call 3 (.fn 32 [] []) [t0, t46] H fun t47 H =>
   p.call 191 (.fn 143 [] []) [t44, t47, t49] H fun t50 H =>
   p.extr t50 0 fun t51 =>
   p.extr t50 1 fun t52 =>
   p.extr t50 2 fun t53 =>
   p.store 3 t3 t51 H fun H =>
   p.bin .sub t4 (.sc (.int .i64 1)) fun t19 =>
   Ar p n  k m t0 t2 t3 t19 H))
   (p.both
   (p.call 3 (.fn 32 [] []) [t0, t46] H fun t47 H =>
   p.load true 3 t3 H fun t44 =>
   p.load false 1 t48 H fun t49 =>
   p.call 191 (.fn 143 [] []) [t44, t47, t49] H fun t50 H =>
   p.extr t50 0 fun t51 =>
   p.extr t50 1 fun t52 =>
   p.extr t50 2 fun t53 =>
   p.store 3 t3 t51 H fun H =>
   p.bin .sub t4 (.sc (.int .i64 1)) fun t19 =>
   Ar p n  k m t0 t2 t3 t19 H)
   (p.load false 1 t48 H fun t49 =>
   p.both
   (p.load true 3 t3 H fun t44 =>
   p.call 3 (.fn 32 [] []) [t0, t46] H fun t47 H =>
   p.call 191 (.fn 143 [] []) [t44, t47, t49] H fun t50 H =>
   p.extr t50 0 fun t51 =>
   p.extr t50 1 fun t52 =>
   p.extr t50 2 fun t53 =>
   p.store 3 t3 t51 H fun H =>
   p.bin .sub t4 (.sc (.int .i64 1)) fun t19 =>
   Ar p n  k m t0 t2 t3 t19 H)
   (p.call 3 (.fn 32 [] []) [t0, t46] H fun t47 H =>
   p.load true 3 t3 H fun t44 =>
   p.call 191 (.fn 143 [] []) [t44, t47, t49] H fun t50 H =>
   p.extr t50 0 fun t51 =>
   p.extr t50 1 fun t52 =>
   p.extr t50 2 fun t53 =>
   p.store 3 t3 t51 H fun H =>
   p.bin .sub t4 (.sc (.int .i64 1)) fun t19 =>
   Ar p n  k m t0 t2 t3 t19 H))))
   (p.load false 1 t48 H fun t49 =>
   p.both
   (p.load true 3 t3 H fun t44 =>
   p.fill [(.sc (.int .i64 0)), (.sc (.int .i64 0)), (.sc (.int .i64 0))] [(0, 1, (.sc (.int .i64 4))), (1, 1, (.sc (.int .i64 5))), (2, 1, (.sc (.int .i64 7)))] fun ct46 => p.newSl 3 1 ct46 true H fun t46 H =>
   p.call 3 (.fn 32 [] []) [t0, t46] H fun t47 H =>
   p.call 191 (.fn 143 [] []) [t44, t47, t49] H fun t50 H =>
   p.extr t50 0 fun t51 =>
   p.extr t50 1 fun t52 =>
   p.extr t50 2 fun t53 =>
   p.store 3 t3 t51 H fun H =>
   p.bin .sub t4 (.sc (.int .i64 1)) fun t19 =>
   Ar p n  k m t0 t2 t3 t19 H)
   (p.fill [(.sc (.int .i64 0)), (.sc (.int .i64 0)), (.sc (.int .i64 0))] [(0, 1, (.sc (.int .i64 4))), (1, 1, (.sc (.int .i64 5))), (2, 1, (.sc (.int .i64 7)))] fun ct46 => p.newSl 3 1 ct46 true H fun t46 H =>
   p.both
   (p.load true 3 t3 H fun t44 =>
   p.call 3 (.fn 32 [] []) [t0, t46] H fun t47 H =>
   p.call 191 (.fn 143 [] []) [t44, t47, t49] H fun t50 H =>
   p.extr t50 0 fun t51 =>
   p.extr t50 1 fun t52 =>
   p.extr t50 2 fun t53 =>
   p.store 3 t3 t51 H fun H =>
   p.bin .sub t4 (.sc (.int .i64 1)) fun t19 =>
   Ar p n  k m t0 t2 t3 t19 H)
   (p.call 3 (.fn 32 [] []) [t0, t46] H fun t47 H =>
   p.load true 3 t3 H fun t44 =>
   p.call 191 (.fn 143 [] []) [t44, t47, t49] H fun t50 H =>
   p.extr t50 0 fun t51 =>
   p.extr t50 1 fun t52 =>
   p.extr t50 2 fun t53 =>
   p.store 3 t3 t51 H fun H =>
   p.bin .sub t4 (.sc (.int .i64 1)) fun t19 =>
   Ar p n  k m t0 t2 t3 t19 H)))))
   (p.new [(.sc (.int .i64 0)), (.sc (.string ⟨#[]⟩)), .nl, (.sc (.int .i64 0)), (.sc (.bool false)), (.sc (.int .i64 0))] H fun t5 H =>
   p.both
   (p.load false 1 t34 H fun t35 =>
   p.call 3 (.fn 29 [] []) [t0, t39] H fun t40 H =>
   p.iadr 6 t35 t40 fun t41 =>
   p.load true 6 t41 H fun t42 =>
   p.store 6 t5 t42 H fun H =>
   p.fadr 0 t5 fun t48 =>
   p.both
   (p.load true 3 t3 H fun t44 =>
   p.both
   (p.fill [(.sc (.int .i64 0)), (.sc (.int .i64 0)), (.sc (.int .i64 0))] [(0, 1, (.sc (.int .i64 4))), (1, 1, (.sc (.int .i64 5))), (2, 1, (.sc (.int .i64 7)))] fun ct46 => p.newSl 3 1 ct46 true H fun t46 H =>
   p.both
   (p.call 3 (.fn 32 [] []) [t0, t46] H fun t47 H =>
   p.load false 1 t48 H fun t49 =>
   p.call 191 (.fn 143 [] []) [t44, t47, t49] H fun t50 H =>
   p.extr t50 0 fun t51 =>
   p.extr t50 1 fun t52 =>
   p.extr t50 2 fun t53 =>
   p.store 3 t3 t51 H fun H =>
   p.bin .sub t4 (.sc (.int .i64 1)) fun t19 =>
   Ar p n  k m t0 t2 t3 t19 H)
   (p.load false 1 t48 H fun t49 =>
   p.call 3 (.fn 32 [] []) [t0, t46] H fun t47 H =>
   p.call 191 (.fn 143 [] []) [t44, t47, t49] H fun t50 H =>
   p.extr t50 0 fun t51 =>
   p.extr t50 1 fun t52 =>
   p.extr t50 2 fun t53 =>
   p.store 3 t3 t51 H fun H =>
   p.bin .sub t4 (.sc (.int .i64 1)) fun t19 =>
   Ar p n  k m t0 t2 t3 t19 H))
   (p.load false 1 t48 H fun t49 =>
   p.fill [(.sc (.int .i64 0)), (.sc (.int .i64 0)), (.sc (.int .i64 0))] [(0, 1, (.sc (.int .i64 4))), (1, 1, (.sc (.int .i64 5))), (2, 1, (.sc (.int .i64 7)))] fun ct46 => p.newSl 3 1 ct46 true H fun t46 H =>
   p.call 3 (.fn 32 [] []) [t0, t46] H fun t47 H =>
   p.call 191 (.fn 143 [] []) [t44, t47, t49] H fun t50 H =>
   p.extr t50 0 fun t51 =>
   p.extr t50 1 fun t52 =>
   p.extr t50 2 fun t53 =>
   p.store 3 t3 t51 H fun H =>
   p.bin .sub t4 (.sc (.int .i64 1)) fun t19 =>
   Ar p n  k m t0 t2 t3 t19 H))
   (p.both
   (p.fill [(.sc (.int .i64 0)), (.sc (.int .i64 0)), (.sc (.int .i64 0))] [(0, 1, (.sc (.int .i64 4))), (1, 1, (.sc (.int .i64 5))), (2, 1, (.sc (.int .i64 7)))] fun ct46 => p.newSl 3 1 ct46 true H fun t46 H =>
   p.both
   (p.load true 3 t3 H fun t44 =>
   p.both
   (p.call 3 (.fn 32 [] []) [t0, t46] H fun t47 H =>
   p.load false 1 t48 H fun t49 =>
   p.call 191 (.fn 143 [] []) [t44, t47, t49] H fun t50 H =>
   p.extr t50 0 fun t51 =>
   p.extr t50 1 fun t52 =>
   p.extr t50 2 fun t53 =>
   p.store 3 t3 t51 H fun H =>
   p.bin .sub t4 (.sc (.int .i64 1)) fun t19 =>
   Ar p n  k m t0 t2 t3 t19 H)
   (p.load false 1 t48 H fun t49 =>
   p.call 3 (.fn 32 [] []) [t0, t46] H fun t47 H =>
   p.call 191 (.fn 143 [] []) [t44, t47, t49] H fun t50 H =>
   p.extr t50 0 fun t51 =>
   p.extr t50 1 fun t52 =>
   p.extr t50 2 fun t53 =>
   p.store 3 t3 t51 H fun H =>
   p.bin .sub t4 (.sc (.int .i64 1)) fun t19 =>
   Ar p n  k m t0 t2 t3 t19 H))
   (p.both
   (p.call 3 (.fn 32 [] []) [t0, t46] H fun t47 H =>
   p.load true 3 t3 H fun t44 =>
   p.load false 1 t48 H fun t49 =>
   p.call 191 (.fn 143 [] []) [t44, t47, t49] H fun t50 H =>
   p.extr t50 0 fun t51 =>
   p.extr t50 1 fun t52 =>
   p.extr t50 2 fun t53 =>
   p.store 3 t3 t51 H fun H =>
   p.bin .sub t4 (.sc (.int .i64 1)) fun t19 =>
   Ar p n  k m t0 t2 t3 t19 H)
   (p.load false 1 t48 H fun t49 =>
   p.both
   (p.load true 3 t3 H fun t44 =>
   p.call 3 (.fn 32 [] []) [t0, t46] H fun t47 H =>
   p.call 191 (.fn 143 [] []) [t44, t47, t49] H fun t50 H =>
   p.extr t50 0 fun t51 =>
   p.extr t50 1 fun t52 =>
   p.extr t50 2 fun t53 =>
   p.store 3 t3 t51 H fun H =>
   p.bin .sub t4 (.sc (.int .i64 1)) fun t19 =>
   Ar p n  k m t0 t2 t3 t19 H)
   (p.call 3 (.fn 32 [] []) [t0, t46] H fun t47 H =>
   p.load true 3 t3 H fun t44 =>
   p.call 191 (.fn 143 [] []) [t44, t47, t49] H fun t50 H =>
   p.extr t50 0 fun t51 =>
   p.extr t50 1 fun t52 =>
   p.extr t50 2 fun t53 =>
   p.store 3 t3 t51 H fun H =>
   p.bin .sub t4 (.sc (.int .i64 1)) fun t19 =>
   Ar p n  k m t0 t2 t3 t19 H))))
   (p.load false 1 t48 H fun t49 =>
   p.both
   (p.load true 3 t3 H fun t44 =>
   p.fill [(.sc (.int .i64 0)), (.sc (.int .i64 0)), (.sc (.int .i64 0))] [(0, 1, (.sc (.int .i64 4))), (1, 1, (.sc (.int .i64 5))), (2, 1, (.sc (.int .i64 7)))] fun ct46 => p.newSl 3 1 ct46 true H fun t46 H =>
   p.call 3 (.fn 32 [] []) [t0, t46] H fun t47 H =>
   p.call 191 (.fn 143 [] []) [t44, t47, t49] H fun t50 H =>
   p.extr t50 0 fun t51 =>
   p.extr t50 1 fun t52 =>
   p.extr t50 2 fun t53 =>
   p.store 3 t3 t51 H fun H =>
   p.bin .sub t4 (.sc (.int .i64 1)) fun t19 =>
   Ar p n  k m t0 t2 t3 t19 H)
   (p.fill [(.sc (.int .i64 0)), (.sc (.int .i64 0)), (.sc (.int .i64 0))] [(0, 1, (.sc (.int .i64 4))), (1, 1, (.sc (.int .i64 5))), (2, 1, (.sc (.int .i64 7)))] fun ct46 => p.newSl 3 1 ct46 true H fun t46 H =>
   p.both
   (p.load true 3 t3 H fun t44 =>
   p.call 3 (.fn 32 [] []) [t0, t46] H fun t47 H =>
   p.call 191 (.fn 143 [] []) [t44, t47, t49] H fun t50 H =>
   p.extr t50 0 fun t51 =>
   p.extr t50 1 fun t52 =>
   p.extr t50 2 fun t53 =>
   p.store 3 t3 t51 H fun H =>
   p.bin .sub t4 (.sc (.int .i64 1)) fun t19 =>
   Ar p n  k m t0 t2 t3 t19 H)
   (p.call 3 (.fn 32 [] []) [t0, t46] H fun t47 H =>
   p.load true 3 t3 H fun t44 =>
   p.call 191 (.fn 143 [] []) [t44, t47, t49] H fun t50 H =>
   p.extr t50 0 fun t51 =>
   p.extr t50 1 fun t52 =>
   p.extr t50 2 fun t53 =>
   p.store 3 t3 t51 H fun H =>
   p.bin .sub t4 (.sc (.int .i64 1)) fun t19 =>
   Ar p n  k m t0 t2 t3 t19 H)))))
   (p.call 3 (.fn 29 [] []) [t0, t39] H fun t40 H =>
   p.load false 1 t34 H fun t35 =>
   p.iadr 6 t35 t40 fun t41 =>
   p.load true 6 t41 H fun t42 =>
   p.store 6 t5 t42 H fun H =>
   p.fadr 0 t5 fun t48 =>
   p.both
   (p.load true 3 t3 H fun t44 =>
   p.both
   (p.fill [(.sc (.int .i64 0)), (.sc (.int .i64 0)), (.sc (.int .i64 0))] [(0, 1, (.sc (.int .i64 4))), (1, 1, (.sc (.int .i64 5))), (2, 1, (.sc (.int .i64 7)))] fun ct46 => p.newSl 3 1 ct46 true H fun t46 H =>
   p.both
   (p.call 3 (.fn 32 [] []) [t0, t46] H fun t47 H =>
   p.load false 1 t48 H fun t49 =>
   p.call 191 (.fn 143 [] []) [t44, t47, t49] H fun t50 H =>
   p.extr t50 0 fun t51 =>
   p.extr t50 1 fun t52 =>
   p.extr t50 2 fun t53 =>
   p.store 3 t3 t51 H fun H =>
   p.bin .sub t4 (.sc (.int .i64 1)) fun t19 =>
   Ar p n  k m t0 t2 t3 t19 H)
   (p.load false 1 t48 H fun t49 =>
   p.call 3 (.fn 32 [] []) [t0, t46] H fun t47 H =>
   p.call 191 (.fn 143 [] []) [t44, t47, t49] H fun t50 H =>
   p.extr t50 0 fun t51 =>
   p.extr t50 1 fun t52 =>
   p.extr t50 2 fun t53 =>
   p.store 3 t3 t51 H fun H =>
   p.bin .sub t4 (.sc (.int .i64 1)) fun t19 =>
   Ar p n  k m t0 t2 t3 t19 H))
   (p.load false 1 t48 H fun t49 =>
   p.fill [(.sc (.int .i64 0)), (.sc (.int .i64 0)), (.sc (.int .i64 0))] [(0, 1, (.sc (.int .i64 4))), (1, 1, (.sc (.int .i64 5))), (2, 1, (.sc (.int .i64 7)))] fun ct46 => p.newSl 3 1 ct46 true H fun t46 H =>
   p.call 3 (.fn 32 [] []) [t0, t46] H fun t47 H =>
   p.call 191 (.fn 143 [] []) [t44, t47, t49] H fun t50 H =>
   p.extr t50 0 fun t51 =>
   p.extr t50 1 fun t52 =>
   p.extr t50 2 fun t53 =>
   p.store 3 t3 t51 H fun H =>
   p.bin .sub t4 (.sc (.int .i64 1)) fun t19 =>
   Ar p n  k m t0 t2 t3 t19 H))
   (p.both
   (p.fill [(.sc (.int .i64 0)), (.sc (.int .i64 0)), (.sc (.int .i64 0))] [(0, 1, (.sc (.int .i64 4))), (1, 1, (.sc (.int .i64 5))), (2, 1, (.sc (.int .i64 7)))] fun ct46 => p.newSl 3 1 ct46 true H fun t46 H =>
   p.both
   (p.load true 3 t3 H fun t44 =>
   p.both
   (p.call 3 (.fn 32 [] []) [t0, t46] H fun t47 H =>
   p.load false 1 t48 H fun t49 =>
   p.call 191 (.fn 143 [] []) [t44, t47, t49] H fun t50 H =>
   p.extr t50 0 fun t51 =>
   p.extr t50 1 fun t52 =>
   p.extr t50 2 fun t53 =>
   p.store 3 t3 t51 H fun H =>
   p.bin .sub t4 (.sc (.int .i64 1)) fun t19 =>
   Ar p n  k m t0 t2 t3 t19 H)
   (p.load false 1 t48 H fun t49 =>
   p.call 3 (.fn 32 [] []) [t0, t46] H fun t47 H =>
   p.call 191 (.fn 143 [] []) [t44, t47, t49] H fun t50 H =>
   p.extr t50 0 fun t51 =>
   p.extr t50 1 fun t52 =>
   p.extr t50 2 fun t53 =>
   p.store 3 t3 t51 H fun H =>
   p.bin .sub t4 (.sc (.int .i64 1)) fun t19 =>
   Ar p n  k m t0 t2 t3 t19 H))
   (p.both
   (p.call 3 (.fn 32 [] []) [t0, t46] H fun t47 H =>
   p.load true 3 t3 H fun t44 =>
   p.load false 1 t48 H fun t49 =>
   p.call 191 (.fn 143 [] []) [t44, t47, t49] H fun t50 H =>
   p.extr t50 0 fun t51 =>
   p.extr t50 1 fun t52 =>
   p.extr t50 2 fun t53 =>
   p.store 3 t3 t51 H fun H =>
   p.bin .sub t4 (.sc (.int .i64 1)) fun t19 =>
   Ar p n  k m t0 t2 t3 t19 H)
   (p.load false 1 t48 H fun t49 =>
   p.both
   (p.load true 3 t3 H fun t44 =>
   p.call 3 (.fn 32 [] []) [t0, t46] H fun t47 H =>
   p.call 191 (.fn 143 [] []) [t44, t47, t49] H fun t50 H =>
   p.extr t50 0 fun t51 =>
   p.extr t50 1 fun t52 =>
   p.extr t50 2 fun t53 =>
   p.store 3 t3 t51 H fun H =>
   p.bin .sub t4 (.sc (.int .i64 1)) fun t19 =>
   Ar p n  k m t0 t2 t3 t19 H)
   (p.call 3 (.fn 32 [] []) [t0, t46] H fun t47 H =>
   p.load true 3 t3 H fun t44 =>
   p.call 191 (.fn 143 [] []) [t44, t47, t49] H fun t50 H =>
   p.extr t50 0 fun t51 =>
   p.extr t50 1 fun t52 =>
   p.extr t50 2 fun t53 =>
   p.store 3 t3 t51 H fun H =>
   p.bin .sub t4 (.sc (.int .i64 1)) fun t19 =>
   Ar p n  k m t0 t2 t3 t19 H))))
   (p.load false 1 t48 H fun t49 =>
   p.both
   (p.load true 3 t3 H fun t44 =>
   p.fill [(.sc (.int .i64 0)), (.sc (.int .i64 0)), (.sc (.int .i64 0))] [(0, 1, (.sc (.int .i64 4))), (1, 1, (.sc (.int .i64 5))), (2, 1, (.sc (.int .i64 7)))] fun ct46 => p.newSl 3 1 ct46 true H fun t46 H =>
   p.call 3 (.fn 32 [] []) [t0, t46] H fun t47 H =>
   p.call 191 (.fn 143 [] []) [t44, t47, t49] H fun t50 H =>
   p.extr t50 0 fun t51 =>
   p.extr t50 1 fun t52 =>
   p.extr t50 2 fun t53 =>
   p.store 3 t3 t51 H fun H =>
   p.bin .sub t4 (.sc (.int .i64 1)) fun t19 =>
   Ar p n  k m t0 t2 t3 t19 H)
   (p.fill [(.sc (.int .i64 0)), (.sc (.int .i64 0)), (.sc (.int .i64 0))] [(0, 1, (.sc (.int .i64 4))), (1, 1, (.sc (.int .i64 5))), (2, 1, (.sc (.int .i64 7)))] fun ct46 => p.newSl 3 1 ct46 true H fun t46 H =>
   p.both
   (p.load true 3 t3 H fun t44 =>
   p.call 3 (.fn 32 [] []) [t0, t46] H fun t47 H =>
   p.call 191 (.fn 143 [] []) [t44, t47, t49] H fun t50 H =>
   p.extr t50 0 fun t51 =>
   p.extr t50 1 fun t52 =>
   p.extr t50 2 fun t53 =>
   p.store 3 t3 t51 H fun H =>
   p.bin .sub t4 (.sc (.int .i64 1)) fun t19 =>
   Ar p n  k m t0 t2 t3 t19 H)
   (p.call 3 (.fn 32 [] []) [t0, t46] H fun t47 H =>
   p.load true 3 t3 H fun t44 =>
   p.call 191 (.fn 143 [] []) [t44, t47, t49] H fun t50 H =>
   p.extr t50 0 fun t51 =>
   p.extr t50 1 fun t52 =>
   p.extr t50 2 fun t53 =>
   p.store 3 t3 t51 H fun H =>
   p.bin .sub t4 (.sc (.int .i64 1)) fun t19 =>
   Ar p n  k m t0 t2 t3 t19 H))))))))
   (p.bin .sub t4 (.sc (.int .i64 1)) fun t19 =>
   Ar p n  k m t0 t2 t3 t19 H))
   (p.call 3 (.fn 29 [] []) [t0, (.sc (.int .i64 4))] H fun t55 H =>
   J9 p n  k n t0 t2 t3 t55 H)
noncomputable def f106 (p : Pr β) (n : Nat) (a0 : AV) (H : Ac) (k : KO β) : Option β :=
 p.new [(.sc (.int .i64 0)), .nl, .nl] H fun t2 H =>
 p.fill [(.sc (.int .i64 0)), (.sc (.int .i64 0)), (.sc (.int .i64 0)), (.sc (.int .i64 0)), (.sc (.int .i64 0))] [(0, 1, (.sc (.int .i64 0))), (1, 1, (.sc (.int .i64 0))), (2, 1, (.sc (.int .i64 3))), (3, 1, (.sc (.int .i64 65534))), (4, 1, (.sc (.int .i64 65535)))] fun ct8 => p.newSl 5 1 ct8 true H fun t8 H =>
 p.call 3 (.fn 32 [] []) [a0, t8] H fun t9 H =>
 p.fill [(.sc (.int .i64 0)), .nl, .nl] [(0, 1, t9)] fun ct10 =>
 p.new [(.sc (.int .i64 0)), .nl, .nl] H fun t3 H =>
 p.store 3 t3 (.agg ct10) H fun H =>
 p.call 79 (.fn 141 [] []) [a0, (.sc (.int .i64 6))] H fun t12 H =>
 p.fadr 2 t3 fun t13 =>
 p.store 1 t13 t12 H fun H =>
 p.call 3 (.fn 29 [] []) [a0, (.sc (.int .i64 6))] H fun t15 H =>
 Ar p n  k n a0 t2 t3 t15 H
noncomputable def Aax (p : Pr β) (n : Nat)  (k : KO β) (m : Nat) (tm : Tm) (H : Ac) : Option β :=
 Dz 68 (fun tm H k => An At p Zf 68 n (cd Y4 [1, 1, 1, 1, 0, 1, 0, 0]) tm H k) (E5 2 (Em (fun tm H => An At p Zf 68 n (cd Y4 [1, 1, 1, 1, 1]) tm H (C9 At p fi106.results k)) (C9 At p fi106.results k))) m tm H
noncomputable def Aaj (p : Pr β) (n : Nat)  (k : KO β) (m : Nat) (tm : Tm) (H : Ac) : Option β :=
 Dz 68 (fun tm H k => An At p Zf 68 n (cd Y4 [1, 1, 1, 0, 1, 0, 0]) tm H k) (E5 0 (Em (fun tm H => An At p Zf 68 n (cd Y4 [1, 1, 1, 1]) tm H (C9 At p fi106.results k)) (C9 At p fi106.results k))) m tm H
theorem Ru (p : Pr β) (n : Nat)  (k : KO β) (m1 : Nat) : ∀ (t : Nat → AV) (H : Ac), Aax p n  k m1 (tf 68 0 t) H = J9 p n  k m1 (t 0) (t 2) (t 3) (t 6) H := by
 induction m1 with
 | zero => intros; rfl
 | succ m1 ih =>
  intro t H
  refine Eq.trans (Cd (nt := 68) (m := m1) (g := fun t H => J9 p n  k m1 (t 0) (t 2) (t 3) (t 6) H) ih rfl) ?_
  kernel_rfl
theorem Ux (p : Pr β) (n : Nat)  (k : KO β) (m0 : Nat) (t : Nat → AV) (H : Ac) : An At p Zf 68 n (cd Y4 [1, 1, 1, 0, 1, 0, 0]) (tf 68 0 t) H (Em (fun tm H => Ar p n  k m0 (gt tm 0) (gt tm 2) (gt tm 3) (gt tm 4) H) (E5 0 (Em (fun tm H => An At p Zf 68 n (cd Y4 [1, 1, 1, 1]) tm H (C9 At p fi106.results k)) (C9 At p fi106.results k)))) =
 p.bin .gtr (t 4) (.sc (.int .i64 0)) fun t17 =>
 p.cond t17
 (p.load true 3 (t 3) H fun t21 =>
 p.call 191 (.fn 142 [] []) [t21] H fun t22 H =>
 p.extr t22 0 fun t23 =>
 p.extr t22 1 fun t24 =>
 p.extr t22 2 fun t25 =>
 p.store 3 (t 3) t23 H fun H =>
 p.fadr 1 (t 3) fun t26 =>
 p.load false 1 t26 H fun t27 =>
 p.len t27 fun t28 =>
 p.bin .gtr t28 (.sc (.int .i64 0)) fun t29 =>
 p.guard t29 true H (fun k' => k' (t 0) H) fun t31 H =>
 p.guard t29 true H (fun k' => p.call 4 (.fn 28 [] []) [t31, (.sc (.int .i64 3))] H fun t' H => k' t' H) fun t32 H =>
 p.pick t29 t32 (.sc (.bool false)) fun t33 =>
 p.cond t33
 (p.fadr 1 (t 3) fun t34 =>
 p.fadr 1 (t 3) fun t37 =>
 p.load false 1 t37 H fun t38 =>
 p.len t38 fun t39 =>
 p.both
 (p.load false 1 t34 H fun t35 =>
 p.both
 (p.call 3 (.fn 29 [] []) [(t 0), t39] H fun t40 H =>
 p.iadr 6 t35 t40 fun t41 =>
 p.load true 6 t41 H fun t42 =>
 p.new [(.sc (.int .i64 0)), (.sc (.string ⟨#[]⟩)), .nl, (.sc (.int .i64 0)), (.sc (.bool false)), (.sc (.int .i64 0))] H fun t5 H =>
 p.store 6 t5 t42 H fun H =>
 p.fadr 0 t5 fun t48 =>
 p.both
 (p.load true 3 (t 3) H fun t44 =>
 p.both
 (p.fill [(.sc (.int .i64 0)), (.sc (.int .i64 0)), (.sc (.int .i64 0))] [(0, 1, (.sc (.int .i64 4))), (1, 1, (.sc (.int .i64 5))), (2, 1, (.sc (.int .i64 7)))] fun ct46 => p.newSl 3 1 ct46 true H fun t46 H =>
 p.both
 (p.call 3 (.fn 32 [] []) [(t 0), t46] H fun t47 H =>
 p.load false 1 t48 H fun t49 =>
 p.call 191 (.fn 143 [] []) [t44, t47, t49] H fun t50 H =>
 p.extr t50 0 fun t51 =>
 p.extr t50 1 fun t52 =>
 p.extr t50 2 fun t53 =>
 p.store 3 (t 3) t51 H fun H =>
 p.bin .sub (t 4) (.sc (.int .i64 1)) fun t19 =>
 Ar p n  k m0 (t 0) (t 2) (t 3) t19 H)
 (p.load false 1 t48 H fun t49 =>
 p.call 3 (.fn 32 [] []) [(t 0), t46] H fun t47 H =>
 p.call 191 (.fn 143 [] []) [t44, t47, t49] H fun t50 H =>
 p.extr t50 0 fun t51 =>
 p.extr t50 1 fun t52 =>
 p.extr t50 2 fun t53 =>
 p.store 3 (t 3) t51 H fun H =>
 p.bin .sub (t 4) (.sc (.int .i64 1)) fun t19 =>
 Ar p n  k m0 (t 0) (t 2) (t 3) t19 H))
 (p.load false 1 t48 H fun t49 =>
 p.fill [(.sc (.int .i64 0)), (.sc (.int .i64 0)), (.sc (.int .i64 0))] [(0, 1, (.sc (.int .i64 4))), (1, 1, (.sc (.int .i64 5))), (2, 1, (.sc (.int .i64 7)))] fun ct46 => p.newSl 3 1 ct46 true H fun t46 H =>
 p.call 3 (.fn 32 [] []) [(t 0), t46] H fun t47 H =>
 p.call 191 (.fn 143 [] []) [t44, t47, t49] H fun t50 H =>
 p.extr t50 0 fun t51 =>
 p.extr t50 1 fun t52 =>
 p.extr t50 2 fun t53 =>
 p.store 3 (t 3) t51 H fun H =>
 p.bin .sub (t 4) (.sc (.int .i64 1)) fun t19 =>
 Ar p n  k m0 (t 0) (t 2) (t 3) t19 H))
 (p.both
 (p.fill [(.sc (.int .i64 0)), (.sc (.int .i64 0)), (.sc (.int .i64 0))] [(0, 1, (.sc (.int .i64 4))), (1, 1, (.sc (.int .i64 5))), (2, 1, (.sc (.int .i64 7)))] fun ct46 => p.newSl 3 1 ct46 true H fun t46 H =>
 p.both
 (p.load true 3 (t 3) H fun t44 =>
 p.both
 (p.call 3 (.fn 32 [] []) [(t 0), t46] H fun t47 H =>
 p.load false 1 t48 H fun t49 =>
 p.call 191 (.fn 143 [] []) [t44, t47, t49] H fun t50 H =>
 p.extr t50 0 fun t51 =>
 p.extr t50 1 fun t52 =>
 p.extr t50 2 fun t53 =>
 p.store 3 (t 3) t51 H fun H =>
 p.bin .sub (t 4) (.sc (.int .i64 1)) fun t19 =>
 Ar p n  k m0 (t 0) (t 2) (t 3) t19 H)
 (p.load false 1 t48 H fun t49 =>
 p.call 3 (.fn 32 [] []) [(t 0), t46] H fun t47 H =>
 p.call 191 (.fn 143 [] []) [t44, t47, t49] H fun t50 H =>
 p.extr t50 0 fun t51 =>
 p.extr t50 1 fun t52 =>
 p.extr t50 2 fun t53 =>
 p.store 3 (t 3) t51 H fun H =>
 p.bin .sub (t 4) (.sc (.int .i64 1)) fun t19 =>
 Ar p n  k m0 (t 0) (t 2) (t 3) t19 H))
 (p.both
 (p.call 3 (.fn 32 [] []) [(t 0), t46] H fun t47 H =>
 p.load true 3 (t 3) H fun t44 =>
 p.load false 1 t48 H fun t49 =>
 p.call 191 (.fn 143 [] []) [t44, t47, t49] H fun t50 H =>
 p.extr t50 0 fun t51 =>
 p.extr t50 1 fun t52 =>
 p.extr t50 2 fun t53 =>
 p.store 3 (t 3) t51 H fun H =>
 p.bin .sub (t 4) (.sc (.int .i64 1)) fun t19 =>
 Ar p n  k m0 (t 0) (t 2) (t 3) t19 H)
 (p.load false 1 t48 H fun t49 =>
 p.both
 (p.load true 3 (t 3) H fun t44 =>
 p.call 3 (.fn 32 [] []) [(t 0), t46] H fun t47 H =>
 p.call 191 (.fn 143 [] []) [t44, t47, t49] H fun t50 H =>
 p.extr t50 0 fun t51 =>
 p.extr t50 1 fun t52 =>
 p.extr t50 2 fun t53 =>
 p.store 3 (t 3) t51 H fun H =>
 p.bin .sub (t 4) (.sc (.int .i64 1)) fun t19 =>
 Ar p n  k m0 (t 0) (t 2) (t 3) t19 H)
 (p.call 3 (.fn 32 [] []) [(t 0), t46] H fun t47 H =>
 p.load true 3 (t 3) H fun t44 =>
 p.call 191 (.fn 143 [] []) [t44, t47, t49] H fun t50 H =>
 p.extr t50 0 fun t51 =>
 p.extr t50 1 fun t52 =>
 p.extr t50 2 fun t53 =>
 p.store 3 (t 3) t51 H fun H =>
 p.bin .sub (t 4) (.sc (.int .i64 1)) fun t19 =>
 Ar p n  k m0 (t 0) (t 2) (t 3) t19 H))))
 (p.load false 1 t48 H fun t49 =>
 p.both
 (p.load true 3 (t 3) H fun t44 =>
 p.fill [(.sc (.int .i64 0)), (.sc (.int .i64 0)), (.sc (.int .i64 0))] [(0, 1, (.sc (.int .i64 4))), (1, 1, (.sc (.int .i64 5))), (2, 1, (.sc (.int .i64 7)))] fun ct46 => p.newSl 3 1 ct46 true H fun t46 H =>
 p.call 3 (.fn 32 [] []) [(t 0), t46] H fun t47 H =>
 p.call 191 (.fn 143 [] []) [t44, t47, t49] H fun t50 H =>
 p.extr t50 0 fun t51 =>
 p.extr t50 1 fun t52 =>
 p.extr t50 2 fun t53 =>
 p.store 3 (t 3) t51 H fun H =>
 p.bin .sub (t 4) (.sc (.int .i64 1)) fun t19 =>
 Ar p n  k m0 (t 0) (t 2) (t 3) t19 H)
 (p.fill [(.sc (.int .i64 0)), (.sc (.int .i64 0)), (.sc (.int .i64 0))] [(0, 1, (.sc (.int .i64 4))), (1, 1, (.sc (.int .i64 5))), (2, 1, (.sc (.int .i64 7)))] fun ct46 => p.newSl 3 1 ct46 true H fun t46 H =>
 p.both
 (p.load true 3 (t 3) H fun t44 =>
 p.call 3 (.fn 32 [] []) [(t 0), t46] H fun t47 H =>
 p.call 191 (.fn 143 [] []) [t44, t47, t49] H fun t50 H =>
 p.extr t50 0 fun t51 =>
 p.extr t50 1 fun t52 =>
 p.extr t50 2 fun t53 =>
 p.store 3 (t 3) t51 H fun H =>
 p.bin .sub (t 4) (.sc (.int .i64 1)) fun t19 =>
 Ar p n  k m0 (t 0) (t 2) (t 3) t19 H)
 (p.call 3 (.fn 32 [] []) [(t 0), t46] H fun t47 H =>
 p.load true 3 (t 3) H fun t44 =>
 p.call 191 (.fn 143 [] []) [t44, t47, t49] H fun t50 H =>
 p.extr t50 0 fun t51 =>
 p.extr t50 1 fun t52 =>
 p.extr t50 2 fun t53 =>
 p.store 3 (t 3) t51 H fun H =>
 p.bin .sub (t 4) (.sc (.int .i64 1)) fun t19 =>
 Ar p n  k m0 (t 0) (t 2) (t 3) t19 H)))))
 (p.new [(.sc (.int .i64 0)), (.sc (.string ⟨#[]⟩)), .nl, (.sc (.int .i64 0)), (.sc (.bool false)), (.sc (.int .i64 0))] H fun t5 H =>
 p.call 3 (.fn 29 [] []) [(t 0), t39] H fun t40 H =>
 p.iadr 6 t35 t40 fun t41 =>
 p.load true 6 t41 H fun t42 =>
 p.store 6 t5 t42 H fun H =>
 p.fadr 0 t5 fun t48 =>
 p.both
 (p.load true 3 (t 3) H fun t44 =>
 p.both
 (p.fill [(.sc (.int .i64 0)), (.sc (.int .i64 0)), (.sc (.int .i64 0))] [(0, 1, (.sc (.int .i64 4))), (1, 1, (.sc (.int .i64 5))), (2, 1, (.sc (.int .i64 7)))] fun ct46 => p.newSl 3 1 ct46 true H fun t46 H =>
 p.both
 (p.call 3 (.fn 32 [] []) [(t 0), t46] H fun t47 H =>
 p.load false 1 t48 H fun t49 =>
 p.call 191 (.fn 143 [] []) [t44, t47, t49] H fun t50 H =>
 p.extr t50 0 fun t51 =>
 p.extr t50 1 fun t52 =>
 p.extr t50 2 fun t53 =>
 p.store 3 (t 3) t51 H fun H =>
 p.bin .sub (t 4) (.sc (.int .i64 1)) fun t19 =>
 Ar p n  k m0 (t 0) (t 2) (t 3) t19 H)
 (p.load false 1 t48 H fun t49 =>
 p.call 3 (.fn 32 [] []) [(t 0), t46] H fun t47 H =>
 p.call 191 (.fn 143 [] []) [t44, t47, t49] H fun t50 H =>
 p.extr t50 0 fun t51 =>
 p.extr t50 1 fun t52 =>
 p.extr t50 2 fun t53 =>
 p.store 3 (t 3) t51 H fun H =>
 p.bin .sub (t 4) (.sc (.int .i64 1)) fun t19 =>
 Ar p n  k m0 (t 0) (t 2) (t 3) t19 H))
 (p.load false 1 t48 H fun t49 =>
 p.fill [(.sc (.int .i64 0)), (.sc (.int .i64 0)), (.sc (.int .i64 0))] [(0, 1, (.sc (.int .i64 4))), (1, 1, (.sc (.int .i64 5))), (2, 1, (.sc (.int .i64 7)))] fun ct46 => p.newSl 3 1 ct46 true H fun t46 H =>
 p.call 3 (.fn 32 [] []) [(t 0), t46] H fun t47 H =>
 p.call 191 (.fn 143 [] []) [t44, t47, t49] H fun t50 H =>
 p.extr t50 0 fun t51 =>
 p.extr t50 1 fun t52 =>
 p.extr t50 2 fun t53 =>
 p.store 3 (t 3) t51 H fun H =>
 p.bin .sub (t 4) (.sc (.int .i64 1)) fun t19 =>
 Ar p n  k m0 (t 0) (t 2) (t 3) t19 H))
 (p.both
 (p.fill [(.sc (.int .i64 0)), (.sc (.int .i64 0)), (.sc (.int .i64 0))] [(0, 1, (.sc (.int .i64 4))), (1, 1, (.sc (.int .i64 5))), (2, 1, (.sc (.int .i64 7)))] fun ct46 => p.newSl 3 1 ct46 true H fun t46 H =>
 p.both
 (p.load true 3 (t 3) H fun t44 =>
 p.both
 (p.call 3 (.fn 32 [] []) [(t 0), t46] H fun t47 H =>
 p.load false 1 t48 H fun t49 =>
 p.call 191 (.fn 143 [] []) [t44, t47, t49] H fun t50 H =>
 p.extr t50 0 fun t51 =>
 p.extr t50 1 fun t52 =>
 p.extr t50 2 fun t53 =>
 p.store 3 (t 3) t51 H fun H =>
 p.bin .sub (t 4) (.sc (.int .i64 1)) fun t19 =>
 Ar p n  k m0 (t 0) (t 2) (t 3) t19 H)
 (p.load false 1 t48 H fun t49 =>
 p.call 3 (.fn 32 [] []) [(t 0), t46] H fun t47 H =>
 p.call 191 (.fn 143 [] []) [t44, t47, t49] H fun t50 H =>
 p.extr t50 0 fun t51 =>
 p.extr t50 1 fun t52 =>
 p.extr t50 2 fun t53 =>
 p.store 3 (t 3) t51 H fun H =>
 p.bin .sub (t 4) (.sc (.int .i64 1)) fun t19 =>
 Ar p n  k m0 (t 0) (t 2) (t 3) t19 H))
 (p.both
 (p.call 3 (.fn 32 [] []) [(t 0), t46] H fun t47 H =>
 p.load true 3 (t 3) H fun t44 =>
 p.load false 1 t48 H fun t49 =>
 p.call 191 (.fn 143 [] []) [t44, t47, t49] H fun t50 H =>
 p.extr t50 0 fun t51 =>
 p.extr t50 1 fun t52 =>
 p.extr t50 2 fun t53 =>
 p.store 3 (t 3) t51 H fun H =>
 p.bin .sub (t 4) (.sc (.int .i64 1)) fun t19 =>
 Ar p n  k m0 (t 0) (t 2) (t 3) t19 H)
 (p.load false 1 t48 H fun t49 =>
 p.both
 (p.load true 3 (t 3) H fun t44 =>
 p.call 3 (.fn 32 [] []) [(t 0), t46] H fun t47 H =>
 p.call 191 (.fn 143 [] []) [t44, t47, t49] H fun t50 H =>
 p.extr t50 0 fun t51 =>
 p.extr t50 1 fun t52 =>
 p.extr t50 2 fun t53 =>
 p.store 3 (t 3) t51 H fun H =>
 p.bin .sub (t 4) (.sc (.int .i64 1)) fun t19 =>
 Ar p n  k m0 (t 0) (t 2) (t 3) t19 H)
 (p.call 3 (.fn 32 [] []) [(t 0), t46] H fun t47 H =>
 p.load true 3 (t 3) H fun t44 =>
 p.call 191 (.fn 143 [] []) [t44, t47, t49] H fun t50 H =>
 p.extr t50 0 fun t51 =>
 p.extr t50 1 fun t52 =>
 p.extr t50 2 fun t53 =>
 p.store 3 (t 3) t51 H fun H =>
 p.bin .sub (t 4) (.sc (.int .i64 1)) fun t19 =>
 Ar p n  k m0 (t 0) (t 2) (t 3) t19 H))))
 (p.load false 1 t48 H fun t49 =>
 p.both
 (p.load true 3 (t 3) H fun t44 =>
 p.fill [(.sc (.int .i64 0)), (.sc (.int .i64 0)), (.sc (.int .i64 0))] [(0, 1, (.sc (.int .i64 4))), (1, 1, (.sc (.int .i64 5))), (2, 1, (.sc (.int .i64 7)))] fun ct46 => p.newSl 3 1 ct46 true H fun t46 H =>
 p.call 3 (.fn 32 [] []) [(t 0), t46] H fun t47 H =>
 p.call 191 (.fn 143 [] []) [t44, t47, t49] H fun t50 H =>
 p.extr t50 0 fun t51 =>
 p.extr t50 1 fun t52 =>
 p.extr t50 2 fun t53 =>
 p.store 3 (t 3) t51 H fun H =>
 p.bin .sub (t 4) (.sc (.int .i64 1)) fun t19 =>
 Ar p n  k m0 (t 0) (t 2) (t 3) t19 H)
 (p.fill [(.sc (.int .i64 0)), (.sc (.int .i64 0)), (.sc (.int .i64 0))] [(0, 1, (.sc (.int .i64 4))), (1, 1, (.sc (.int .i64 5))), (2, 1, (.sc (.int .i64 7)))] fun ct46 => p.newSl 3 1 ct46 true H fun t46 H =>
 p.both
 (p.load true 3 (t 3) H fun t44 =>
 p.call 3 (.fn 32 [] []) [(t 0), t46] H fun t47 H =>
 p.call 191 (.fn 143 [] []) [t44, t47, t49] H fun t50 H =>
 p.extr t50 0 fun t51 =>
 p.extr t50 1 fun t52 =>
 p.extr t50 2 fun t53 =>
 p.store 3 (t 3) t51 H fun H =>
 p.bin .sub (t 4) (.sc (.int .i64 1)) fun t19 =>
 Ar p n  k m0 (t 0) (t 2) (t 3) t19 H)
 (p.call 3 (.fn 32 [] []) [(t 0), t46] H fun t47 H =>
 p.load true 3 (t 3) H fun t44 =>
 p.call 191 (.fn 143 [] []) [t44, t47, t49] H fun t50 H =>
 p.extr t50 0 fun t51 =>
 p.extr t50 1 fun t52 =>
 p.extr t50 2 fun t53 =>
 p.store 3 (t 3) t51 H fun H =>
 p.bin .sub (t 4) (.sc (.int .i64 1)) fun t19 =>
 Ar p n  k m0 (t 0) (t 2) (t 3) t19 H))))))
 (p.both
 (p.call 3 (.fn 29 [] []) [(t 0), t39] H fun t40 H =>
 p.load false 1 t34 H fun t35 =>
 p.iadr 6 t35 t40 fun t41 =>
 p.load true 6 t41 H fun t42 =>
 p.new [(.sc (.int .i64 0)), (.sc (.string ⟨#[]⟩)), .nl, (.sc (.int .i64 0)), (.sc (.bool false)), (.sc (.int .i64 0))] H fun t5 H =>
 p.store 6 t5 t42 H fun H =>
 p.fadr 0 t5 fun t48 =>
 p.both
 (p.load true 3 (t 3) H fun t44 =>
 p.both
 (p.fill [(.sc (.int .i64 0)), (.sc (.int .i64 0)), (.sc (.int .i64 0))] [(0, 1, (.sc (.int .i64 4))), (1, 1, (.sc (.int .i64 5))), (2, 1, (.sc (.int .i64 7)))] fun ct46 => p.newSl 3 1 ct46 true H fun t46 H =>
 p.both
 (p.call 3 (.fn 32 [] []) [(t 0), t46] H fun t47 H =>
 p.load false 1 t48 H fun t49 =>
 p.call 191 (.fn 143 [] []) [t44, t47, t49] H fun t50 H =>
 p.extr t50 0 fun t51 =>
 p.extr t50 1 fun t52 =>
 p.extr t50 2 fun t53 =>
 p.store 3 (t 3) t51 H fun H =>
 p.bin .sub (t 4) (.sc (.int .i64 1)) fun t19 =>
 Ar p n  k m0 (t 0) (t 2) (t 3) t19 H)
 (p.load false 1 t48 H fun t49 =>
 p.call 3 (.fn 32 [] []) [(t 0), t46] H fun t47 H =>
 p.call 191 (.fn 143 [] []) [t44, t47, t49] H fun t50 H =>
 p.extr t50 0 fun t51 =>
 p.extr t50 1 fun t52 =>
 p.extr t50 2 fun t53 =>
 p.store 3 (t 3) t51 H fun H =>
 p.bin .sub (t 4) (.sc (.int .i64 1)) fun t19 =>
 Ar p n  k m0 (t 0) (t 2) (t 3) t19 H))
 (p.load false 1 t48 H fun t49 =>
 p.fill [(.sc (.int .i64 0)), (.sc (.int .i64 0)), (.sc (.int .i64 0))] [(0, 1, (.sc (.int .i64 4))), (1, 1, (.sc (.int .i64 5))), (2, 1, (.sc (.int .i64 7)))] fun ct46 => p.newSl 3 1 ct46 true H fun t46 H =>
 p.call 3 (.fn 32 [] []) [(t 0), t46] H fun t47 H =>
 p.call 191 (.fn 143 [] []) [t44, t47, t49] H fun t50 H =>
 p.extr t50 0 fun t51 =>
 p.extr t50 1 fun t52 =>
 p.extr t50 2 fun t53 =>
 p.store 3 (t 3) t51 H fun H =>
 p.bin .sub (t 4) (.sc (.int .i64 1)) fun t19 =>
 Ar p n  k m0 (t 0) (t 2) (t 3) t19 H))
 (p.both
 (p.fill [(.sc (.int .i64 0)), (.sc (.int .i64 0)), (.sc (.int .i64 0))] [(0, 1, (.sc (.int .i64 4))), (1, 1, (.sc (.int .i64 5))), (2, 1, (.sc (.int .i64 7)))] fun ct46 => p.newSl 3 1 ct46 true H fun t46 H =>
 p.both
 (p.load true 3 (t 3) H fun t44 =>
 p.both
 (p.call 3 (.fn 32 [] []) [(t 0), t46] H fun t47 H =>
 p.load false 1 t48 H fun t49 =>
 p.call 191 (.fn 143 [] []) [t44, t47, t49] H fun t50 H =>
 p.extr t50 0 fun t51 =>
 p.extr t50 1 fun t52 =>
 p.extr t50 2 fun t53 =>
 p.store 3 (t 3) t51 H fun H =>
 p.bin .sub (t 4) (.sc (.int .i64 1)) fun t19 =>
 Ar p n  k m0 (t 0) (t 2) (t 3) t19 H)
 (p.load false 1 t48 H fun t49 =>
 p.call 3 (.fn 32 [] []) [(t 0), t46] H fun t47 H =>
 p.call 191 (.fn 143 [] []) [t44, t47, t49] H fun t50 H =>
 p.extr t50 0 fun t51 =>
 p.extr t50 1 fun t52 =>
 p.extr t50 2 fun t53 =>
 p.store 3 (t 3) t51 H fun H =>
 p.bin .sub (t 4) (.sc (.int .i64 1)) fun t19 =>
 Ar p n  k m0 (t 0) (t 2) (t 3) t19 H))
 (p.both
 (p.call 3 (.fn 32 [] []) [(t 0), t46] H fun t47 H =>
 p.load true 3 (t 3) H fun t44 =>
 p.load false 1 t48 H fun t49 =>
 p.call 191 (.fn 143 [] []) [t44, t47, t49] H fun t50 H =>
 p.extr t50 0 fun t51 =>
 p.extr t50 1 fun t52 =>
 p.extr t50 2 fun t53 =>
 p.store 3 (t 3) t51 H fun H =>
 p.bin .sub (t 4) (.sc (.int .i64 1)) fun t19 =>
 Ar p n  k m0 (t 0) (t 2) (t 3) t19 H)
 (p.load false 1 t48 H fun t49 =>
 p.both
 (p.load true 3 (t 3) H fun t44 =>
 p.call 3 (.fn 32 [] []) [(t 0), t46] H fun t47 H =>
 p.call 191 (.fn 143 [] []) [t44, t47, t49] H fun t50 H =>
 p.extr t50 0 fun t51 =>
 p.extr t50 1 fun t52 =>
 p.extr t50 2 fun t53 =>
 p.store 3 (t 3) t51 H fun H =>
 p.bin .sub (t 4) (.sc (.int .i64 1)) fun t19 =>
 Ar p n  k m0 (t 0) (t 2) (t 3) t19 H)
 (p.call 3 (.fn 32 [] []) [(t 0), t46] H fun t47 H =>
 p.load true 3 (t 3) H fun t44 =>
 p.call 191 (.fn 143 [] []) [t44, t47, t49] H fun t50 H =>
 p.extr t50 0 fun t51 =>
 p.extr t50 1 fun t52 =>
 p.extr t50 2 fun t53 =>
 p.store 3 (t 3) t51 H fun H =>
 p.bin .sub (t 4) (.sc (.int .i64 1)) fun t19 =>
 Ar p n  k m0 (t 0) (t 2) (t 3) t19 H))))
 (p.load false 1 t48 H fun t49 =>
 p.both
 (p.load true 3 (t 3) H fun t44 =>
 p.fill [(.sc (.int .i64 0)), (.sc (.int .i64 0)), (.sc (.int .i64 0))] [(0, 1, (.sc (.int .i64 4))), (1, 1, (.sc (.int .i64 5))), (2, 1, (.sc (.int .i64 7)))] fun ct46 => p.newSl 3 1 ct46 true H fun t46 H =>
 p.call 3 (.fn 32 [] []) [(t 0), t46] H fun t47 H =>
 p.call 191 (.fn 143 [] []) [t44, t47, t49] H fun t50 H =>
 p.extr t50 0 fun t51 =>
 p.extr t50 1 fun t52 =>
 p.extr t50 2 fun t53 =>
 p.store 3 (t 3) t51 H fun H =>
 p.bin .sub (t 4) (.sc (.int .i64 1)) fun t19 =>
 Ar p n  k m0 (t 0) (t 2) (t 3) t19 H)
 (p.fill [(.sc (.int .i64 0)), (.sc (.int .i64 0)), (.sc (.int .i64 0))] [(0, 1, (.sc (.int .i64 4))), (1, 1, (.sc (.int .i64 5))), (2, 1, (.sc (.int .i64 7)))] fun ct46 => p.newSl 3 1 ct46 true H fun t46 H =>
 p.both
 (p.load true 3 (t 3) H fun t44 =>
 p.call 3 (.fn 32 [] []) [(t 0), t46] H fun t47 H =>
 p.call 191 (.fn 143 [] []) [t44, t47, t49] H fun t50 H =>
 p.extr t50 0 fun t51 =>
 p.extr t50 1 fun t52 =>
 p.extr t50 2 fun t53 =>
 p.store 3 (t 3) t51 H fun H =>
 p.bin .sub (t 4) (.sc (.int .i64 1)) fun t19 =>
 Ar p n  k m0 (t 0) (t 2) (t 3) t19 H)
 (p.call 3 (.fn 32 [] []) [(t 0), t46] H fun t47 H =>
 p.load true 3 (t 3) H fun t44 =>
 p.call 191 (.fn 143 [] []) [t44, t47, t49] H fun t50 H =>
 p.extr t50 0 fun t51 =>
 p.extr t50 1 fun t52 =>
 p.extr t50 2 fun t53 =>
 p.store 3 (t 3) t51 H fun H =>
 p.bin .sub (t 4) (.sc (.int .i64 1)) fun t19 =>
 Ar p n  k m0 (t 0) (t 2) (t 3) t19 H)))))
 (p.new [(.sc (.int .i64 0)), (.sc (.string ⟨#[]⟩)), .nl, (.sc (.int .i64 0)), (.sc (.bool false)), (.sc (.int .i64 0))] H fun t5 H =>
 p.both
 (p.load false 1 t34 H fun t35 =>
 p.call 3 (.fn 29 [] []) [(t 0), t39] H fun t40 H =>
 p.iadr 6 t35 t40 fun t41 =>
 p.load true 6 t41 H fun t42 =>
 p.store 6 t5 t42 H fun H =>
 p.fadr 0 t5 fun t48 =>
 p.both
 (p.load true 3 (t 3) H fun t44 =>
 p.both
 (p.fill [(.sc (.int .i64 0)), (.sc (.int .i64 0)), (.sc (.int .i64 0))] [(0, 1, (.sc (.int .i64 4))), (1, 1, (.sc (.int .i64 5))), (2, 1, (.sc (.int .i64 7)))] fun ct46 => p.newSl 3 1 ct46 true H fun t46 H =>
 p.both
 (p.call 3 (.fn 32 [] []) [(t 0), t46] H fun t47 H =>
 p.load false 1 t48 H fun t49 =>
 p.call 191 (.fn 143 [] []) [t44, t47, t49] H fun t50 H =>
 p.extr t50 0 fun t51 =>
 p.extr t50 1 fun t52 =>
 p.extr t50 2 fun t53 =>
 p.store 3 (t 3) t51 H fun H =>
 p.bin .sub (t 4) (.sc (.int .i64 1)) fun t19 =>
 Ar p n  k m0 (t 0) (t 2) (t 3) t19 H)
 (p.load false 1 t48 H fun t49 =>
 p.call 3 (.fn 32 [] []) [(t 0), t46] H fun t47 H =>
 p.call 191 (.fn 143 [] []) [t44, t47, t49] H fun t50 H =>
 p.extr t50 0 fun t51 =>
 p.extr t50 1 fun t52 =>
 p.extr t50 2 fun t53 =>
 p.store 3 (t 3) t51 H fun H =>
 p.bin .sub (t 4) (.sc (.int .i64 1)) fun t19 =>
 Ar p n  k m0 (t 0) (t 2) (t 3) t19 H))
 (p.load false 1 t48 H fun t49 =>
 p.fill [(.sc (.int .i64 0)), (.sc (.int .i64 0)), (.sc (.int .i64 0))] [(0, 1, (.sc (.int .i64 4))), (1, 1, (.sc (.int .i64 5))), (2, 1, (.sc (.int .i64 7)))] fun ct46 => p.newSl 3 1 ct46 true H fun t46 H =>
 p.call 3 (.fn 32 [] []) [(t 0), t46] H fun t47 H =>
 p.call 191 (.fn 143 [] []) [t44, t47, t49] H fun t50 H =>
 p.extr t50 0 fun t51 =>
 p.extr t50 1 fun t52 =>
 p.extr t50 2 fun t53 =>
 p.store 3 (t 3) t51 H fun H =>
 p.bin .sub (t 4) (.sc (.int .i64 1)) fun t19 =>
 Ar p n  k m0 (t 0) (t 2) (t 3) t19 H))
 (p.both
 (p.fill [(.sc (.int .i64 0)), (.sc (.int .i64 0)), (.sc (.int .i64 0))] [(0, 1, (.sc (.int .i64 4))), (1, 1, (.sc (.int .i64 5))), (2, 1, (.sc (.int .i64 7)))] fun ct46 => p.newSl 3 1 ct46 true H fun t46 H =>
 p.both
 (p.load true 3 (t 3) H fun t44 =>
 p.both
 (p.call 3 (.fn 32 [] []) [(t 0), t46] H fun t47 H =>
 p.load false 1 t48 H fun t49 =>
 p.call 191 (.fn 143 [] []) [t44, t47, t49] H fun t50 H =>
 p.extr t50 0 fun t51 =>
 p.extr t50 1 fun t52 =>
 p.extr t50 2 fun t53 =>
 p.store 3 (t 3) t51 H fun H =>
 p.bin .sub (t 4) (.sc (.int .i64 1)) fun t19 =>
 Ar p n  k m0 (t 0) (t 2) (t 3) t19 H)
 (p.load false 1 t48 H fun t49 =>
 p.call 3 (.fn 32 [] []) [(t 0), t46] H fun t47 H =>
 p.call 191 (.fn 143 [] []) [t44, t47, t49] H fun t50 H =>
 p.extr t50 0 fun t51 =>
 p.extr t50 1 fun t52 =>
 p.extr t50 2 fun t53 =>
 p.store 3 (t 3) t51 H fun H =>
 p.bin .sub (t 4) (.sc (.int .i64 1)) fun t19 =>
 Ar p n  k m0 (t 0) (t 2) (t 3) t19 H))
 (p.both
 (p.call 3 (.fn 32 [] []) [(t 0), t46] H fun t47 H =>
 p.load true 3 (t 3) H fun t44 =>
 p.load false 1 t48 H fun t49 =>
 p.call 191 (.fn 143 [] []) [t44, t47, t49] H fun t50 H =>
 p.extr t50 0 fun t51 =>
 p.extr t50 1 fun t52 =>
 p.extr t50 2 fun t53 =>
 p.store 3 (t 3) t51 H fun H =>
 p.bin .sub (t 4) (.sc (.int .i64 1)) fun t19 =>
 Ar p n  k m0 (t 0) (t 2) (t 3) t19 H)
 (p.load false 1 t48 H fun t49 =>
 p.both
 (p.load true 3 (t 3) H fun t44 =>
 p.call 3 (.fn 32 [] []) [(t 0), t46] H fun t47 H =>
 p.call 191 (.fn 143 [] []) [t44, t47, t49] H fun t50 H =>
 p.extr t50 0 fun t51 =>
 p.extr t50 1 fun t52 =>
 p.extr t50 2 fun t53 =>
 p.store 3 (t 3) t51 H fun H =>
 p.bin .sub (t 4) (.sc (.int .i64 1)) fun t19 =>
 Ar p n  k m0 (t 0) (t 2) (t 3) t19 H)
 (p.call 3 (.fn 32 [] []) [(t 0), t46] H fun t47 H =>
 p.load true 3 (t 3) H fun t44 =>
 p.call 191 (.fn 143 [] []) [t44, t47, t49] H fun t50 H =>
 p.extr t50 0 fun t51 =>
 p.extr t50 1 fun t52 =>
 p.extr t50 2 fun t53 =>
 p.store 3 (t 3) t51 H fun H =>
 p.bin .sub (t 4) (.sc (.int .i64 1)) fun t19 =>
 Ar p n  k m0 (t 0) (t 2) (t 3) t19 H))))
 (p.load false 1 t48 H fun t49 =>
 p.both
 (p.load true 3 (t 3) H fun t44 =>
 p.fill [(.sc (.int .i64 0)), (.sc (.int .i64 0)), (.sc (.int .i64 0))] [(0, 1, (.sc (.int .i64 4))), (1, 1, (.sc (.int .i64 5))), (2, 1, (.sc (.int .i64 7)))] fun ct46 => p.newSl 3 1 ct46 true H fun t46 H =>
 p.call 3 (.fn 32 [] []) [(t 0), t46] H fun t47 H =>
 p.call 191 (.fn 143 [] []) [t44, t47, t49] H fun t50 H =>
 p.extr t50 0 fun t51 =>
 p.extr t50 1 fun t52 =>
 p.extr t50 2 fun t53 =>
 p.store 3 (t 3) t51 H fun H =>
 p.bin .sub (t 4) (.sc (.int .i64 1)) fun t19 =>
 Ar p n  k m0 (t 0) (t 2) (t 3) t19 H)
 (p.fill [(.sc (.int .i64 0)), (.sc (.int .i64 0)), (.sc (.int .i64 0))] [(0, 1, (.sc (.int .i64 4))), (1, 1, (.sc (.int .i64 5))), (2, 1, (.sc (.int .i64 7)))] fun ct46 => p.newSl 3 1 ct46 true H fun t46 H =>
 p.both
 (p.load true 3 (t 3) H fun t44 =>
 p.call 3 (.fn 32 [] []) [(t 0), t46] H fun t47 H =>
 p.call 191 (.fn 143 [] []) [t44, t47, t49] H fun t50 H =>
 p.extr t50 0 fun t51 =>
 p.extr t50 1 fun t52 =>
 p.extr t50 2 fun t53 =>
 p.store 3 (t 3) t51 H fun H =>
 p.bin .sub (t 4) (.sc (.int .i64 1)) fun t19 =>
 Ar p n  k m0 (t 0) (t 2) (t 3) t19 H)
 (p.call 3 (.fn 32 [] []) [(t 0), t46] H fun t47 H =>
 p.load true 3 (t 3) H fun t44 =>
 p.call 191 (.fn 143 [] []) [t44, t47, t49] H fun t50 H =>
 p.extr t50 0 fun t51 =>
 p.extr t50 1 fun t52 =>
 p.extr t50 2 fun t53 =>
 p.store 3 (t 3) t51 H fun H =>
 p.bin .sub (t 4) (.sc (.int .i64 1)) fun t19 =>
 Ar p n  k m0 (t 0) (t 2) (t 3) t19 H)))))
 (p.call 3 (.fn 29 [] []) [(t 0), t39] H fun t40 H =>
 p.load false 1 t34 H fun t35 =>
 p.iadr 6 t35 t40 fun t41 =>
 p.load true 6 t41 H fun t42 =>
 p.store 6 t5 t42 H fun H =>
 p.fadr 0 t5 fun t48 =>
 p.both
 (p.load true 3 (t 3) H fun t44 =>
 p.both
 (p.fill [(.sc (.int .i64 0)), (.sc (.int .i64 0)), (.sc (.int .i64 0))] [(0, 1, (.sc (.int .i64 4))), (1, 1, (.sc (.int .i64 5))), (2, 1, (.sc (.int .i64 7)))] fun ct46 => p.newSl 3 1 ct46 true H fun t46 H =>
 p.both
 (p.call 3 (.fn 32 [] []) [(t 0), t46] H fun t47 H =>
 p.load false 1 t48 H fun t49 =>
 p.call 191 (.fn 143 [] []) [t44, t47, t49] H fun t50 H =>
 p.extr t50 0 fun t51 =>
 p.extr t50 1 fun t52 =>
 p.extr t50 2 fun t53 =>
 p.store 3 (t 3) t51 H fun H =>
 p.bin .sub (t 4) (.sc (.int .i64 1)) fun t19 =>
 Ar p n  k m0 (t 0) (t 2) (t 3) t19 H)
 (p.load false 1 t48 H fun t49 =>
 p.call 3 (.fn 32 [] []) [(t 0), t46] H fun t47 H =>
 p.call 191 (.fn 143 [] []) [t44, t47, t49] H fun t50 H =>
 p.extr t50 0 fun t51 =>
 p.extr t50 1 fun t52 =>
 p.extr t50 2 fun t53 =>
 p.store 3 (t 3) t51 H fun H =>
 p.bin .sub (t 4) (.sc (.int .i64 1)) fun t19 =>
 Ar p n  k m0 (t 0) (t 2) (t 3) t19 H))
 (p.load false 1 t48 H fun t49 =>
 p.fill [(.sc (.int .i64 0)), (.sc (.int .i64 0)), (.sc (.int .i64 0))] [(0, 1, (.sc (.int .i64 4))), (1, 1, (.sc (.int .i64 5))), (2, 1, (.sc (.int .i64 7)))] fun ct46 => p.newSl 3 1 ct46 true H fun t46 H =>
 p.call 3 (.fn 32 [] []) [(t 0), t46] H fun t47 H =>
 p.call 191 (.fn 143 [] []) [t44, t47, t49] H fun t50 H =>
 p.extr t50 0 fun t51 =>
 p.extr t50 1 fun t52 =>
 p.extr t50 2 fun t53 =>
 p.store 3 (t 3) t51 H fun H =>
 p.bin .sub (t 4) (.sc (.int .i64 1)) fun t19 =>
 Ar p n  k m0 (t 0) (t 2) (t 3) t19 H))
 (p.both
 (p.fill [(.sc (.int .i64 0)), (.sc (.int .i64 0)), (.sc (.int .i64 0))] [(0, 1, (.sc (.int .i64 4))), (1, 1, (.sc (.int .i64 5))), (2, 1, (.sc (.int .i64 7)))] fun ct46 => p.newSl 3 1 ct46 true H fun t46 H =>
 p.both
 (p.load true 3 (t 3) H fun t44 =>
 p.both
 (p.call 3 (.fn 32 [] []) [(t 0), t46] H fun t47 H =>
 p.load false 1 t48 H fun t49 =>
 p.call 191 (.fn 143 [] []) [t44, t47, t49] H fun t50 H =>
 p.extr t50 0 fun t51 =>
 p.extr t50 1 fun t52 =>
 p.extr t50 2 fun t53 =>
 p.store 3 (t 3) t51 H fun H =>
 p.bin .sub (t 4) (.sc (.int .i64 1)) fun t19 =>
 Ar p n  k m0 (t 0) (t 2) (t 3) t19 H)
 (p.load false 1 t48 H fun t49 =>
 p.call 3 (.fn 32 [] []) [(t 0), t46] H fun t47 H =>
 p.call 191 (.fn 143 [] []) [t44, t47, t49] H fun t50 H =>
 p.extr t50 0 fun t51 =>
 p.extr t50 1 fun t52 =>
 p.extr t50 2 fun t53 =>
 p.store 3 (t 3) t51 H fun H =>
 p.bin .sub (t 4) (.sc (.int .i64 1)) fun t19 =>
 Ar p n  k m0 (t 0) (t 2) (t 3) t19 H))
 (p.both
 (p.call 3 (.fn 32 [] []) [(t 0), t46] H fun t47 H =>
 p.load true 3 (t 3) H fun t44 =>
 p.load false 1 t48 H fun t49 =>
 p.call 191 (.fn 143 [] []) [t44, t47, t49] H fun t50 H =>
 p.extr t50 0 fun t51 =>
 p.extr t50 1 fun t52 =>
 p.extr t50 2 fun t53 =>
 p.store 3 (t 3) t51 H fun H =>
 p.bin .sub (t 4) (.sc (.int .i64 1)) fun t19 =>
 Ar p n  k m0 (t 0) (t 2) (t 3) t19 H)
 (p.load false 1 t48 H fun t49 =>
 p.both
 (p.load true 3 (t 3) H fun t44 =>
 p.call 3 (.fn 32 [] []) [(t 0), t46] H fun t47 H =>
 p.call 191 (.fn 143 [] []) [t44, t47, t49] H fun t50 H =>
 p.extr t50 0 fun t51 =>
 p.extr t50 1 fun t52 =>
 p.extr t50 2 fun t53 =>
 p.store 3 (t 3) t51 H fun H =>
 p.bin .sub (t 4) (.sc (.int .i64 1)) fun t19 =>
 Ar p n  k m0 (t 0) (t 2) (t 3) t19 H)
 (p.call 3 (.fn 32 [] []) [(t 0), t46] H fun t47 H =>
 p.load true 3 (t 3) H fun t44 =>
 p.call 191 (.fn 143 [] []) [t44, t47, t49] H fun t50 H =>
 p.extr t50 0 fun t51 =>
 p.extr t50 1 fun t52 =>
 p.extr t50 2 fun t53 =>
 p.store 3 (t 3) t51 H fun H =>
 p.bin .sub (t 4) (.sc (.int .i64 1)) fun t19 =>
 Ar p n  k m0 (t 0) (t 2) (t 3) t19 H))))
 (p.load false 1 t48 H fun t49 =>
 p.both
 (p.load true 3 (t 3) H fun t44 =>
 p.fill [(.sc (.int .i64 0)), (.sc (.int .i64 0)), (.sc (.int .i64 0))] [(0, 1, (.sc (.int .i64 4))), (1, 1, (.sc (.int .i64 5))), (2, 1, (.sc (.int .i64 7)))] fun ct46 => p.newSl 3 1 ct46 true H fun t46 H =>
 p.call 3 (.fn 32 [] []) [(t 0), t46] H fun t47 H =>
 p.call 191 (.fn 143 [] []) [t44, t47, t49] H fun t50 H =>
 p.extr t50 0 fun t51 =>
 p.extr t50 1 fun t52 =>
 p.extr t50 2 fun t53 =>
 p.store 3 (t 3) t51 H fun H =>
 p.bin .sub (t 4) (.sc (.int .i64 1)) fun t19 =>
 Ar p n  k m0 (t 0) (t 2) (t 3) t19 H)
 (p.fill [(.sc (.int .i64 0)), (.sc (.int .i64 0)), (.sc (.int .i64 0))] [(0, 1, (.sc (.int .i64 4))), (1, 1, (.sc (.int .i64 5))), (2, 1, (.sc (.int .i64 7)))] fun ct46 => p.newSl 3 1 ct46 true H fun t46 H =>
 p.both
 (p.load true 3 (t 3) H fun t44 =>
 p.call 3 (.fn 32 [] []) [(t 0), t46] H fun t47 H =>
 p.call 191 (.fn 143 [] []) [t44, t47, t49] H fun t50 H =>
 p.extr t50 0 fun t51 =>
 p.extr t50 1 fun t52 =>
 p.extr t50 2 fun t53 =>
 p.store 3 (t 3) t51 H fun H =>
 p.bin .sub (t 4) (.sc (.int .i64 1)) fun t19 =>
 Ar p n  k m0 (t 0) (t 2) (t 3) t19 H)
 (p.call 3 (.fn 32 [] []) [(t 0), t46] H fun t47 H =>
 p.load true 3 (t 3) H fun t44 =>
 p.call 191 (.fn 143 [] []) [t44, t47, t49] H fun t50 H =>
 p.extr t50 0 fun t51 =>
 p.extr t50 1 fun t52 =>
 p.extr t50 2 fun t53 =>
 p.store 3 (t 3) t51 H fun H =>
 p.bin .sub (t 4) (.sc (.int .i64 1)) fun t19 =>
 Ar p n  k m0 (t 0) (t 2) (t 3) t19 H))))))))
 (p.bin .sub (t 4) (.sc (.int .i64 1)) fun t19 =>
 Ar p n  k m0 (t 0) (t 2) (t 3) t19 H))
 (p.call 3 (.fn 29 [] []) [(t 0), (.sc (.int .i64 4))] H fun t55 H =>
 Aax p n  k n (tf 68 0 (ud [(6, t55), (16, (t 4)), (17, t17), (54, (t 0)), (55, t55)] t)) H) := by kernel_rfl
theorem Yr (p : Pr β) (n : Nat)  (k : KO β) (m0 : Nat) : ∀ (t : Nat → AV) (H : Ac), Aaj p n  k m0 (tf 68 0 t) H = Ar p n  k m0 (t 0) (t 2) (t 3) (t 4) H := by
 induction m0 with
 | zero => intros; rfl
 | succ m0 ih =>
  intro t H
  refine Eq.trans (Cd (nt := 68) (m := m0) (g := fun t H => Ar p n  k m0 (t 0) (t 2) (t 3) (t 4) H) ih rfl) ?_
  refine Eq.trans (Ux p n  k m0 t H) ?_
  simp only [Ru]
  kernel_rfl
theorem Adq (p : Pr β) (n : Nat) (a0 : AV) (H : Ac) (k : KO β) : Ct At p n fi106 [a0] H k =
 p.new [(.sc (.int .i64 0)), .nl, .nl] H fun t2 H =>
 p.fill [(.sc (.int .i64 0)), (.sc (.int .i64 0)), (.sc (.int .i64 0)), (.sc (.int .i64 0)), (.sc (.int .i64 0))] [(0, 1, (.sc (.int .i64 0))), (1, 1, (.sc (.int .i64 0))), (2, 1, (.sc (.int .i64 3))), (3, 1, (.sc (.int .i64 65534))), (4, 1, (.sc (.int .i64 65535)))] fun ct8 => p.newSl 5 1 ct8 true H fun t8 H =>
 p.call 3 (.fn 32 [] []) [a0, t8] H fun t9 H =>
 p.fill [(.sc (.int .i64 0)), .nl, .nl] [(0, 1, t9)] fun ct10 =>
 p.new [(.sc (.int .i64 0)), .nl, .nl] H fun t3 H =>
 p.store 3 t3 (.agg ct10) H fun H =>
 p.call 79 (.fn 141 [] []) [a0, (.sc (.int .i64 6))] H fun t12 H =>
 p.fadr 2 t3 fun t13 =>
 p.store 1 t13 t12 H fun H =>
 p.call 3 (.fn 29 [] []) [a0, (.sc (.int .i64 6))] H fun t15 H =>
 Aaj p n  k n (tf 68 0 (ud [(0, a0), (2, t2), (3, t3), (4, t15), (7, a0), (8, t8), (9, t9), (10, (.agg ct10)), (11, a0), (12, t12), (13, t13), (14, a0), (15, t15)] ut)) H := by kernel_rfl
theorem AaM : Jl fi106 @f106 := fun p n a0 H k => by
 rw [Adq]
 simp only [Ru, Yr]
 kernel_rfl
noncomputable def Kc (p : Pr β) (n : Nat)  (k : KO β) : Nat → AV → AV → KO β
 | 0, _, _, _, _ => none
 | m + 1, t0, t3, t4, H => p.bin .lss t4 (.sc (.int .i64 6)) fun t7 =>
   p.guard t7 true H (fun k' => k' t3 H) fun t9 H =>
   p.guard t7 true H (fun k' => p.len t9 fun t' => k' t' H) fun t10 H =>
   p.guard t7 true H (fun k' => p.bin .lss t10 (.sc (.int .i64 4)) fun t' => k' t' H) fun t11 H =>
   p.pick t7 t11 (.sc (.bool false)) fun t12 =>
   p.cond t12
   (p.call 4 (.fn 28 [] []) [t0, (.sc (.int .i64 3))] H fun t16 H =>
   p.cond t16
   (p.fill [(.sc (.int .i64 0))] [(0, 1, t4)] fun ct19 => p.newSl 1 1 ct19 true H fun t19 H =>
   p.app 1 8 t3 t19 H fun t20 H =>
   p.bin .add t4 (.sc (.int .i64 1)) fun t14 =>
   Kc p n  k m t0 t20 t14 H)
   (p.bin .add t4 (.sc (.int .i64 1)) fun t14 =>
   Kc p n  k m t0 t3 t14 H))
   (k t3 H)
noncomputable def f107 (p : Pr β) (n : Nat) (a0 : AV) (H : Ac) (k : KO β) : Option β :=
 Kc p n  k n a0 .nl (.sc (.int .i64 1)) H
noncomputable def Aad (p : Pr β) (n : Nat)  (k : KO β) (m : Nat) (tm : Tm) (H : Ac) : Option β :=
 Dz 22 (fun tm H k => An At p [] 22 n (cd Aha [1, 1, 0, 1, 0, 0]) tm H k) (E5 0 (Em (fun tm H => An At p [] 22 n (cd Aha [1, 1, 1]) tm H (C9 At p fi107.results k)) (C9 At p fi107.results k))) m tm H
theorem Zh (p : Pr β) (n : Nat)  (k : KO β) (m0 : Nat) : ∀ (t : Nat → AV) (H : Ac), Aad p n  k m0 (tf 22 0 t) H = Kc p n  k m0 (t 0) (t 3) (t 4) H := by
 induction m0 with
 | zero => intros; rfl
 | succ m0 ih =>
  intro t H
  refine Eq.trans (Cd (nt := 22) (m := m0) (g := fun t H => Kc p n  k m0 (t 0) (t 3) (t 4) H) ih rfl) ?_
  kernel_rfl
theorem AcX (p : Pr β) (n : Nat) (a0 : AV) (H : Ac) (k : KO β) : Ct At p n fi107 [a0] H k =
 Aad p n  k n (tf 22 0 (ud [(0, a0), (2, .nl), (3, .nl), (4, (.sc (.int .i64 1))), (5, .nl)] ut)) H := by kernel_rfl
theorem AbG : Jl fi107 @f107 := fun p n a0 H k => by
 rw [AcX]
 simp only [Zh]
 kernel_rfl
noncomputable def f63 (p : Pr β) (n : Nat) (a0 a1 : AV) (H : Ac) (k : KO β) : Option β :=
 p.new [(.sc (.string ⟨#[]⟩)), (.sc (.int .i64 0)), (.sc (.bool false)), (.sc (.int .i64 0)), (.sc (.int .i64 0)), (.sc (.int .i64 0)), .nl, .nl, .nl] H fun t4 H =>
 p.call 3 (.fn 29 [] []) [a0, (.sc (.int .i64 5))] H fun t8 H =>
 p.call 4 (.fn 28 [] []) [a0, (.sc (.int .i64 3))] H fun t10 H =>
 p.call 3 (.fn 29 [] []) [a0, (.sc (.int .i64 4))] H fun t12 H =>
 p.call 3 (.fn 29 [] []) [a0, (.sc (.int .i64 4))] H fun t14 H =>
 p.bin .add (.sc (.int .i64 1)) t14 fun t15 =>
 p.call 117 (.fn 104 [] []) [a1, t8, t10, t12, t15] H fun t16 H =>
 p.new [(.sc (.string ⟨#[]⟩)), (.sc (.int .i64 0)), (.sc (.bool false)), (.sc (.int .i64 0)), (.sc (.int .i64 0)), (.sc (.int .i64 0)), .nl, .nl, .nl] H fun t5 H =>
 p.store 9 t5 t16 H fun H =>
 p.call 4 (.fn 28 [] []) [a0, (.sc (.int .i64 3))] H fun t18 H =>
 M7 (fun (t0 t4 t5 : AV) (H : Ac) => p.call 115 (.fn 106 [] []) [t0] H fun t22 H =>
 p.fadr 5 t5 fun t23 =>
 p.store 3 t23 t22 H fun H =>
 p.call 53 (.fn 107 [] []) [t0] H fun t25 H =>
 p.fadr 8 t5 fun t26 =>
 p.store 1 t26 t25 H fun H =>
 p.load true 9 t5 H fun t27 =>
 p.store 9 t4 t27 H fun H =>
 p.load true 9 t4 H fun r0 =>
 k r0 H) fun j1 =>
 p.cond t18
 (p.load true 9 t5 H fun t19 =>
 p.call 117 (.fn 105 [] []) [t19] H fun t20 H =>
 p.store 9 t5 t20 H fun H =>
 j1 a0 t4 t5 H)
 (j1 a0 t4 t5 H)
theorem Ad1 : T7 AhT @f63 := fun p n a0 a1 H k => by kernel_rfl
noncomputable def Oa (p : Pr β) (n : Nat)  (k : KO β) : Nat → AV → AV → KO β
 | 0, _, _, _, _ => none
 | m + 1, t0, t3, t4, H => p.lenS t0 fun t7 =>
   p.bin .lss t4 t7 fun t8 =>
   p.cond t8
   (p.idx t0 t4 fun t14 =>
   p.cvI .i64 t14 fun t15 =>
   p.bin .add t3 t15 fun t16 =>
   p.bin .rem t16 (.sc (.int .i64 3)) fun t17 =>
   p.bin .add t4 (.sc (.int .i64 1)) fun t10 =>
   Oa p n  k m t0 t17 t10 H)
   (k t3 H)
noncomputable def f99 (p : Pr β) (n : Nat) (a0 : AV) (H : Ac) (k : KO β) : Option β :=
 Oa p n  k n a0 (.sc (.int .i64 0)) (.sc (.int .i64 0)) H
noncomputable def Ady (p : Pr β) (n : Nat)  (k : KO β) (m : Nat) (tm : Tm) (H : Ac) : Option β :=
 Dz 19 (fun tm H k => An At p [] 19 n (cd c99 [1, 1, 0, 1, 0, 0]) tm H k) (E5 0 (Em (fun tm H => An At p [] 19 n (cd c99 [1, 1, 1]) tm H (C9 At p fi99.results k)) (C9 At p fi99.results k))) m tm H
theorem Ab9 (p : Pr β) (n : Nat)  (k : KO β) (m0 : Nat) : ∀ (t : Nat → AV) (H : Ac), Ady p n  k m0 (tf 19 0 t) H = Oa p n  k m0 (t 0) (t 3) (t 4) H := by
 induction m0 with
 | zero => intros; rfl
 | succ m0 ih =>
  intro t H
  refine Eq.trans (Cd (nt := 19) (m := m0) (g := fun t H => Oa p n  k m0 (t 0) (t 3) (t 4) H) ih rfl) ?_
  kernel_rfl
theorem AeO (p : Pr β) (n : Nat) (a0 : AV) (H : Ac) (k : KO β) : Ct At p n fi99 [a0] H k =
 Ady p n  k n (tf 19 0 (ud [(0, a0), (2, (.sc (.int .i64 0))), (3, (.sc (.int .i64 0))), (4, (.sc (.int .i64 0)))] ut)) H := by kernel_rfl
theorem AcT : Jl fi99 @f99 := fun p n a0 H k => by
 rw [AeO]
 simp only [Ab9]
 kernel_rfl
noncomputable def Oc (p : Pr β) (n : Nat)  (k : KO β) : Nat → AV → AV → AV → KO β
 | 0, _, _, _, _, _ => none
 | m + 1, t1, t2, t3, t4, H => p.fadr 1 t1 fun t9 =>
   p.load false 1 t9 H fun t10 =>
   p.len t10 fun t11 =>
   p.bin .lss t4 t11 fun t12 =>
   p.cond t12
   (p.fadr 1 t3 fun t15 =>
   p.load false 1 t15 H fun t16 =>
   p.fadr 1 t1 fun t17 =>
   p.load false 1 t17 H fun t18 =>
   p.iadr 9 t18 t4 fun t20 =>
   p.load true 9 t20 H fun t21 =>
   p.call 117 (.fn 138 [] []) [t21] H fun t22 H =>
   p.fill [(.sc (.string ⟨#[]⟩)), (.sc (.int .i64 0)), (.sc (.bool false)), (.sc (.int .i64 0)), (.sc (.int .i64 0)), (.sc (.int .i64 0)), .nl, .nl, .nl] [(0, 9, t22)] fun ct23 => p.newSl 1 9 ct23 true H fun t23 H =>
   p.app 9 128 t16 t23 H fun t24 H =>
   p.fadr 1 t3 fun t25 =>
   p.store 1 t25 t24 H fun H =>
   p.bin .add t4 (.sc (.int .i64 1)) fun t14 =>
   Oc p n  k m t1 t2 t3 t14 H)
   (p.load true 2 t3 H fun t26 =>
   p.store 2 t2 t26 H fun H =>
   p.load true 2 t2 H fun r0 =>
   k r0 H)
noncomputable def f137 (p : Pr β) (n : Nat) (a0 : AV) (H : Ac) (k : KO β) : Option β :=
 p.box a0 H fun t1 H =>
 p.new [(.sc (.int .i64 0)), .nl] H fun t2 H =>
 p.fadr 0 t1 fun t5 =>
 p.load false 1 t5 H fun t6 =>
 p.fill [(.sc (.int .i64 0)), .nl] [(0, 1, t6)] fun ct7 =>
 p.new [(.sc (.int .i64 0)), .nl] H fun t3 H =>
 p.store 2 t3 (.agg ct7) H fun H =>
 Oc p n  k n t1 t2 t3 (.sc (.int .i64 0)) H
noncomputable def Z1 (p : Pr β) (n : Nat)  (k : KO β) (m : Nat) (tm : Tm) (H : Ac) : Option β :=
 Dz 27 (fun tm H k => An At p Ahu 27 n (cd AgP [1, 1, 0, 1, 0, 0]) tm H k) (E5 0 (Em (fun tm H => An At p Ahu 27 n (cd AgP [1, 1, 1]) tm H (C9 At p fi137.results k)) (C9 At p fi137.results k))) m tm H
theorem Yc (p : Pr β) (n : Nat)  (k : KO β) (m0 : Nat) : ∀ (t : Nat → AV) (H : Ac), Z1 p n  k m0 (tf 27 0 t) H = Oc p n  k m0 (t 1) (t 2) (t 3) (t 4) H := by
 induction m0 with
 | zero => intros; rfl
 | succ m0 ih =>
  intro t H
  refine Eq.trans (Cd (nt := 27) (m := m0) (g := fun t H => Oc p n  k m0 (t 1) (t 2) (t 3) (t 4) H) ih rfl) ?_
  kernel_rfl
theorem AdV (p : Pr β) (n : Nat) (a0 : AV) (H : Ac) (k : KO β) : Ct At p n fi137 [a0] H k =
 p.box a0 H fun t1 H =>
 p.new [(.sc (.int .i64 0)), .nl] H fun t2 H =>
 p.fadr 0 t1 fun t5 =>
 p.load false 1 t5 H fun t6 =>
 p.fill [(.sc (.int .i64 0)), .nl] [(0, 1, t6)] fun ct7 =>
 p.new [(.sc (.int .i64 0)), .nl] H fun t3 H =>
 p.store 2 t3 (.agg ct7) H fun H =>
 Z1 p n  k n (tf 27 0 (ud [(0, a0), (1, t1), (2, t2), (3, t3), (4, (.sc (.int .i64 0))), (5, t5), (6, t6), (7, (.agg ct7))] ut)) H := by kernel_rfl
theorem Abm : Jl fi137 @f137 := fun p n a0 H k => by
 rw [AdV]
 simp only [Yc]
 kernel_rfl
noncomputable def Kp (p : Pr β) (n : Nat)  (k : KO β) : Nat → AV → AV → AV → AV → AV → KO β
 | 0, _, _, _, _, _, _, _ => none
 | m + 1, t2, t3, t4, t6, t7, t8, H => p.fadr 1 t2 fun t18 =>
   p.load false 1 t18 H fun t19 =>
   p.len t19 fun t20 =>
   p.bin .lss t8 t20 fun t21 =>
   p.cond t21
   (p.un .not t7 fun t25 =>
   p.guard t25 true H (fun k' => p.fadr 1 t2 fun t' => k' t' H) fun t27 H =>
   p.guard t25 true H (fun k' => p.load false 1 t27 H fun t' => k' t' H) fun t28 H =>
   p.guard t25 true H (fun k' => k' t8 H) fun t29 H =>
   p.guard t25 true H (fun k' => p.iadr 9 t28 t29 fun t' => k' t' H) fun t30 H =>
   p.guard t25 true H (fun k' => p.fadr 0 t30 fun t' => k' t' H) fun t31 H =>
   p.guard t25 true H (fun k' => p.load false 1 t31 H fun t' => k' t' H) fun t32 H =>
   p.guard t25 true H (fun k' => p.fadr 0 t3 fun t' => k' t' H) fun t33 H =>
   p.guard t25 true H (fun k' => p.load false 1 t33 H fun t' => k' t' H) fun t34 H =>
   p.guard t25 true H (fun k' => p.bin .geq t32 t34 fun t' => k' t' H) fun t35 H =>
   p.pick t25 t35 (.sc (.bool false)) fun t36 =>
   M7 (fun (t2 t3 t4 t6 t7 t8 : AV) (H : Ac) => p.fadr 1 t2 fun t44 =>
   p.load false 1 t44 H fun t45 =>
   p.iadr 9 t45 t8 fun t47 =>
   p.fadr 0 t47 fun t48 =>
   p.load false 1 t48 H fun t49 =>
   p.fadr 0 t3 fun t50 =>
   p.load false 1 t50 H fun t51 =>
   p.bin .neq t49 t51 fun t52 =>
   p.cond t52
   (p.fadr 1 t6 fun t53 =>
   p.load false 1 t53 H fun t54 =>
   p.fadr 1 t2 fun t55 =>
   p.load false 1 t55 H fun t56 =>
   p.iadr 9 t56 t8 fun t58 =>
   p.load true 9 t58 H fun t59 =>
   p.call 117 (.fn 138 [] []) [t59] H fun t60 H =>
   p.fill [(.sc (.string ⟨#[]⟩)), (.sc (.int .i64 0)), (.sc (.bool false)), (.sc (.int .i64 0)), (.sc (.int .i64 0)), (.sc (.int .i64 0)), .nl, .nl, .nl] [(0, 9, t60)] fun ct61 => p.newSl 1 9 ct61 true H fun t61 H =>
   p.app 9 128 t54 t61 H fun t62 H =>
   p.fadr 1 t6 fun t63 =>
   p.store 1 t63 t62 H fun H =>
   p.bin .add t8 (.sc (.int .i64 1)) fun t23 =>
   Kp p n  k m t2 t3 t4 t6 t7 t23 H)
   (p.bin .add t8 (.sc (.int .i64 1)) fun t23 =>
   Kp p n  k m t2 t3 t4 t6 t7 t23 H)) fun j1 =>
   p.cond t36
   (p.fadr 1 t6 fun t37 =>
   p.load false 1 t37 H fun t38 =>
   p.load true 9 t3 H fun t39 =>
   p.call 117 (.fn 138 [] []) [t39] H fun t40 H =>
   p.fill [(.sc (.string ⟨#[]⟩)), (.sc (.int .i64 0)), (.sc (.bool false)), (.sc (.int .i64 0)), (.sc (.int .i64 0)), (.sc (.int .i64 0)), .nl, .nl, .nl] [(0, 9, t40)] fun ct41 => p.newSl 1 9 ct41 true H fun t41 H =>
   p.app 9 128 t38 t41 H fun t42 H =>
   p.fadr 1 t6 fun t43 =>
   p.store 1 t43 t42 H fun H =>
   j1 t2 t3 t4 t6 (.sc (.bool true)) t8 H)
   (j1 t2 t3 t4 t6 t7 t8 H))
   (p.un .not t7 fun t65 =>
   M7 (fun (t2 t4 t6 : AV) (H : Ac) => p.fadr 1 t6 fun t73 =>
   p.load false 1 t73 H fun t74 =>
   p.len t74 fun t75 =>
   p.bin .gtr t75 (.sc (.int .i64 3)) fun t76 =>
   p.cond t76
   (p.load true 2 t2 H fun t77 =>
   p.call 26 (.fn 137 [] []) [t77] H fun t78 H =>
   p.store 2 t4 t78 H fun H =>
   p.load true 2 t4 H fun r0 =>
   k (Cq [r0, (.sc (.bool false))]) H)
   (p.load true 2 t6 H fun t79 =>
   p.store 2 t4 t79 H fun H =>
   p.load true 2 t4 H fun r0 =>
   k (Cq [r0, (.sc (.bool true))]) H)) fun j2 =>
   p.cond t65
   (p.fadr 1 t6 fun t66 =>
   p.load false 1 t66 H fun t67 =>
   p.load true 9 t3 H fun t68 =>
   p.call 117 (.fn 138 [] []) [t68] H fun t69 H =>
   p.fill [(.sc (.string ⟨#[]⟩)), (.sc (.int .i64 0)), (.sc (.bool false)), (.sc (.int .i64 0)), (.sc (.int .i64 0)), (.sc (.int .i64 0)), .nl, .nl, .nl] [(0, 9, t69)] fun ct70 => p.newSl 1 9 ct70 true H fun t70 H =>
   p.app 9 128 t67 t70 H fun t71 H =>
   p.fadr 1 t6 fun t72 =>
   p.store 1 t72 t71 H fun H =>
   j2 t2 t4 t6 H)
   (j2 t2 t4 t6 H))
noncomputable def f100 (p : Pr β) (n : Nat) (a0 a1 : AV) (H : Ac) (k : KO β) : Option β :=
 p.box a0 H fun t2 H =>
 p.box a1 H fun t3 H =>
 p.new [(.sc (.int .i64 0)), .nl] H fun t4 H =>
 p.load true 9 t3 H fun t9 =>
 p.call 4 (.fn 136 [] []) [t9] H fun t10 H =>
 p.un .not t10 fun t11 =>
 p.cond t11
 (p.load true 2 t2 H fun t12 =>
 p.call 26 (.fn 137 [] []) [t12] H fun t13 H =>
 p.store 2 t4 t13 H fun H =>
 p.load true 2 t4 H fun r0 =>
 k (Cq [r0, (.sc (.bool false))]) H)
 (p.fadr 0 t2 fun t14 =>
 p.load false 1 t14 H fun t15 =>
 p.fill [(.sc (.int .i64 0)), .nl] [(0, 1, t15)] fun ct16 =>
 p.new [(.sc (.int .i64 0)), .nl] H fun t6 H =>
 p.store 2 t6 (.agg ct16) H fun H =>
 Kp p n  k n t2 t3 t4 t6 (.sc (.bool false)) (.sc (.int .i64 0)) H)
noncomputable def AaC (p : Pr β) (n : Nat)  (k : KO β) (m : Nat) (tm : Tm) (H : Ac) : Option β :=
 Dz 80 (fun tm H k => An At p AgG 80 n (cd AgC [1, 1, 1, 1, 0, 1, 0, 0]) tm H k) (E5 0 (Em (fun tm H => An At p AgG 80 n (cd AgC [1, 1, 1, 1, 1]) tm H (C9 At p fi100.results k)) (C9 At p fi100.results k))) m tm H
theorem Y8 (p : Pr β) (n : Nat)  (k : KO β) (m0 : Nat) : ∀ (t : Nat → AV) (H : Ac), AaC p n  k m0 (tf 80 0 t) H = Kp p n  k m0 (t 2) (t 3) (t 4) (t 6) (t 7) (t 8) H := by
 induction m0 with
 | zero => intros; rfl
 | succ m0 ih =>
  intro t H
  refine Eq.trans (Cd (nt := 80) (m := m0) (g := fun t H => Kp p n  k m0 (t 2) (t 3) (t 4) (t 6) (t 7) (t 8) H) ih rfl) ?_
  kernel_rfl
theorem Adu (p : Pr β) (n : Nat) (a0 a1 : AV) (H : Ac) (k : KO β) : Ct At p n fi100 [a0, a1] H k =
 p.box a0 H fun t2 H =>
 p.box a1 H fun t3 H =>
 p.new [(.sc (.int .i64 0)), .nl] H fun t4 H =>
 p.load true 9 t3 H fun t9 =>
 p.call 4 (.fn 136 [] []) [t9] H fun t10 H =>
 p.un .not t10 fun t11 =>
 p.cond t11
 (p.load true 2 t2 H fun t12 =>
 p.call 26 (.fn 137 [] []) [t12] H fun t13 H =>
 p.store 2 t4 t13 H fun H =>
 p.load true 2 t4 H fun r0 =>
 k (Cq [r0, (.sc (.bool false))]) H)
 (p.fadr 0 t2 fun t14 =>
 p.load false 1 t14 H fun t15 =>
 p.fill [(.sc (.int .i64 0)), .nl] [(0, 1, t15)] fun ct16 =>
 p.new [(.sc (.int .i64 0)), .nl] H fun t6 H =>
 p.store 2 t6 (.agg ct16) H fun H =>
 AaC p n  k n (tf 80 0 (ud [(0, a0), (1, a1), (2, t2), (3, t3), (4, t4), (5, (.sc (.bool false))), (6, t6), (7, (.sc (.bool false))), (8, (.sc (.int .i64 0))), (9, t9), (10, t10), (11, t11), (14, t14), (15, t15), (16, (.agg ct16))] ut)) H) := by kernel_rfl
theorem Acp : T7 fi100 @f100 := fun p n a0 a1 H k => by
 rw [Adu]
 simp only [Y8]
 kernel_rfl
noncomputable def Ms (p : Pr β) (n : Nat)  (k : KO β) : Nat → AV → AV → AV → AV → KO β
 | 0, _, _, _, _, _, _ => none
 | m + 1, t0, t2, t4, t5, t6, H => p.bin .gtr t6 (.sc (.int .i64 0)) fun t17 =>
   p.cond t17
   (p.fill [(.sc (.string ⟨#[]⟩)), (.sc (.string ⟨#[]⟩)), (.sc (.string ⟨#[]⟩)), (.sc (.string ⟨#[]⟩)), (.sc (.string ⟨#[]⟩)), (.sc (.string ⟨#[]⟩)), (.sc (.string ⟨#[]⟩)), (.sc (.string ⟨#[]⟩)), (.sc (.string ⟨#[]⟩))] [(0, 1, (.sc (.string ⟨#[97]⟩))), (1, 1, (.sc (.string ⟨#[98]⟩))), (2, 1, (.sc (.string ⟨#[99]⟩))), (3, 1, (.sc (.string ⟨#[100]⟩))), (4, 1, (.sc (.string ⟨#[101]⟩))), (5, 1, (.sc (.string ⟨#[102]⟩))), (6, 1, (.sc (.string ⟨#[103]⟩))), (7, 1, (.sc (.string ⟨#[104]⟩))), (8, 1, (.sc (.string ⟨#[105]⟩)))] fun ct22 => p.newSl 9 1 ct22 true H fun t22 H =>
   p.call 9 (.fn 64 [] []) [t0, t22] H fun t23 H =>
   p.call 117 (.fn 63 [] []) [t0, t23] H fun t24 H =>
   p.new [(.sc (.string ⟨#[]⟩)), (.sc (.int .i64 0)), (.sc (.bool false)), (.sc (.int .i64 0)), (.sc (.int .i64 0)), (.sc (.int .i64 0)), .nl, .nl, .nl] H fun t7 H =>
   p.store 9 t7 t24 H fun H =>
   p.fadr 0 t7 fun t25 =>
   p.load false 1 t25 H fun t26 =>
   p.call 3 (.fn 99 [] []) [t26] H fun t27 H =>
   p.bin .eql t27 t4 fun t29 =>
   p.cond t29
   (p.load true 2 t5 H fun t31 =>
   p.load true 9 t7 H fun t32 =>
   p.call 29 (.fn 100 [] []) [t31, t32] H fun t33 H =>
   p.extr t33 0 fun t34 =>
   p.extr t33 1 fun t35 =>
   p.store 2 t5 t34 H fun H =>
   p.bin .sub t6 (.sc (.int .i64 1)) fun t19 =>
   Ms p n  k m t0 t2 t4 t5 t19 H)
   (p.bin .sub t6 (.sc (.int .i64 1)) fun t19 =>
   Ms p n  k m t0 t2 t4 t5 t19 H))
   (p.load true 2 t5 H fun t36 =>
   p.store 2 t2 t36 H fun H =>
   p.load true 2 t2 H fun r0 =>
   k (Cq [r0, t4]) H)
noncomputable def f61 (p : Pr β) (n : Nat) (a0 : AV) (H : Ac) (k : KO β) : Option β :=
 p.new [(.sc (.int .i64 0)), .nl] H fun t2 H =>
 p.call 3 (.fn 29 [] []) [a0, (.sc (.int .i64 3))] H fun t9 H =>
 p.call 3 (.fn 29 [] []) [a0, (.sc (.int .i64 9))] H fun t11 H =>
 p.bin .sub t11 (.sc (.int .i64 1)) fun t12 =>
 p.fill [(.sc (.int .i64 0)), .nl] [(0, 1, t12)] fun ct13 =>
 p.new [(.sc (.int .i64 0)), .nl] H fun t5 H =>
 p.store 2 t5 (.agg ct13) H fun H =>
 p.call 3 (.fn 29 [] []) [a0, (.sc (.int .i64 5))] H fun t15 H =>
 Ms p n  k n a0 t2 t9 t5 t15 H
noncomputable def Ad3 (p : Pr β) (n : Nat)  (k : KO β) (m : Nat) (tm : Tm) (H : Ac) : Option β :=
 Dz 38 (fun tm H k => An At p [] 38 n (cd c61 [1, 1, 1, 0, 1, 0, 0]) tm H k) (E5 0 (Em (fun tm H => An At p [] 38 n (cd c61 [1, 1, 1, 1]) tm H (C9 At p fi61.results k)) (C9 At p fi61.results k))) m tm H
theorem AbT (p : Pr β) (n : Nat)  (k : KO β) (m0 : Nat) : ∀ (t : Nat → AV) (H : Ac), Ad3 p n  k m0 (tf 38 0 t) H = Ms p n  k m0 (t 0) (t 2) (t 4) (t 5) (t 6) H := by
 induction m0 with
 | zero => intros; rfl
 | succ m0 ih =>
  intro t H
  refine Eq.trans (Cd (nt := 38) (m := m0) (g := fun t H => Ms p n  k m0 (t 0) (t 2) (t 4) (t 5) (t 6) H) ih rfl) ?_
  kernel_rfl
theorem Afq (p : Pr β) (n : Nat) (a0 : AV) (H : Ac) (k : KO β) : Ct At p n fi61 [a0] H k =
 p.new [(.sc (.int .i64 0)), .nl] H fun t2 H =>
 p.call 3 (.fn 29 [] []) [a0, (.sc (.int .i64 3))] H fun t9 H =>
 p.call 3 (.fn 29 [] []) [a0, (.sc (.int .i64 9))] H fun t11 H =>
 p.bin .sub t11 (.sc (.int .i64 1)) fun t12 =>
 p.fill [(.sc (.int .i64 0)), .nl] [(0, 1, t12)] fun ct13 =>
 p.new [(.sc (.int .i64 0)), .nl] H fun t5 H =>
 p.store 2 t5 (.agg ct13) H fun H =>
 p.call 3 (.fn 29 [] []) [a0, (.sc (.int .i64 5))] H fun t15 H =>
 Ad3 p n  k n (tf 38 0 (ud [(0, a0), (2, t2), (3, (.sc (.int .i64 0))), (4, t9), (5, t5), (6, t15), (8, a0), (9, t9), (10, a0), (11, t11), (12, t12), (13, (.agg ct13)), (14, a0), (15, t15)] ut)) H := by kernel_rfl
theorem AcY : Jl fi61 @f61 := fun p n a0 H k => by
 rw [Afq]
 simp only [AbT]
 kernel_rfl
noncomputable def f101 (p : Pr β) (n : Nat) (a0 : AV) (H : Ac) (k : KO β) : Option β :=
 p.fill [(.sc (.string ⟨#[]⟩)), (.sc (.string ⟨#[]⟩)), (.sc (.string ⟨#[]⟩)), (.sc (.string ⟨#[]⟩)), (.sc (.string ⟨#[]⟩))] [(0, 1, (.sc (.string ⟨#[97, 110, 110]⟩))), (1, 1, (.sc (.string ⟨#[98, 111, 98]⟩))), (2, 1, (.sc (.string ⟨#[99, 105, 100]⟩))), (3, 1, (.sc (.string ⟨#[100, 111, 116]⟩))), (4, 1, (.sc (.string ⟨#[101, 118, 101]⟩)))] fun ct4 => p.newSl 5 1 ct4 true H fun t4 H =>
 p.call 9 (.fn 64 [] []) [a0, t4] H fun t5 H =>
 k t5 H
theorem AbZ : Jl Agl @f101 := fun p n a0 H k => by kernel_rfl
noncomputable def f176 (p : Pr β) (n : Nat) (a0 : AV) (H : Ac) (k : KO β) : Option β :=
 p.call 4 (.fn 28 [] []) [a0, (.sc (.int .i64 3))] H fun t4 H =>
 p.cond t4
 (p.call 9 (.fn 166 [] []) [a0] H fun t6 H =>
 k t6 H)
 (p.fill [(.sc (.string ⟨#[]⟩)), (.sc (.string ⟨#[]⟩)), (.sc (.string ⟨#[]⟩)), (.sc (.string ⟨#[]⟩)), (.sc (.string ⟨#[]⟩)), (.sc (.string ⟨#[]⟩)), (.sc (.string ⟨#[]⟩)), (.sc (.string ⟨#[]⟩)), (.sc (.string ⟨#[]⟩)), (.sc (.string ⟨#[]⟩)), (.sc (.string ⟨#[]⟩)), (.sc (.string ⟨#[]⟩)), (.sc (.string ⟨#[]⟩)), (.sc (.string ⟨#[]⟩)), (.sc (.string ⟨#[]⟩)), (.sc (.string ⟨#[]⟩))] [(0, 1, (.sc (.string ⟨#[35]⟩))), (1, 1, (.sc (.string ⟨#[43]⟩))), (2, 1, (.sc (.string ⟨#[97, 47, 35]⟩))), (3, 1, (.sc (.string ⟨#[97, 47, 43]⟩))), (4, 1, (.sc (.string ⟨#[43, 47, 98]⟩))), (5, 1, (.sc (.string ⟨#[43, 47, 43]⟩))), (6, 1, (.sc (.string ⟨#[97, 47, 43, 47, 99]⟩))), (7, 1, (.sc (.string ⟨#[97, 47, 98, 47, 35]⟩))), (8, 1, (.sc (.string ⟨#[36, 115, 47, 35]⟩))), (9, 1, (.sc (.string ⟨#[36, 115, 47, 43]⟩))), (10, 1, (.sc (.string ⟨#[43, 47, 35]⟩))), (11, 1, (.sc (.string ⟨#[47, 43]⟩))), (12, 1, (.sc (.string ⟨#[47, 35]⟩))), (13, 1, (.sc (.string ⟨#[97, 47, 43, 47, 35]⟩))), (14, 1, (.sc (.string ⟨#[98, 47, 35]⟩))), (15, 1, (.sc (.string ⟨#[43, 47, 98, 47, 43]⟩)))] fun ct8 => p.newSl 16 1 ct8 true H fun t8 H =>
 p.call 9 (.fn 64 [] []) [a0, t8] H fun t9 H =>
 k t9 H)
theorem Ab8 : Jl AfP @f176 := fun p n a0 H k => by kernel_rfl
noncomputable def f158 (p : Pr β) (n : Nat) (a0 : AV) (H : Ac) (k : KO β) : Option β :=
 p.call 3 (.fn 29 [] []) [a0, (.sc (.int .i64 3))] H fun t4 H =>
 p.bin .eql t4 (.sc (.int .i64 0)) fun t6 =>
 p.cond t6
 (p.call 9 (.fn 166 [] []) [a0] H fun t8 H =>
 k t8 H)
 (p.bin .eql t4 (.sc (.int .i64 1)) fun t10 =>
 p.cond t10
 (p.call 9 (.fn 176 [] []) [a0] H fun t12 H =>
 k t12 H)
 (p.fill [(.sc (.string ⟨#[]⟩)), (.sc (.string ⟨#[]⟩)), (.sc (.string ⟨#[]⟩)), (.sc (.string ⟨#[]⟩)), (.sc (.string ⟨#[]⟩)), (.sc (.string ⟨#[]⟩)), (.sc (.string ⟨#[]⟩)), (.sc (.string ⟨#[]⟩)), (.sc (.string ⟨#[]⟩)), (.sc (.string ⟨#[]⟩)), (.sc (.string ⟨#[]⟩)), (.sc (.string ⟨#[]⟩)), (.sc (.string ⟨#[]⟩)), (.sc (.string ⟨#[]⟩)), (.sc (.string ⟨#[]⟩)), (.sc (.string ⟨#[]⟩))] [(0, 1, (.sc (.string ⟨#[]⟩))), (1, 1, (.sc (.string ⟨#[97, 43]⟩))), (2, 1, (.sc (.string ⟨#[97, 47, 98, 43]⟩))), (3, 1, (.sc (.string ⟨#[43, 97]⟩))), (4, 1, (.sc (.string ⟨#[35, 47, 97]⟩))), (5, 1, (.sc (.string ⟨#[97, 35]⟩))), (6, 1, (.sc (.string ⟨#[97, 47, 35, 47, 98]⟩))), (7, 1, (.sc (.string ⟨#[35, 35]⟩))), (8, 1, (.sc (.string ⟨#[43, 43]⟩))), (9, 1, (.sc (.string ⟨#[97, 47, 98, 47, 99, 47, 100, 47, 101, 47, 102]⟩))), (10, 1, (.sc (.string ⟨#[97, 47, 98, 47, 99, 47, 100, 47, 101, 47, 102, 47, 103]⟩))), (11, 1, (.sc (.string ⟨#[47, 47, 47, 47, 47]⟩))), (12, 1, (.sc (.string ⟨#[47, 47, 47, 47, 47, 47]⟩))), (13, 1, (.sc (.string ⟨#[0]⟩))), (14, 1, (.sc (.string ⟨#[255]⟩))), (15, 1, (.sc (.string ⟨#[49, 50, 51, 52, 53, 54, 55, 56, 57, 48, 49, 50, 51, 52, 53, 54, 55, 56, 57, 48, 49, 50, 51, 52, 53, 54, 55, 56, 57, 48, 49, 50, 51, 52, 53, 54, 55, 56, 57, 48, 49, 50, 51, 52, 53, 54, 55, 56, 57, 48, 49, 50, 51, 52, 53, 54, 55, 56, 57, 48, 49]⟩)))] fun ct14 => p.newSl 16 1 ct14 true H fun t14 H =>
 p.call 9 (.fn 64 [] []) [a0, t14] H fun t15 H =>
 k t15 H))
theorem Ace : Jl Agk @f158 := fun p n a0 H k => by kernel_rfl
noncomputable def f140 (p : Pr β) (n : Nat) (a0 : AV) (H : Ac) (k : KO β) : Option β :=
 p.new [(.sc (.string ⟨#[]⟩)), .nl, (.sc (.int .i64 0)), (.sc (.bool false))] H fun t2 H =>
 p.call 73 (.fn 145 [] []) [a0] H fun t5 H =>
 p.new [(.sc (.string ⟨#[]⟩)), .nl, (.sc (.int .i64 0)), (.sc (.bool false))] H fun t3 H =>
 p.store 4 t3 t5 H fun H =>
 p.call 3 (.fn 29 [] []) [a0, (.sc (.int .i64 12))] H fun t7 H =>
 p.bin .eql t7 (.sc (.int .i64 0)) fun t9 =>
 p.cond t9
 (p.call 9 (.fn 158 [] []) [a0] H fun t11 H =>
 p.fadr 0 t3 fun t12 =>
 p.store 1 t12 t11 H fun H =>
 p.load true 4 t3 H fun t27 =>
 p.store 4 t2 t27 H fun H =>
 p.load true 4 t2 H fun r0 =>
 k r0 H)
 (p.bin .eql t7 (.sc (.int .i64 1)) fun t14 =>
 p.cond t14
 (p.fill [(.sc (.int .i64 0)), (.sc (.int .i64 0))] [(0, 1, (.sc (.int .i64 40))), (1, 1, (.sc (.int .i64 41)))] fun ct17 => p.newSl 2 1 ct17 true H fun t17 H =>
 p.call 3 (.fn 32 [] []) [a0, t17] H fun t18 H =>
 p.call 22 (.fn 159 [] []) [a0, t18] H fun t19 H =>
 p.fadr 1 t3 fun t20 =>
 p.store 1 t20 t19 H fun H =>
 p.load true 4 t3 H fun t27 =>
 p.store 4 t2 t27 H fun H =>
 p.load true 4 t2 H fun r0 =>
 k r0 H)
 (p.bin .eql t7 (.sc (.int .i64 2)) fun t22 =>
 p.cond t22
 (p.fill [(.sc (.int .i64 0)), (.sc (.int .i64 0))] [(0, 1, (.sc (.int .i64 (-1)))), (1, 1, (.sc (.int .i64 3)))] fun ct24 => p.newSl 2 1 ct24 true H fun t24 H =>
 p.call 3 (.fn 32 [] []) [a0, t24] H fun t25 H =>
 p.fadr 2 t3 fun t26 =>
 p.store 1 t26 t25 H fun H =>
 p.load true 4 t3 H fun t27 =>
 p.store 4 t2 t27 H fun H =>
 p.load true 4 t2 H fun r0 =>
 k r0 H)
 (p.load true 4 t3 H fun t27 =>
 p.store 4 t2 t27 H fun H =>
 p.load true 4 t2 H fun r0 =>
 k r0 H)))
theorem Abp : Jl Agn @f140 := fun p n a0 H k => by kernel_rfl
noncomputable def f139 (p : Pr β) (n : Nat) (a0 : AV) (H : Ac) (k : KO β) : Option β :=
 p.call 79 (.fn 141 [] []) [a0, (.sc (.int .i64 8))] H fun t5 H =>
 p.call 4 (.fn 28 [] []) [a0, (.sc (.int .i64 4))] H fun t7 H =>
 M7 (fun (t3 : AV) (H : Ac) => k t3 H) fun j1 =>
 p.cond t7
 (p.call 73 (.fn 140 [] []) [a0] H fun t10 H =>
 p.fill [(.sc (.string ⟨#[]⟩)), .nl, (.sc (.int .i64 0)), (.sc (.bool false))] [(0, 4, t10)] fun ct11 => p.newSl 1 4 ct11 true H fun t11 H =>
 p.app 4 56 t5 t11 H fun t12 H =>
 j1 t12 H)
 (j1 t5 H)
theorem Abj : Jl Agf @f139 := fun p n a0 H k => by kernel_rfl
noncomputable def f102 (p : Pr β) (n : Nat) (a0 : AV) (H : Ac) (k : KO β) : Option β :=
 p.new [(.sc (.int .i64 0)), .nl, .nl] H fun t2 H =>
 p.call 115 (.fn 106 [] []) [a0] H fun t5 H =>
 p.new [(.sc (.int .i64 0)), .nl, .nl] H fun t3 H =>
 p.store 3 t3 t5 H fun H =>
 p.call 3 (.fn 29 [] []) [a0, (.sc (.int .i64 14))] H fun t7 H =>
 p.bin .eql t7 (.sc (.int .i64 0)) fun t9 =>
 p.cond t9
 (p.fill [(.sc (.int .i64 0)), (.sc (.int .i64 0))] [(0, 1, (.sc (.int .i64 (-1)))), (1, 1, (.sc (.int .i64 65536)))] fun ct11 => p.newSl 2 1 ct11 true H fun t11 H =>
 p.call 3 (.fn 32 [] []) [a0, t11] H fun t12 H =>
 p.fadr 0 t3 fun t13 =>
 p.store 1 t13 t12 H fun H =>
 p.load true 3 t3 H fun t68 =>
 p.store 3 t2 t68 H fun H =>
 p.load true 3 t2 H fun r0 =>
 k r0 H)
 (p.bin .eql t7 (.sc (.int .i64 1)) fun t15 =>
 p.cond t15
 (p.call 79 (.fn 139 [] []) [a0] H fun t17 H =>
 p.fadr 2 t3 fun t18 =>
 p.store 1 t18 t17 H fun H =>
 p.load true 3 t3 H fun t68 =>
 p.store 3 t2 t68 H fun H =>
 p.load true 3 t2 H fun r0 =>
 k r0 H)
 (p.bin .eql t7 (.sc (.int .i64 2)) fun t20 =>
 p.cond t20
 (p.fadr 1 t3 fun t21 =>
 p.load false 1 t21 H fun t22 =>
 p.len t22 fun t23 =>
 p.bin .gtr t23 (.sc (.int .i64 0)) fun t24 =>
 p.cond t24
 (p.fadr 1 t3 fun t25 =>
 p.both
 (p.load false 1 t25 H fun t26 =>
 p.fill [(.sc (.int .i64 0)), (.sc (.int .i64 0)), (.sc (.int .i64 0)), (.sc (.int .i64 0))] [(0, 1, (.sc (.int .i64 0))), (1, 1, (.sc (.int .i64 1))), (2, 1, (.sc (.int .i64 2))), (3, 1, (.sc (.int .i64 65536)))] fun ct28 => p.newSl 4 1 ct28 true H fun t28 H =>
 p.call 3 (.fn 32 [] []) [a0, t28] H fun t29 H =>
 p.iadr 6 t26 (.sc (.int .i64 0)) fun t30 =>
 p.fadr 0 t30 fun t31 =>
 p.store 1 t31 t29 H fun H =>
 p.load true 3 t3 H fun t68 =>
 p.store 3 t2 t68 H fun H =>
 p.load true 3 t2 H fun r0 =>
 k r0 H)
 (p.fill [(.sc (.int .i64 0)), (.sc (.int .i64 0)), (.sc (.int .i64 0)), (.sc (.int .i64 0))] [(0, 1, (.sc (.int .i64 0))), (1, 1, (.sc (.int .i64 1))), (2, 1, (.sc (.int .i64 2))), (3, 1, (.sc (.int .i64 65536)))] fun ct28 => p.newSl 4 1 ct28 true H fun t28 H =>
 p.both
 (p.load false 1 t25 H fun t26 =>
 p.call 3 (.fn 32 [] []) [a0, t28] H fun t29 H =>
 p.iadr 6 t26 (.sc (.int .i64 0)) fun t30 =>
 p.fadr 0 t30 fun t31 =>
 p.store 1 t31 t29 H fun H =>
 p.load true 3 t3 H fun t68 =>
 p.store 3 t2 t68 H fun H =>
 p.load true 3 t2 H fun r0 =>
 k r0 H)
 (p.call 3 (.fn 32 [] []) [a0, t28] H fun t29 H =>
 p.load false 1 t25 H fun t26 =>
 p.iadr 6 t26 (.sc (.int .i64 0)) fun t30 =>
 p.fadr 0 t30 fun t31 =>
 p.store 1 t31 t29 H fun H =>
 p.load true 3 t3 H fun t68 =>
 p.store 3 t2 t68 H fun H =>
 p.load true 3 t2 H fun r0 =>
 k r0 H)))
 (p.load true 3 t3 H fun t68 =>
 p.store 3 t2 t68 H fun H =>
 p.load true 3 t2 H fun r0 =>
 k r0 H))
 (p.bin .eql t7 (.sc (.int .i64 3)) fun t33 =>
 p.cond t33
 (p.fadr 1 t3 fun t34 =>
 p.load false 1 t34 H fun t35 =>
 p.len t35 fun t36 =>
 p.bin .gtr t36 (.sc (.int .i64 0)) fun t37 =>
 p.cond t37
 (p.fadr 1 t3 fun t38 =>
 p.both
 (p.load false 1 t38 H fun t39 =>
 p.fill [(.sc (.int .i64 0)), (.sc (.int .i64 0)), (.sc (.int .i64 0)), (.sc (.int .i64 0)), (.sc (.int .i64 0))] [(0, 1, (.sc (.int .i64 0))), (1, 1, (.sc (.int .i64 1))), (2, 1, (.sc (.int .i64 2))), (3, 1, (.sc (.int .i64 3))), (4, 1, (.sc (.int .i64 4)))] fun ct41 => p.newSl 5 1 ct41 true H fun t41 H =>
 p.call 3 (.fn 32 [] []) [a0, t41] H fun t42 H =>
 p.iadr 6 t39 (.sc (.int .i64 0)) fun t43 =>
 p.fadr 5 t43 fun t44 =>
 p.store 1 t44 t42 H fun H =>
 p.load true 3 t3 H fun t68 =>
 p.store 3 t2 t68 H fun H =>
 p.load true 3 t2 H fun r0 =>
 k r0 H)
 (p.fill [(.sc (.int .i64 0)), (.sc (.int .i64 0)), (.sc (.int .i64 0)), (.sc (.int .i64 0)), (.sc (.int .i64 0))] [(0, 1, (.sc (.int .i64 0))), (1, 1, (.sc (.int .i64 1))), (2, 1, (.sc (.int .i64 2))), (3, 1, (.sc (.int .i64 3))), (4, 1, (.sc (.int .i64 4)))] fun ct41 => p.newSl 5 1 ct41 true H fun t41 H =>
 p.both
 (p.load false 1 t38 H fun t39 =>
 p.call 3 (.fn 32 [] []) [a0, t41] H fun t42 H =>
 p.iadr 6 t39 (.sc (.int .i64 0)) fun t43 =>
 p.fadr 5 t43 fun t44 =>
 p.store 1 t44 t42 H fun H =>
 p.load true 3 t3 H fun t68 =>
 p.store 3 t2 t68 H fun H =>
 p.load true 3 t2 H fun r0 =>
 k r0 H)
 (p.call 3 (.fn 32 [] []) [a0, t41] H fun t42 H =>
 p.load false 1 t38 H fun t39 =>
 p.iadr 6 t39 (.sc (.int .i64 0)) fun t43 =>
 p.fadr 5 t43 fun t44 =>
 p.store 1 t44 t42 H fun H =>
 p.load true 3 t3 H fun t68 =>
 p.store 3 t2 t68 H fun H =>
 p.load true 3 t2 H fun r0 =>
 k r0 H)))
 (p.load true 3 t3 H fun t68 =>
 p.store 3 t2 t68 H fun H =>
 p.load true 3 t2 H fun r0 =>
 k r0 H))
 (p.bin .eql t7 (.sc (.int .i64 4)) fun t46 =>
 p.cond t46
 (p.fadr 1 t3 fun t47 =>
 p.load false 1 t47 H fun t48 =>
 p.len t48 fun t49 =>
 p.bin .gtr t49 (.sc (.int .i64 0)) fun t50 =>
 p.cond t50
 (p.fadr 1 t3 fun t51 =>
 p.both
 (p.load false 1 t51 H fun t52 =>
 p.call 73 (.fn 140 [] []) [a0] H fun t54 H =>
 p.iadr 6 t52 (.sc (.int .i64 0)) fun t55 =>
 p.fadr 1 t55 fun t56 =>
 p.store 4 t56 t54 H fun H =>
 p.load true 3 t3 H fun t68 =>
 p.store 3 t2 t68 H fun H =>
 p.load true 3 t2 H fun r0 =>
 k r0 H)
 (p.call 73 (.fn 140 [] []) [a0] H fun t54 H =>
 p.load false 1 t51 H fun t52 =>
 p.iadr 6 t52 (.sc (.int .i64 0)) fun t55 =>
 p.fadr 1 t55 fun t56 =>
 p.store 4 t56 t54 H fun H =>
 p.load true 3 t3 H fun t68 =>
 p.store 3 t2 t68 H fun H =>
 p.load true 3 t2 H fun r0 =>
 k r0 H))
 (p.load true 3 t3 H fun t68 =>
 p.store 3 t2 t68 H fun H =>
 p.load true 3 t2 H fun r0 =>
 k r0 H))
 (p.bin .eql t7 (.sc (.int .i64 5)) fun t58 =>
 p.cond t58
 (p.fadr 1 t3 fun t59 =>
 p.load false 1 t59 H fun t60 =>
 p.fill [(.sc (.string ⟨#[]⟩)), .nl, (.sc (.int .i64 0)), (.sc (.bool false))] [(0, 1, (.sc (.string ⟨#[97]⟩))), (2, 1, (.sc (.int .i64 1)))] fun ct61 =>
 p.fill [(.sc (.int .i64 0)), (.sc (.string ⟨#[]⟩)), .nl, (.sc (.int .i64 0)), (.sc (.bool false)), (.sc (.int .i64 0))] [(0, 1, (.sc (.int .i64 9))), (1, 4, (.agg ct61)), (5, 1, (.sc (.int .i64 1)))] fun ct62 =>
 p.fill [(.sc (.string ⟨#[]⟩)), .nl, (.sc (.int .i64 0)), (.sc (.bool false))] [(0, 1, (.sc (.string ⟨#[97]⟩))), (2, 1, (.sc (.int .i64 2)))] fun ct63 =>
 p.fill [(.sc (.int .i64 0)), (.sc (.string ⟨#[]⟩)), .nl, (.sc (.int .i64 0)), (.sc (.bool false)), (.sc (.int .i64 0))] [(0, 1, (.sc (.int .i64 10))), (1, 4, (.agg ct63)), (5, 1, (.sc (.int .i64 3)))] fun ct64 =>
 p.fill [(.sc (.int .i64 0)), (.sc (.string ⟨#[]⟩)), .nl, (.sc (.int .i64 0)), (.sc (.bool false)), (.sc (.int .i64 0)), (.sc (.int .i64 0)), (.sc (.string ⟨#[]⟩)), .nl, (.sc (.int .i64 0)), (.sc (.bool false)), (.sc (.int .i64 0))] [(0, 6, (.agg ct62)), (6, 6, (.agg ct64))] fun ct65 => p.newSl 2 6 ct65 true H fun t65 H =>
 p.app 6 72 t60 t65 H fun t66 H =>
 p.fadr 1 t3 fun t67 =>
 p.store 1 t67 t66 H fun H =>
 p.load true 3 t3 H fun t68 =>
 p.store 3 t2 t68 H fun H =>
 p.load true 3 t2 H fun r0 =>
 k r0 H)
 (p.load true 3 t3 H fun t68 =>
 p.store 3 t2 t68 H fun H =>
 p.load true 3 t2 H fun r0 =>
 k r0 H))))))
theorem AaW : Jl AfI @f102 := fun p n a0 H k => by kernel_rfl
noncomputable def f103 (p : Pr β) (n : Nat) (a0 : AV) (H : Ac) (k : KO β) : Option β :=
 p.call 53 (.fn 107 [] []) [a0] H fun t5 H =>
 p.call 3 (.fn 29 [] []) [a0, (.sc (.int .i64 8))] H fun t7 H =>
 p.bin .eql t7 (.sc (.int .i64 0)) fun t9 =>
 p.cond t9
 (p.fill [(.sc (.int .i64 0)), (.sc (.int .i64 0)), (.sc (.int .i64 0)), (.sc (.int .i64 0))] [(0, 1, (.sc (.int .i64 0))), (1, 1, (.sc (.int .i64 1))), (2, 1, (.sc (.int .i64 65535))), (3, 1, (.sc (.int .i64 65536)))] fun ct12 => p.newSl 4 1 ct12 true H fun t12 H =>
 p.call 3 (.fn 32 [] []) [a0, t12] H fun t13 H =>
 p.fill [(.sc (.int .i64 0))] [(0, 1, t13)] fun ct14 => p.newSl 1 1 ct14 true H fun t14 H =>
 p.app 1 8 t5 t14 H fun t15 H =>
 k t15 H)
 (p.bin .eql t7 (.sc (.int .i64 1)) fun t17 =>
 p.cond t17
 (p.fill [(.sc (.int .i64 0)), (.sc (.int .i64 0)), (.sc (.int .i64 0)), (.sc (.int .i64 0))] [(0, 1, (.sc (.int .i64 1))), (1, 1, (.sc (.int .i64 2))), (2, 1, (.sc (.int .i64 3))), (3, 1, (.sc (.int .i64 4)))] fun ct18 => p.newSl 4 1 ct18 true H fun t18 H =>
 k t18 H)
 (p.bin .eql t7 (.sc (.int .i64 2)) fun t20 =>
 p.cond t20
 (p.fill [(.sc (.int .i64 0)), (.sc (.int .i64 0)), (.sc (.int .i64 0)), (.sc (.int .i64 0)), (.sc (.int .i64 0))] [(0, 1, (.sc (.int .i64 7))), (1, 1, (.sc (.int .i64 8))), (2, 1, (.sc (.int .i64 9))), (3, 1, (.sc (.int .i64 10))), (4, 1, (.sc (.int .i64 11)))] fun ct22 => p.newSl 5 1 ct22 true H fun t22 H =>
 p.app 1 8 t5 t22 H fun t23 H =>
 k t23 H)
 (k t5 H)))
theorem AbK : Jl AfW @f103 := fun p n a0 H k => by kernel_rfl
noncomputable def f62 (p : Pr β) (n : Nat) (a0 : AV) (H : Ac) (k : KO β) : Option β :=
 p.new [(.sc (.string ⟨#[]⟩)), (.sc (.int .i64 0)), (.sc (.bool false)), (.sc (.int .i64 0)), (.sc (.int .i64 0)), (.sc (.int .i64 0)), .nl, .nl, .nl] H fun t2 H =>
 p.call 9 (.fn 101 [] []) [a0] H fun t6 H =>
 p.call 117 (.fn 63 [] []) [a0, t6] H fun t7 H =>
 p.new [(.sc (.string ⟨#[]⟩)), (.sc (.int .i64 0)), (.sc (.bool false)), (.sc (.int .i64 0)), (.sc (.int .i64 0)), (.sc (.int .i64 0)), .nl, .nl, .nl] H fun t3 H =>
 p.store 9 t3 t7 H fun H =>
 p.call 3 (.fn 29 [] []) [a0, (.sc (.int .i64 18))] H fun t9 H =>
 p.bin .eql t9 (.sc (.int .i64 0)) fun t11 =>
 p.cond t11
 (p.fill [(.sc (.string ⟨#[]⟩)), (.sc (.string ⟨#[]⟩))] [(0, 1, (.sc (.string ⟨#[]⟩))), (1, 1, (.sc (.string ⟨#[255]⟩)))] fun ct13 => p.newSl 2 1 ct13 true H fun t13 H =>
 p.call 9 (.fn 64 [] []) [a0, t13] H fun t14 H =>
 p.fadr 0 t3 fun t15 =>
 p.store 1 t15 t14 H fun H =>
 p.load true 9 t3 H fun t47 =>
 p.store 9 t2 t47 H fun H =>
 p.load true 9 t2 H fun r0 =>
 k r0 H)
 (p.bin .eql t9 (.sc (.int .i64 1)) fun t17 =>
 p.cond t17
 (p.fadr 1 t3 fun t18 =>
 p.store 1 t18 (.sc (.int .i64 (-1))) H fun H =>
 p.load true 9 t3 H fun t47 =>
 p.store 9 t2 t47 H fun H =>
 p.load true 9 t2 H fun r0 =>
 k r0 H)
 (p.bin .eql t9 (.sc (.int .i64 2)) fun t20 =>
 p.cond t20
 (p.fadr 2 t3 fun t21 =>
 p.load false 1 t21 H fun t22 =>
 p.un .not t22 fun t23 =>
 p.fadr 2 t3 fun t24 =>
 p.store 1 t24 t23 H fun H =>
 p.load true 9 t3 H fun t47 =>
 p.store 9 t2 t47 H fun H =>
 p.load true 9 t2 H fun r0 =>
 k r0 H)
 (p.bin .eql t9 (.sc (.int .i64 3)) fun t26 =>
 p.cond t26
 (p.fill [(.sc (.int .i64 0)), (.sc (.int .i64 0)), (.sc (.int .i64 0))] [(0, 1, (.sc (.int .i64 (-2)))), (1, 1, (.sc (.int .i64 (-1)))), (2, 1, (.sc (.int .i64 4)))] fun ct28 => p.newSl 3 1 ct28 true H fun t28 H =>
 p.call 3 (.fn 32 [] []) [a0, t28] H fun t29 H =>
 p.fadr 3 t3 fun t30 =>
 p.store 1 t30 t29 H fun H =>
 p.load true 9 t3 H fun t47 =>
 p.store 9 t2 t47 H fun H =>
 p.load true 9 t2 H fun r0 =>
 k r0 H)
 (p.bin .eql t9 (.sc (.int .i64 4)) fun t32 =>
 p.cond t32
 (p.fill [(.sc (.int .i64 0)), (.sc (.int .i64 0))] [(0, 1, (.sc (.int .i64 (-1)))), (1, 1, (.sc (.int .i64 0)))] fun ct34 => p.newSl 2 1 ct34 true H fun t34 H =>
 p.call 3 (.fn 32 [] []) [a0, t34] H fun t35 H =>
 p.fadr 4 t3 fun t36 =>
 p.store 1 t36 t35 H fun H =>
 p.load true 9 t3 H fun t47 =>
 p.store 9 t2 t47 H fun H =>
 p.load true 9 t2 H fun r0 =>
 k r0 H)
 (p.bin .eql t9 (.sc (.int .i64 5)) fun t38 =>
 p.cond t38
 (p.call 115 (.fn 102 [] []) [a0] H fun t40 H =>
 p.fadr 5 t3 fun t41 =>
 p.store 3 t41 t40 H fun H =>
 p.load true 9 t3 H fun t47 =>
 p.store 9 t2 t47 H fun H =>
 p.load true 9 t2 H fun r0 =>
 k r0 H)
 (p.bin .eql t9 (.sc (.int .i64 6)) fun t43 =>
 p.cond t43
 (p.call 53 (.fn 103 [] []) [a0] H fun t45 H =>
 p.fadr 8 t3 fun t46 =>
 p.store 1 t46 t45 H fun H =>
 p.load true 9 t3 H fun t47 =>
 p.store 9 t2 t47 H fun H =>
 p.load true 9 t2 H fun r0 =>
 k r0 H)
 (p.load true 9 t3 H fun t47 =>
 p.store 9 t2 t47 H fun H =>
 p.load true 9 t2 H fun r0 =>
 k r0 H)))))))
theorem AcK : Jl AhE @f62 := fun p n a0 H k => by kernel_rfl
noncomputable def Kt (p : Pr β) (n : Nat)  (k : KO β) : Nat → AV → AV → AV → AV → KO β
 | 0, _, _, _, _, _, _ => none
 | m + 1, t0, t2, t4, t5, t6, H => p.bin .lss t6 (.sc (.int .i64 4)) fun t36 =>
   p.cond t36
   (p.fadr 1 t4 fun t39 =>
   p.both
   (p.load false 1 t39 H fun t40 =>
   p.fill [(.sc (.string ⟨#[]⟩)), (.sc (.string ⟨#[]⟩)), (.sc (.string ⟨#[]⟩)), (.sc (.string ⟨#[]⟩))] [(0, 1, (.sc (.string ⟨#[100]⟩))), (1, 1, (.sc (.string ⟨#[103]⟩))), (2, 1, (.sc (.string ⟨#[106]⟩))), (3, 1, (.sc (.string ⟨#[109]⟩)))] fun ct43 => p.newSl 4 1 ct43 true H fun t43 H =>
   p.call 9 (.fn 64 [] []) [t0, t43] H fun t44 H =>
   p.call 117 (.fn 63 [] []) [t0, t44] H fun t45 H =>
   p.fill [(.sc (.string ⟨#[]⟩)), (.sc (.int .i64 0)), (.sc (.bool false)), (.sc (.int .i64 0)), (.sc (.int .i64 0)), (.sc (.int .i64 0)), .nl, .nl, .nl] [(0, 9, t45)] fun ct46 => p.newSl 1 9 ct46 true H fun t46 H =>
   p.app 9 128 t40 t46 H fun t47 H =>
   p.fadr 1 t4 fun t48 =>
   p.store 1 t48 t47 H fun H =>
   p.bin .add t6 (.sc (.int .i64 1)) fun t38 =>
   Kt p n  k m t0 t2 t4 t5 t38 H)
   (p.fill [(.sc (.string ⟨#[]⟩)), (.sc (.string ⟨#[]⟩)), (.sc (.string ⟨#[]⟩)), (.sc (.string ⟨#[]⟩))] [(0, 1, (.sc (.string ⟨#[100]⟩))), (1, 1, (.sc (.string ⟨#[103]⟩))), (2, 1, (.sc (.string ⟨#[106]⟩))), (3, 1, (.sc (.string ⟨#[109]⟩)))] fun ct43 => p.newSl 4 1 ct43 true H fun t43 H =>
   p.both
   (p.load false 1 t39 H fun t40 =>
   p.call 9 (.fn 64 [] []) [t0, t43] H fun t44 H =>
   p.call 117 (.fn 63 [] []) [t0, t44] H fun t45 H =>
   p.fill [(.sc (.string ⟨#[]⟩)), (.sc (.int .i64 0)), (.sc (.bool false)), (.sc (.int .i64 0)), (.sc (.int .i64 0)), (.sc (.int .i64 0)), .nl, .nl, .nl] [(0, 9, t45)] fun ct46 => p.newSl 1 9 ct46 true H fun t46 H =>
   p.app 9 128 t40 t46 H fun t47 H =>
   p.fadr 1 t4 fun t48 =>
   p.store 1 t48 t47 H fun H =>
   p.bin .add t6 (.sc (.int .i64 1)) fun t38 =>
   Kt p n  k m t0 t2 t4 t5 t38 H)
   (p.call 9 (.fn 64 [] []) [t0, t43] H fun t44 H =>
   p.both
   (p.load false 1 t39 H fun t40 =>
   p.call 117 (.fn 63 [] []) [t0, t44] H fun t45 H =>
   p.fill [(.sc (.string ⟨#[]⟩)), (.sc (.int .i64 0)), (.sc (.bool false)), (.sc (.int .i64 0)), (.sc (.int .i64 0)), (.sc (.int .i64 0)), .nl, .nl, .nl] [(0, 9, t45)] fun ct46 => p.newSl 1 9 ct46 true H fun t46 H =>
   p.app 9 128 t40 t46 H fun t47 H =>
   p.fadr 1 t4 fun t48 =>
   p.store 1 t48 t47 H fun H =>
   p.bin .add t6 (.sc (.int .i64 1)) fun t38 =>
   Kt p n  k m t0 t2 t4 t5 t38 H)
   (p.call 117 (.fn 63 [] []) [t0, t44] H fun t45 H =>
   p.load false 1 t39 H fun t40 =>
   p.fill [(.sc (.string ⟨#[]⟩)), (.sc (.int .i64 0)), (.sc (.bool false)), (.sc (.int .i64 0)), (.sc (.int .i64 0)), (.sc (.int .i64 0)), .nl, .nl, .nl] [(0, 9, t45)] fun ct46 => p.newSl 1 9 ct46 true H fun t46 H =>
   p.app 9 128 t40 t46 H fun t47 H =>
   p.fadr 1 t4 fun t48 =>
   p.store 1 t48 t47 H fun H =>
   p.bin .add t6 (.sc (.int .i64 1)) fun t38 =>
   Kt p n  k m t0 t2 t4 t5 t38 H))))
   (p.load true 2 t4 H fun t49 =>
   p.store 2 t2 t49 H fun H =>
   p.load true 2 t2 H fun r0 =>
   k (Cq [r0, t5]) H)
noncomputable def f27 (p : Pr β) (n : Nat) (a0 : AV) (H : Ac) (k : KO β) : Option β :=
 p.new [(.sc (.int .i64 0)), .nl] H fun t2 H =>
 p.call 27 (.fn 61 [] []) [a0] H fun t9 H =>
 p.extr t9 0 fun t10 =>
 p.extr t9 1 fun t11 =>
 p.new [(.sc (.int .i64 0)), .nl] H fun t4 H =>
 p.store 2 t4 t10 H fun H =>
 p.call 3 (.fn 29 [] []) [a0, (.sc (.int .i64 12))] H fun t13 H =>
 p.bin .eql t13 (.sc (.int .i64 0)) fun t15 =>
 p.cond t15
 (p.fill [(.sc (.int .i64 0)), (.sc (.int .i64 0))] [(0, 1, (.sc (.int .i64 (-2)))), (1, 1, (.sc (.int .i64 8)))] fun ct17 => p.newSl 2 1 ct17 true H fun t17 H =>
 p.call 3 (.fn 32 [] []) [a0, t17] H fun t18 H =>
 p.fadr 0 t4 fun t19 =>
 p.store 1 t19 t18 H fun H =>
 p.load true 2 t4 H fun t49 =>
 p.store 2 t2 t49 H fun H =>
 p.load true 2 t2 H fun r0 =>
 k (Cq [r0, t11]) H)
 (p.bin .eql t13 (.sc (.int .i64 1)) fun t21 =>
 p.cond t21
 (p.fadr 1 t4 fun t22 =>
 p.both
 (p.load false 1 t22 H fun t23 =>
 p.call 117 (.fn 62 [] []) [a0] H fun t25 H =>
 p.fill [(.sc (.string ⟨#[]⟩)), (.sc (.int .i64 0)), (.sc (.bool false)), (.sc (.int .i64 0)), (.sc (.int .i64 0)), (.sc (.int .i64 0)), .nl, .nl, .nl] [(0, 9, t25)] fun ct26 => p.newSl 1 9 ct26 true H fun t26 H =>
 p.app 9 128 t23 t26 H fun t27 H =>
 p.fadr 1 t4 fun t28 =>
 p.store 1 t28 t27 H fun H =>
 p.load true 2 t4 H fun t49 =>
 p.store 2 t2 t49 H fun H =>
 p.load true 2 t2 H fun r0 =>
 k (Cq [r0, t11]) H)
 (p.call 117 (.fn 62 [] []) [a0] H fun t25 H =>
 p.load false 1 t22 H fun t23 =>
 p.fill [(.sc (.string ⟨#[]⟩)), (.sc (.int .i64 0)), (.sc (.bool false)), (.sc (.int .i64 0)), (.sc (.int .i64 0)), (.sc (.int .i64 0)), .nl, .nl, .nl] [(0, 9, t25)] fun ct26 => p.newSl 1 9 ct26 true H fun t26 H =>
 p.app 9 128 t23 t26 H fun t27 H =>
 p.fadr 1 t4 fun t28 =>
 p.store 1 t28 t27 H fun H =>
 p.load true 2 t4 H fun t49 =>
 p.store 2 t2 t49 H fun H =>
 p.load true 2 t2 H fun r0 =>
 k (Cq [r0, t11]) H))
 (p.bin .eql t13 (.sc (.int .i64 2)) fun t30 =>
 p.cond t30
 (p.call 3 (.fn 29 [] []) [a0, (.sc (.int .i64 4))] H fun t32 H =>
 p.load true 2 t4 H fun t49 =>
 p.store 2 t2 t49 H fun H =>
 p.load true 2 t2 H fun r0 =>
 k (Cq [r0, t32]) H)
 (p.bin .eql t13 (.sc (.int .i64 3)) fun t34 =>
 p.cond t34
 (Kt p n  k n a0 t2 t4 t11 (.sc (.int .i64 0)) H)
 (p.load true 2 t4 H fun t49 =>
 p.store 2 t2 t49 H fun H =>
 p.load true 2 t2 H fun r0 =>
 k (Cq [r0, t11]) H))))
noncomputable def AcI (p : Pr β) (n : Nat)  (k : KO β) (m : Nat) (tm : Tm) (H : Ac) : Option β :=
 Dz 51 (fun tm H k => An At p o27 51 n (cd c27 [1, 1, 0, 1, 0, 1, 2, 1, 2, 1, 2, 1, 1, 1, 0, 0]) tm H k) (E5 1 (E5 0 (Em (fun tm H => An At p o27 51 n (cd c27 [1, 1, 1]) tm H (C9 At p fi27.results k)) (C9 At p fi27.results k)))) m tm H
theorem Ab7 (p : Pr β) (n : Nat)  (k : KO β) (m0 : Nat) : ∀ (t : Nat → AV) (H : Ac), AcI p n  k m0 (tf 51 0 t) H = Kt p n  k m0 (t 0) (t 2) (t 4) (t 5) (t 6) H := by
 induction m0 with
 | zero => intros; rfl
 | succ m0 ih =>
  intro t H
  refine Eq.trans (Cd (nt := 51) (m := m0) (g := fun t H => Kt p n  k m0 (t 0) (t 2) (t 4) (t 5) (t 6) H) ih rfl) ?_
  kernel_rfl
theorem AfB (p : Pr β) (n : Nat) (a0 : AV) (H : Ac) (k : KO β) : Ct At p n fi27 [a0] H k =
 p.new [(.sc (.int .i64 0)), .nl] H fun t2 H =>
 p.call 27 (.fn 61 [] []) [a0] H fun t9 H =>
 p.extr t9 0 fun t10 =>
 p.extr t9 1 fun t11 =>
 p.new [(.sc (.int .i64 0)), .nl] H fun t4 H =>
 p.store 2 t4 t10 H fun H =>
 p.call 3 (.fn 29 [] []) [a0, (.sc (.int .i64 12))] H fun t13 H =>
 p.bin .eql t13 (.sc (.int .i64 0)) fun t15 =>
 p.cond t15
 (p.fill [(.sc (.int .i64 0)), (.sc (.int .i64 0))] [(0, 1, (.sc (.int .i64 (-2)))), (1, 1, (.sc (.int .i64 8)))] fun ct17 => p.newSl 2 1 ct17 true H fun t17 H =>
 p.call 3 (.fn 32 [] []) [a0, t17] H fun t18 H =>
 p.fadr 0 t4 fun t19 =>
 p.store 1 t19 t18 H fun H =>
 p.load true 2 t4 H fun t49 =>
 p.store 2 t2 t49 H fun H =>
 p.load true 2 t2 H fun r0 =>
 k (Cq [r0, t11]) H)
 (p.bin .eql t13 (.sc (.int .i64 1)) fun t21 =>
 p.cond t21
 (p.fadr 1 t4 fun t22 =>
 p.both
 (p.load false 1 t22 H fun t23 =>
 p.call 117 (.fn 62 [] []) [a0] H fun t25 H =>
 p.fill [(.sc (.string ⟨#[]⟩)), (.sc (.int .i64 0)), (.sc (.bool false)), (.sc (.int .i64 0)), (.sc (.int .i64 0)), (.sc (.int .i64 0)), .nl, .nl, .nl] [(0, 9, t25)] fun ct26 => p.newSl 1 9 ct26 true H fun t26 H =>
 p.app 9 128 t23 t26 H fun t27 H =>
 p.fadr 1 t4 fun t28 =>
 p.store 1 t28 t27 H fun H =>
 p.load true 2 t4 H fun t49 =>
 p.store 2 t2 t49 H fun H =>
 p.load true 2 t2 H fun r0 =>
 k (Cq [r0, t11]) H)
 (p.call 117 (.fn 62 [] []) [a0] H fun t25 H =>
 p.load false 1 t22 H fun t23 =>
 p.fill [(.sc (.string ⟨#[]⟩)), (.sc (.int .i64 0)), (.sc (.bool false)), (.sc (.int .i64 0)), (.sc (.int .i64 0)), (.sc (.int .i64 0)), .nl, .nl, .nl] [(0, 9, t25)] fun ct26 => p.newSl 1 9 ct26 true H fun t26 H =>
 p.app 9 128 t23 t26 H fun t27 H =>
 p.fadr 1 t4 fun t28 =>
 p.store 1 t28 t27 H fun H =>
 p.load true 2 t4 H fun t49 =>
 p.store 2 t2 t49 H fun H =>
 p.load true 2 t2 H fun r0 =>
 k (Cq [r0, t11]) H))
 (p.bin .eql t13 (.sc (.int .i64 2)) fun t30 =>
 p.cond t30
 (p.call 3 (.fn 29 [] []) [a0, (.sc (.int .i64 4))] H fun t32 H =>
 p.load true 2 t4 H fun t49 =>
 p.store 2 t2 t49 H fun H =>
 p.load true 2 t2 H fun r0 =>
 k (Cq [r0, t32]) H)
 (p.bin .eql t13 (.sc (.int .i64 3)) fun t34 =>
 p.cond t34
 (AcI p n  k n (tf 51 0 (ud [(0, a0), (2, t2), (3, (.sc (.int .i64 0))), (4, t4), (5, t11), (6, (.sc (.int .i64 0))), (7, t9), (8, a0), (9, t9), (10, t10), (11, t11), (12, a0), (13, t13), (14, t15), (15, t15), (20, t21), (21, t21), (29, t30), (30, t30), (33, t34), (34, t34)] ut)) H)
 (p.load true 2 t4 H fun t49 =>
 p.store 2 t2 t49 H fun H =>
 p.load true 2 t2 H fun r0 =>
 k (Cq [r0, t11]) H)))) := by kernel_rfl
theorem AdR : Jl fi27 @f27 := fun p n a0 H k => by
 rw [AfB]
 simp only [Ab7]
 kernel_rfl
noncomputable def f7 (p : Pr β) (n : Nat) (a0 : AV) (H : Ac) (k : KO β) : Option β :=
 p.new [(.sc (.int .i64 0)), .nl] H fun t2 H =>
 p.call 61 (.fn 26 [] []) [a0] H fun t8 H =>
 p.call 27 (.fn 27 [] []) [t8] H fun t11 H =>
 p.extr t11 0 fun t12 =>
 p.extr t11 1 fun t13 =>
 p.new [(.sc (.int .i64 0)), .nl] H fun t5 H =>
 p.store 2 t5 t12 H fun H =>
 p.call 4 (.fn 28 [] []) [t8, (.sc (.int .i64 2))] H fun t15 H =>
 M7 (fun (t2 t4 t5 : AV) (H : Ac) => p.both
 (p.load true 2 t5 H fun t17 =>
 p.call 3 (.fn 29 [] []) [t4, (.sc (.int .i64 10))] H fun t19 H =>
 p.bin .sub t19 (.sc (.int .i64 1)) fun t20 =>
 p.store 2 t2 t17 H fun H =>
 p.load true 2 t2 H fun r0 =>
 k (Cq [r0, t20]) H)
 (p.call 3 (.fn 29 [] []) [t4, (.sc (.int .i64 10))] H fun t19 H =>
 p.load true 2 t5 H fun t17 =>
 p.bin .sub t19 (.sc (.int .i64 1)) fun t20 =>
 p.store 2 t2 t17 H fun H =>
 p.load true 2 t2 H fun r0 =>
 k (Cq [r0, t20]) H)) fun j1 =>
 p.cond t15
 (p.fadr 0 t5 fun t16 =>
 p.store 1 t16 (.sc (.int .i64 (-1))) H fun H =>
 j1 t2 t8 t5 H)
 (j1 t2 t8 t5 H)
theorem Afk : Jl fi7 @f7 := fun p n a0 H k => by kernel_rfl
noncomputable def Nd (p : Pr β) (n : Nat)  (k : KO β) : Nat → AV → AV → AV → KO β
 | 0, _, _, _, _, _ => none
 | m + 1, t3, t7, t8, t9, H => p.bin .lss t9 t8 fun t10 =>
   p.cond t10
   (p.iadr 1 t7 t9 fun t11 =>
   p.load false 1 t11 H fun t12 =>
   p.app 1 1 t3 t12 H fun t15 H =>
   p.bin .add t9 (.sc (.int .i64 1)) fun t16 =>
   Nd p n  k m t15 t7 t8 t16 H)
   (k t3 H)
noncomputable def f167 (p : Pr β) (n : Nat) (a0 : AV) (H : Ac) (k : KO β) : Option β :=
 p.len a0 fun t8 =>
 Nd p n  k n .nl a0 t8 (.sc (.int .i64 0)) H
noncomputable def Aa9 (p : Pr β) (n : Nat)  (k : KO β) (m : Nat) (tm : Tm) (H : Ac) : Option β :=
 Dz 18 (fun tm H k => An At p [] 18 n (cd Ahg [1, 1, 0, 1, 0, 0]) tm H k) (E5 0 (Em (fun tm H => An At p [] 18 n (cd Ahg [1, 1, 1]) tm H (C9 At p fi167.results k)) (C9 At p fi167.results k))) m tm H
theorem Ya (p : Pr β) (n : Nat)  (k : KO β) (m0 : Nat) : ∀ (t : Nat → AV) (H : Ac), Aa9 p n  k m0 (tf 18 0 t) H = Nd p n  k m0 (t 3) (t 7) (t 8) (t 9) H := by
 induction m0 with
 | zero => intros; rfl
 | succ m0 ih =>
  intro t H
  refine Eq.trans (Cd (nt := 18) (m := m0) (g := fun t H => Nd p n  k m0 (t 3) (t 7) (t 8) (t 9) H) ih rfl) ?_
  kernel_rfl
theorem AcB (p : Pr β) (n : Nat) (a0 : AV) (H : Ac) (k : KO β) : Ct At p n fi167 [a0] H k =
 p.len a0 fun t8 =>
 Aa9 p n  k n (tf 18 0 (ud [(0, a0), (2, .nl), (3, .nl), (6, .nl), (7, a0), (8, t8), (9, (.sc (.int .i64 0)))] ut)) H := by kernel_rfl
theorem Ab4 : Jl fi167 @f167 := fun p n a0 H k => by
 rw [AcB]
 simp only [Ya]
 kernel_rfl
noncomputable def f147 (p : Pr β) (n : Nat) (a0 : AV) (H : Ac) (k : KO β) : Option β :=
 p.box a0 H fun t1 H =>
 p.new [(.sc (.string ⟨#[]⟩)), .nl, (.sc (.int .i64 0)), (.sc (.bool false))] H fun t2 H =>
 p.fadr 1 t1 fun t3 =>
 p.load false 1 t3 H fun t4 =>
 p.fill [.nl] [(0, 1, t4)] fun ct5 => p.newSl 1 1 ct5 true H fun t5 H =>
 p.call 22 (.fn 167 [] []) [t5] H fun t6 H =>
 p.fadr 1 t1 fun t7 =>
 p.store 1 t7 t6 H fun H =>
 p.load true 4 t1 H fun t8 =>
 p.store 4 t2 t8 H fun H =>
 p.load true 4 t2 H fun r0 =>
 k r0 H
theorem Acm : Jl Agb @f147 := fun p n a0 H k => by kernel_rfl
noncomputable def Lk (p : Pr β) (n : Nat)  (k : KO β) : Nat → AV → AV → AV → KO β
 | 0, _, _, _, _, _ => none
 | m + 1, t3, t7, t8, t9, H => p.bin .lss t9 t8 fun t10 =>
   p.cond t10
   (p.iadr 4 t7 t9 fun t11 =>
   p.load true 4 t11 H fun t12 =>
   p.new [(.sc (.string ⟨#[]⟩)), .nl, (.sc (.int .i64 0)), (.sc (.bool false))] H fun t5 H =>
   p.store 4 t5 t12 H fun H =>
   p.load true 4 t5 H fun t14 =>
   p.call 73 (.fn 147 [] []) [t14] H fun t15 H =>
   p.fill [(.sc (.string ⟨#[]⟩)), .nl, (.sc (.int .i64 0)), (.sc (.bool false))] [(0, 4, t15)] fun ct16 => p.newSl 1 4 ct16 true H fun t16 H =>
   p.app 4 56 t3 t16 H fun t17 H =>
   p.bin .add t9 (.sc (.int .i64 1)) fun t18 =>
   Lk p n  k m t17 t7 t8 t18 H)
   (k t3 H)
noncomputable def f146 (p : Pr β) (n : Nat) (a0 : AV) (H : Ac) (k : KO β) : Option β :=
 p.len a0 fun t8 =>
 Lk p n  k n .nl a0 t8 (.sc (.int .i64 0)) H
noncomputable def Z4 (p : Pr β) (n : Nat)  (k : KO β) (m : Nat) (tm : Tm) (H : Ac) : Option β :=
 Dz 20 (fun tm H k => An At p [] 20 n (cd AgF [1, 1, 0, 1, 0, 0]) tm H k) (E5 0 (Em (fun tm H => An At p [] 20 n (cd AgF [1, 1, 1]) tm H (C9 At p fi146.results k)) (C9 At p fi146.results k))) m tm H
theorem Y2 (p : Pr β) (n : Nat)  (k : KO β) (m0 : Nat) : ∀ (t : Nat → AV) (H : Ac), Z4 p n  k m0 (tf 20 0 t) H = Lk p n  k m0 (t 3) (t 7) (t 8) (t 9) H := by
 induction m0 with
 | zero => intros; rfl
 | succ m0 ih =>
  intro t H
  refine Eq.trans (Cd (nt := 20) (m := m0) (g := fun t H => Lk p n  k m0 (t 3) (t 7) (t 8) (t 9) H) ih rfl) ?_
  kernel_rfl
theorem Adt (p : Pr β) (n : Nat) (a0 : AV) (H : Ac) (k : KO β) : Ct At p n fi146 [a0] H k =
 p.len a0 fun t8 =>
 Z4 p n  k n (tf 20 0 (ud [(0, a0), (2, .nl), (3, .nl), (6, .nl), (7, a0), (8, t8), (9, (.sc (.int .i64 0)))] ut)) H := by kernel_rfl
theorem AaU : Jl fi146 @f146 := fun p n a0 H k => by
 rw [Adt]
 simp only [Y2]
 kernel_rfl
noncomputable def Nf (p : Pr β) (n : Nat)  (k : KO β) : Nat → AV → AV → AV → AV → KO β
 | 0, _, _, _, _, _, _ => none
 | m + 1, t2, t3, t13, t14, t15, H => p.bin .lss t15 t14 fun t16 =>
   p.cond t16
   (p.iadr 6 t13 t15 fun t17 =>
   p.load true 6 t17 H fun t18 =>
   p.new [(.sc (.int .i64 0)), (.sc (.string ⟨#[]⟩)), .nl, (.sc (.int .i64 0)), (.sc (.bool false)), (.sc (.int .i64 0))] H fun t5 H =>
   p.store 6 t5 t18 H fun H =>
   p.fadr 1 t3 fun t19 =>
   p.load false 1 t19 H fun t20 =>
   p.fadr 0 t5 fun t21 =>
   p.load false 1 t21 H fun t22 =>
   p.fadr 1 t5 fun t23 =>
   p.load true 4 t23 H fun t24 =>
   p.fadr 5 t5 fun t26 =>
   p.load false 1 t26 H fun t27 =>
   p.call 73 (.fn 147 [] []) [t24] H fun t25 H =>
   p.fill [(.sc (.int .i64 0)), (.sc (.string ⟨#[]⟩)), .nl, (.sc (.int .i64 0)), (.sc (.bool false)), (.sc (.int .i64 0))] [(0, 1, t22), (1, 4, t25), (5, 1, t27)] fun ct28 =>
   p.fill [(.sc (.int .i64 0)), (.sc (.string ⟨#[]⟩)), .nl, (.sc (.int .i64 0)), (.sc (.bool false)), (.sc (.int .i64 0))] [(0, 6, (.agg ct28))] fun ct29 => p.newSl 1 6 ct29 true H fun t29 H =>
   p.app 6 72 t20 t29 H fun t30 H =>
   p.fadr 1 t3 fun t31 =>
   p.store 1 t31 t30 H fun H =>
   p.bin .add t15 (.sc (.int .i64 1)) fun t32 =>
   Nf p n  k m t2 t3 t13 t14 t32 H)
   (p.load true 3 t3 H fun t33 =>
   p.store 3 t2 t33 H fun H =>
   p.load true 3 t2 H fun r0 =>
   k r0 H)
noncomputable def f108 (p : Pr β) (n : Nat) (a0 : AV) (H : Ac) (k : KO β) : Option β :=
 p.box a0 H fun t1 H =>
 p.new [(.sc (.int .i64 0)), .nl, .nl] H fun t2 H =>
 p.fadr 0 t1 fun t6 =>
 p.load false 1 t6 H fun t7 =>
 p.fadr 2 t1 fun t8 =>
 p.load false 1 t8 H fun t9 =>
 p.both
 (p.call 79 (.fn 146 [] []) [t9] H fun t10 H =>
 p.fill [(.sc (.int .i64 0)), .nl, .nl] [(0, 1, t7), (2, 1, t10)] fun ct11 =>
 p.new [(.sc (.int .i64 0)), .nl, .nl] H fun t3 H =>
 p.store 3 t3 (.agg ct11) H fun H =>
 p.fadr 1 t1 fun t12 =>
 p.load false 1 t12 H fun t13 =>
 p.len t13 fun t14 =>
 Nf p n  k n t2 t3 t13 t14 (.sc (.int .i64 0)) H)
 (p.new [(.sc (.int .i64 0)), .nl, .nl] H fun t3 H =>
 p.call 79 (.fn 146 [] []) [t9] H fun t10 H =>
 p.fill [(.sc (.int .i64 0)), .nl, .nl] [(0, 1, t7), (2, 1, t10)] fun ct11 =>
 p.store 3 t3 (.agg ct11) H fun H =>
 p.fadr 1 t1 fun t12 =>
 p.load false 1 t12 H fun t13 =>
 p.len t13 fun t14 =>
 Nf p n  k n t2 t3 t13 t14 (.sc (.int .i64 0)) H)
noncomputable def Vp (p : Pr β) (n : Nat)  (k : KO β) (m : Nat) (tm : Tm) (H : Ac) : Option β :=
 Dz 34 (fun tm H k => An At p AgJ 34 n (cd AgM [1, 1, 0, 1, 0, 0]) tm H k) (E5 0 (Em (fun tm H => An At p AgJ 34 n (cd AgM [1, 1, 1]) tm H (C9 At p fi108.results k)) (C9 At p fi108.results k))) m tm H
theorem Yo (p : Pr β) (n : Nat)  (k : KO β) (m0 : Nat) : ∀ (t : Nat → AV) (H : Ac), Vp p n  k m0 (tf 34 0 t) H = Nf p n  k m0 (t 2) (t 3) (t 13) (t 14) (t 15) H := by
 induction m0 with
 | zero => intros; rfl
 | succ m0 ih =>
  intro t H
  refine Eq.trans (Cd (nt := 34) (m := m0) (g := fun t H => Nf p n  k m0 (t 2) (t 3) (t 13) (t 14) (t 15) H) ih rfl) ?_
  kernel_rfl
theorem Ac6 (p : Pr β) (n : Nat) (a0 : AV) (H : Ac) (k : KO β) : Ct At p n fi108 [a0] H k =
 p.box a0 H fun t1 H =>
 p.new [(.sc (.int .i64 0)), .nl, .nl] H fun t2 H =>
 p.fadr 0 t1 fun t6 =>
 p.load false 1 t6 H fun t7 =>
 p.fadr 2 t1 fun t8 =>
 p.load false 1 t8 H fun t9 =>
 p.both
 (p.call 79 (.fn 146 [] []) [t9] H fun t10 H =>
 p.fill [(.sc (.int .i64 0)), .nl, .nl] [(0, 1, t7), (2, 1, t10)] fun ct11 =>
 p.new [(.sc (.int .i64 0)), .nl, .nl] H fun t3 H =>
 p.store 3 t3 (.agg ct11) H fun H =>
 p.fadr 1 t1 fun t12 =>
 p.load false 1 t12 H fun t13 =>
 p.len t13 fun t14 =>
 Vp p n  k n (tf 34 0 (ud [(0, a0), (1, t1), (2, t2), (3, t3), (6, t6), (7, t7), (8, t8), (9, t9), (10, t10), (11, (.agg ct11)), (12, t12), (13, t13), (14, t14), (15, (.sc (.int .i64 0)))] ut)) H)
 (p.new [(.sc (.int .i64 0)), .nl, .nl] H fun t3 H =>
 p.call 79 (.fn 146 [] []) [t9] H fun t10 H =>
 p.fill [(.sc (.int .i64 0)), .nl, .nl] [(0, 1, t7), (2, 1, t10)] fun ct11 =>
 p.store 3 t3 (.agg ct11) H fun H =>
 p.fadr 1 t1 fun t12 =>
 p.load false 1 t12 H fun t13 =>
 p.len t13 fun t14 =>
 Vp p n  k n (tf 34 0 (ud [(0, a0), (1, t1), (2, t2), (3, t3), (6, t6), (7, t7), (8, t8), (9, t9), (10, t10), (11, (.agg ct11)), (12, t12), (13, t13), (14, t14), (15, (.sc (.int .i64 0)))] ut)) H) := by kernel_rfl
theorem Ack : Jl fi108 @f108 := fun p n a0 H k => by
 rw [Ac6]
 simp only [Yo]
 kernel_rfl
noncomputable def f109 (p : Pr β) (n : Nat) (a0 : AV) (H : Ac) (k : KO β) : Option β :=
 p.app 1 8 .nl a0 H fun t5 H =>
 k t5 H
theorem AbU : Jl AfS @f109 := fun p n a0 H k => by kernel_rfl
noncomputable def f66 (p : Pr β) (n : Nat) (a0 : AV) (H : Ac) (k : KO β) : Option β :=
 p.box a0 H fun t1 H =>
 p.new [(.sc (.string ⟨#[]⟩)), (.sc (.int .i64 0)), (.sc (.bool false)), (.sc (.int .i64 0)), (.sc (.int .i64 0)), (.sc (.int .i64 0)), .nl, .nl, .nl] H fun t2 H =>
 p.fadr 5 t1 fun t3 =>
 p.load true 3 t3 H fun t4 =>
 p.fadr 8 t1 fun t6 =>
 p.load false 1 t6 H fun t7 =>
 p.call 115 (.fn 108 [] []) [t4] H fun t5 H =>
 p.fadr 5 t1 fun t9 =>
 p.call 53 (.fn 109 [] []) [t7] H fun t8 H =>
 p.store 3 t9 t5 H fun H =>
 p.fadr 8 t1 fun t10 =>
 p.store 1 t10 t8 H fun H =>
 p.load true 9 t1 H fun t11 =>
 p.store 9 t2 t11 H fun H =>
 p.load true 9 t2 H fun r0 =>
 k r0 H
theorem Ac4 : Jl Aif @f66 := fun p n a0 H k => by kernel_rfl
noncomputable def S7 (p : Pr β) (n : Nat)  (k : KO β) : Nat → AV → AV → AV → AV → KO β
 | 0, _, _, _, _, _, _ => none
 | m + 1, t2, t3, t10, t11, t12, H => p.bin .lss t12 t11 fun t13 =>
   p.cond t13
   (p.iadr 9 t10 t12 fun t14 =>
   p.load true 9 t14 H fun t15 =>
   p.new [(.sc (.string ⟨#[]⟩)), (.sc (.int .i64 0)), (.sc (.bool false)), (.sc (.int .i64 0)), (.sc (.int .i64 0)), (.sc (.int .i64 0)), .nl, .nl, .nl] H fun t5 H =>
   p.store 9 t5 t15 H fun H =>
   p.fadr 1 t3 fun t16 =>
   p.load false 1 t16 H fun t17 =>
   p.load true 9 t5 H fun t18 =>
   p.call 117 (.fn 66 [] []) [t18] H fun t19 H =>
   p.fill [(.sc (.string ⟨#[]⟩)), (.sc (.int .i64 0)), (.sc (.bool false)), (.sc (.int .i64 0)), (.sc (.int .i64 0)), (.sc (.int .i64 0)), .nl, .nl, .nl] [(0, 9, t19)] fun ct20 => p.newSl 1 9 ct20 true H fun t20 H =>
   p.app 9 128 t17 t20 H fun t21 H =>
   p.fadr 1 t3 fun t22 =>
   p.store 1 t22 t21 H fun H =>
   p.bin .add t12 (.sc (.int .i64 1)) fun t23 =>
   S7 p n  k m t2 t3 t10 t11 t23 H)
   (p.load true 2 t3 H fun t24 =>
   p.store 2 t2 t24 H fun H =>
   p.load true 2 t2 H fun r0 =>
   k r0 H)
noncomputable def f30 (p : Pr β) (n : Nat) (a0 : AV) (H : Ac) (k : KO β) : Option β :=
 p.box a0 H fun t1 H =>
 p.new [(.sc (.int .i64 0)), .nl] H fun t2 H =>
 p.fadr 0 t1 fun t6 =>
 p.load false 1 t6 H fun t7 =>
 p.fill [(.sc (.int .i64 0)), .nl] [(0, 1, t7)] fun ct8 =>
 p.new [(.sc (.int .i64 0)), .nl] H fun t3 H =>
 p.store 2 t3 (.agg ct8) H fun H =>
 p.fadr 1 t1 fun t9 =>
 p.load false 1 t9 H fun t10 =>
 p.len t10 fun t11 =>
 S7 p n  k n t2 t3 t10 t11 (.sc (.int .i64 0)) H
noncomputable def AcS (p : Pr β) (n : Nat)  (k : KO β) (m : Nat) (tm : Tm) (H : Ac) : Option β :=
 Dz 25 (fun tm H k => An At p o30 25 n (cd c30 [1, 1, 0, 1, 0, 0]) tm H k) (E5 0 (Em (fun tm H => An At p o30 25 n (cd c30 [1, 1, 1]) tm H (C9 At p fi30.results k)) (C9 At p fi30.results k))) m tm H
theorem AbH (p : Pr β) (n : Nat)  (k : KO β) (m0 : Nat) : ∀ (t : Nat → AV) (H : Ac), AcS p n  k m0 (tf 25 0 t) H = S7 p n  k m0 (t 2) (t 3) (t 10) (t 11) (t 12) H := by
 induction m0 with
 | zero => intros; rfl
 | succ m0 ih =>
  intro t H
  refine Eq.trans (Cd (nt := 25) (m := m0) (g := fun t H => S7 p n  k m0 (t 2) (t 3) (t 10) (t 11) (t 12) H) ih rfl) ?_
  kernel_rfl
theorem Afs (p : Pr β) (n : Nat) (a0 : AV) (H : Ac) (k : KO β) : Ct At p n fi30 [a0] H k =
 p.box a0 H fun t1 H =>
 p.new [(.sc (.int .i64 0)), .nl] H fun t2 H =>
 p.fadr 0 t1 fun t6 =>
 p.load false 1 t6 H fun t7 =>
 p.fill [(.sc (.int .i64 0)), .nl] [(0, 1, t7)] fun ct8 =>
 p.new [(.sc (.int .i64 0)), .nl] H fun t3 H =>
 p.store 2 t3 (.agg ct8) H fun H =>
 p.fadr 1 t1 fun t9 =>
 p.load false 1 t9 H fun t10 =>
 p.len t10 fun t11 =>
 AcS p n  k n (tf 25 0 (ud [(0, a0), (1, t1), (2, t2), (3, t3), (6, t6), (7, t7), (8, (.agg ct8)), (9, t9), (10, t10), (11, t11), (12, (.sc (.int .i64 0)))] ut)) H := by kernel_rfl
theorem Adx : Jl fi30 @f30 := fun p n a0 H k => by
 rw [Afs]
 simp only [AbH]
 kernel_rfl
noncomputable def f31 (p : Pr β) (n : Nat) (a0 a1 a2 : AV) (H : Ac) (k : KO β) : Option β :=
 p.bin .geq a0 a1 fun t9 =>
 p.guard t9 true H (fun k' => k' a0 H) fun t11 H =>
 p.guard t9 true H (fun k' => k' a2 H) fun t12 H =>
 p.guard t9 true H (fun k' => p.bin .leq t11 t12 fun t' => k' t' H) fun t13 H =>
 p.pick t9 t13 (.sc (.bool false)) fun t14 =>
 k t14 H
theorem AdL : Bd3 Ah9 @f31 := fun p n a0 a1 a2 H k => by kernel_rfl
noncomputable def f8 (p : Pr β) (n : Nat) (a0 a1 : AV) (H : Ac) (k : KO β) : Option β :=
 p.box a0 H fun t2 H =>
 p.new [(.sc (.int .i64 0)), .nl] H fun t4 H =>
 p.load true 2 t2 H fun t7 =>
 p.call 26 (.fn 30 [] []) [t7] H fun t8 H =>
 p.new [(.sc (.int .i64 0)), .nl] H fun t6 H =>
 p.store 2 t6 t8 H fun H =>
 p.call 4 (.fn 31 [] []) [a1, (.sc (.int .i64 0)), (.sc (.int .i64 7))] H fun t10 H =>
 p.un .not t10 fun t11 =>
 p.guard t11 false H (fun k' => p.fadr 0 t2 fun t' => k' t' H) fun t13 H =>
 p.guard t11 false H (fun k' => p.load false 1 t13 H fun t' => k' t' H) fun t14 H =>
 p.guard t11 false H (fun k' => p.bin .neq t14 (.sc (.int .i64 (-1))) fun t' => k' t' H) fun t15 H =>
 p.pick t11 (.sc (.bool true)) t15 fun t16 =>
 p.cond t16
 (p.load true 2 t6 H fun t17 =>
 p.store 2 t4 t17 H fun H =>
 p.load true 2 t4 H fun r0 =>
 k (Cq [r0, (.sc (.bool false))]) H)
 (p.fadr 0 t6 fun t19 =>
 p.store 1 t19 a1 H fun H =>
 p.load true 2 t6 H fun t20 =>
 p.store 2 t4 t20 H fun H =>
 p.load true 2 t4 H fun r0 =>
 k (Cq [r0, (.sc (.bool true))]) H)
theorem Afn : T7 fi8 @f8 := fun p n a0 a1 H k => by kernel_rfl
noncomputable def f9 (p : Pr β) (n : Nat) (a0 : AV) (H : Ac) (k : KO β) : Option β :=
 p.new [(.sc (.int .i64 0)), .nl] H fun t2 H =>
 p.call 61 (.fn 26 [] []) [a0] H fun t8 H =>
 p.call 27 (.fn 27 [] []) [t8] H fun t11 H =>
 p.extr t11 0 fun t12 =>
 p.extr t11 1 fun t13 =>
 p.new [(.sc (.int .i64 0)), .nl] H fun t5 H =>
 p.store 2 t5 t12 H fun H =>
 p.fadr 0 t5 fun t16 =>
 p.load false 1 t16 H fun t17 =>
 p.fadr 0 t5 fun t18 =>
 p.load false 1 t18 H fun t19 =>
 p.fadr 0 t5 fun t20 =>
 p.load false 1 t20 H fun t21 =>
 p.both
 (p.load true 2 t5 H fun t14 =>
 p.fill [(.sc (.int .i64 0)), (.sc (.int .i64 0)), (.sc (.int .i64 0)), (.sc (.int .i64 0)), (.sc (.int .i64 0)), (.sc (.int .i64 0)), (.sc (.int .i64 0))] [(0, 1, t17), (1, 1, t19), (2, 1, t21), (3, 1, (.sc (.int .i64 0))), (4, 1, (.sc (.int .i64 3))), (5, 1, (.sc (.int .i64 8))), (6, 1, (.sc (.int .i64 (-1))))] fun ct22 => p.newSl 7 1 ct22 true H fun t22 H =>
 p.call 3 (.fn 32 [] []) [t8, t22] H fun t23 H =>
 p.store 2 t2 t14 H fun H =>
 p.load true 2 t2 H fun r0 =>
 k (Cq [r0, t23]) H)
 (p.fill [(.sc (.int .i64 0)), (.sc (.int .i64 0)), (.sc (.int .i64 0)), (.sc (.int .i64 0)), (.sc (.int .i64 0)), (.sc (.int .i64 0)), (.sc (.int .i64 0))] [(0, 1, t17), (1, 1, t19), (2, 1, t21), (3, 1, (.sc (.int .i64 0))), (4, 1, (.sc (.int .i64 3))), (5, 1, (.sc (.int .i64 8))), (6, 1, (.sc (.int .i64 (-1))))] fun ct22 => p.newSl 7 1 ct22 true H fun t22 H =>
 p.both
 (p.load true 2 t5 H fun t14 =>
 p.call 3 (.fn 32 [] []) [t8, t22] H fun t23 H =>
 p.store 2 t2 t14 H fun H =>
 p.load true 2 t2 H fun r0 =>
 k (Cq [r0, t23]) H)
 (p.call 3 (.fn 32 [] []) [t8, t22] H fun t23 H =>
 p.load true 2 t5 H fun t14 =>
 p.store 2 t2 t14 H fun H =>
 p.load true 2 t2 H fun r0 =>
 k (Cq [r0, t23]) H))
theorem AfC : Jl fi9 @f9 := fun p n a0 H k => by kernel_rfl
noncomputable def f10 (p : Pr β) (n : Nat) (a0 a1 : AV) (H : Ac) (k : KO β) : Option β :=
 p.box a0 H fun t2 H =>
 p.new [(.sc (.int .i64 0)), .nl] H fun t4 H =>
 p.load true 2 t2 H fun t7 =>
 p.call 26 (.fn 30 [] []) [t7] H fun t8 H =>
 p.new [(.sc (.int .i64 0)), .nl] H fun t6 H =>
 p.store 2 t6 t8 H fun H =>
 p.call 4 (.fn 31 [] []) [a1, (.sc (.int .i64 0)), (.sc (.int .i64 7))] H fun t10 H =>
 p.un .not t10 fun t11 =>
 p.guard t11 false H (fun k' => p.fadr 0 t2 fun t' => k' t' H) fun t13 H =>
 p.guard t11 false H (fun k' => p.load false 1 t13 H fun t' => k' t' H) fun t14 H =>
 p.guard t11 false H (fun k' => k' a1 H) fun t15 H =>
 p.guard t11 false H (fun k' => p.bin .neq t14 t15 fun t' => k' t' H) fun t16 H =>
 p.pick t11 (.sc (.bool true)) t16 fun t17 =>
 p.cond t17
 (p.load true 2 t6 H fun t18 =>
 p.store 2 t4 t18 H fun H =>
 p.load true 2 t4 H fun r0 =>
 k (Cq [r0, (.sc (.bool false))]) H)
 (p.fadr 0 t6 fun t19 =>
 p.store 1 t19 (.sc (.int .i64 (-1))) H fun H =>
 p.load true 2 t6 H fun t20 =>
 p.store 2 t4 t20 H fun H =>
 p.load true 2 t4 H fun r0 =>
 k (Cq [r0, (.sc (.bool true))]) H)
theorem AcV : T7 AhU @f10 := fun p n a0 a1 H k => by kernel_rfl
noncomputable def f11 (p : Pr β) (n : Nat) (a0 a1 : AV) (H : Ac) (k : KO β) : Option β :=
 p.len a0 fun t7 =>
 p.bin .lss a1 t7 fun t8 =>
 p.cond t8
 (p.iadr 1 a0 a1 fun t11 =>
 p.load false 1 t11 H fun t12 =>
 p.cvI .i64 t12 fun t13 =>
 k t13 H)
 (p.bin .mul a1 (.sc (.int .i64 31)) fun t15 =>
 p.len a0 fun t17 =>
 p.bin .mul t17 (.sc (.int .i64 7)) fun t18 =>
 p.bin .add t15 t18 fun t19 =>
 p.bin .rem t19 (.sc (.int .i64 256)) fun t20 =>
 k t20 H)
theorem Adm : T7 Aid @f11 := fun p n a0 a1 H k => by kernel_rfl
noncomputable def f3 (p : Pr β) (n : Nat) (a0 : AV) (H : Ac) (k : KO β) : Option β :=
 p.call 4 (.fn 6 [] []) [a0] H fun t21 H =>
 p.cond t21
 (k (.sc (.bool true)) H)
 (p.call 27 (.fn 7 [] []) [a0] H fun t24 H =>
 p.extr t24 0 fun t25 =>
 p.extr t24 1 fun t26 =>
 p.new [(.sc (.int .i64 0)), .nl] H fun t3 H =>
 p.store 2 t3 t25 H fun H =>
 p.load true 2 t3 H fun t28 =>
 p.call 29 (.fn 8 [] []) [t28, t26] H fun t30 H =>
 p.extr t30 0 fun t31 =>
 p.extr t30 1 fun t32 =>
 p.new [(.sc (.int .i64 0)), .nl] H fun t5 H =>
 p.store 2 t5 t31 H fun H =>
 p.call 27 (.fn 9 [] []) [a0] H fun t35 H =>
 p.extr t35 0 fun t36 =>
 p.extr t35 1 fun t37 =>
 p.new [(.sc (.int .i64 0)), .nl] H fun t7 H =>
 p.store 2 t7 t36 H fun H =>
 p.load true 2 t7 H fun t39 =>
 p.call 29 (.fn 10 [] []) [t39, t37] H fun t41 H =>
 p.extr t41 0 fun t42 =>
 p.extr t41 1 fun t43 =>
 p.new [(.sc (.int .i64 0)), .nl] H fun t9 H =>
 p.store 2 t9 t42 H fun H =>
 p.fadr 0 t3 fun t45 =>
 p.load false 1 t45 H fun t46 =>
 p.bin .eql t46 (.sc (.int .i64 (-1))) fun t47 =>
 p.guard t47 true H (fun k' => k' t26 H) fun t49 H =>
 p.guard t47 true H (fun k' => p.bin .geq t49 (.sc (.int .i64 0)) fun t' => k' t' H) fun t50 H =>
 p.pick t47 t50 (.sc (.bool false)) fun t51 =>
 p.guard t51 true H (fun k' => k' t26 H) fun t53 H =>
 p.guard t51 true H (fun k' => p.bin .lss t53 (.sc (.int .i64 8)) fun t' => k' t' H) fun t54 H =>
 p.pick t51 t54 (.sc (.bool false)) fun t55 =>
 p.binB .neq t32 t55 fun t56 =>
 p.guard t56 false H (fun k' => k' t43 H) fun t58 H =>
 p.guard t56 false H (fun k' => p.fadr 0 t7 fun t' => k' t' H) fun t59 H =>
 p.guard t56 false H (fun k' => p.load false 1 t59 H fun t' => k' t' H) fun t60 H =>
 p.guard t56 false H (fun k' => k' t37 H) fun t61 H =>
 p.guard t56 false H (fun k' => p.bin .eql t60 t61 fun t' => k' t' H) fun t62 H =>
 p.guard t56 false H (fun k' => k' t62 H) fun t63 H =>
 p.guard t63 true H (fun k' => k' t37 H) fun t64 H =>
 p.guard t63 true H (fun k' => p.bin .geq t64 (.sc (.int .i64 0)) fun t' => k' t' H) fun t65 H =>
 p.guard t56 false H (fun k' => p.pick t63 t65 (.sc (.bool false)) fun t' => k' t' H) fun t66 H =>
 p.guard t56 false H (fun k' => k' t66 H) fun t67 H =>
 p.guard t67 true H (fun k' => k' t37 H) fun t68 H =>
 p.guard t67 true H (fun k' => p.bin .lss t68 (.sc (.int .i64 8)) fun t' => k' t' H) fun t69 H =>
 p.guard t56 false H (fun k' => p.pick t67 t69 (.sc (.bool false)) fun t' => k' t' H) fun t70 H =>
 p.guard t56 false H (fun k' => p.binB .neq t58 t70 fun t' => k' t' H) fun t71 H =>
 p.pick t56 (.sc (.bool true)) t71 fun t72 =>
 p.cond t72
 (k (.sc (.bool false)) H)
 (M7 (fun (t3 t5 t6 t7 t9 t10 : AV) (H : Ac) => p.guard t6 false H (fun k' => p.fadr 0 t5 fun t' => k' t' H) fun t138 H =>
 p.guard t6 false H (fun k' => p.load false 1 t138 H fun t' => k' t' H) fun t139 H =>
 p.guard t6 false H (fun k' => p.fadr 0 t3 fun t' => k' t' H) fun t140 H =>
 p.guard t6 false H (fun k' => p.load false 1 t140 H fun t' => k' t' H) fun t141 H =>
 p.guard t6 false H (fun k' => p.bin .eql t139 t141 fun t' => k' t' H) fun t142 H =>
 p.pick t6 (.sc (.bool true)) t142 fun t143 =>
 p.guard t143 true H (fun k' => k' t10 H) fun t145 H =>
 p.guard t143 true H (fun k' => k' t145 H) fun t146 H =>
 p.guard t146 true H (fun k' => p.fadr 0 t9 fun t' => k' t' H) fun t147 H =>
 p.guard t146 true H (fun k' => p.load false 1 t147 H fun t' => k' t' H) fun t148 H =>
 p.guard t146 true H (fun k' => p.bin .eql t148 (.sc (.int .i64 (-1))) fun t' => k' t' H) fun t149 H =>
 p.guard t143 true H (fun k' => p.pick t146 t149 (.sc (.bool false)) fun t' => k' t' H) fun t150 H =>
 p.guard t143 true H (fun k' => k' t150 H) fun t151 H =>
 p.guard t151 false H (fun k' => k' t10 H) fun t152 H =>
 p.guard t151 false H (fun k' => p.un .not t152 fun t' => k' t' H) fun t153 H =>
 p.guard t151 false H (fun k' => k' t153 H) fun t154 H =>
 p.guard t154 true H (fun k' => p.fadr 0 t9 fun t' => k' t' H) fun t155 H =>
 p.guard t154 true H (fun k' => p.load false 1 t155 H fun t' => k' t' H) fun t156 H =>
 p.guard t154 true H (fun k' => p.fadr 0 t7 fun t' => k' t' H) fun t157 H =>
 p.guard t154 true H (fun k' => p.load false 1 t157 H fun t' => k' t' H) fun t158 H =>
 p.guard t154 true H (fun k' => p.bin .eql t156 t158 fun t' => k' t' H) fun t159 H =>
 p.guard t151 false H (fun k' => p.pick t154 t159 (.sc (.bool false)) fun t' => k' t' H) fun t160 H =>
 p.guard t143 true H (fun k' => p.pick t151 (.sc (.bool true)) t160 fun t' => k' t' H) fun t161 H =>
 p.pick t143 t161 (.sc (.bool false)) fun t162 =>
 k t162 H) fun j1 =>
 p.cond t32
 (p.bin .add t26 (.sc (.int .i64 1)) fun t75 =>
 p.call 3 (.fn 11 [] []) [a0, (.sc (.int .i64 2))] H fun t77 H =>
 p.bin .rem t77 (.sc (.int .i64 7)) fun t78 =>
 p.bin .add t75 t78 fun t79 =>
 p.bin .rem t79 (.sc (.int .i64 8)) fun t80 =>
 p.load true 2 t5 H fun t82 =>
 p.call 29 (.fn 8 [] []) [t82, t80] H fun t84 H =>
 p.extr t84 0 fun t85 =>
 p.extr t84 1 fun t86 =>
 p.new [(.sc (.int .i64 0)), .nl] H fun t12 H =>
 p.store 2 t12 t85 H fun H =>
 p.load true 2 t5 H fun t88 =>
 p.call 29 (.fn 8 [] []) [t88, t26] H fun t90 H =>
 p.extr t90 0 fun t91 =>
 p.extr t90 1 fun t92 =>
 p.new [(.sc (.int .i64 0)), .nl] H fun t14 H =>
 p.store 2 t14 t91 H fun H =>
 p.load true 2 t5 H fun t94 =>
 p.call 29 (.fn 10 [] []) [t94, t80] H fun t96 H =>
 p.extr t96 0 fun t97 =>
 p.extr t96 1 fun t98 =>
 p.new [(.sc (.int .i64 0)), .nl] H fun t16 H =>
 p.store 2 t16 t97 H fun H =>
 p.load true 2 t5 H fun t100 =>
 p.call 29 (.fn 10 [] []) [t100, t26] H fun t102 H =>
 p.extr t102 0 fun t103 =>
 p.extr t102 1 fun t104 =>
 p.new [(.sc (.int .i64 0)), .nl] H fun t18 H =>
 p.store 2 t18 t103 H fun H =>
 p.guard t86 false H (fun k' => k' t92 H) fun t107 H =>
 p.pick t86 (.sc (.bool true)) t107 fun t108 =>
 p.guard t108 false H (fun k' => k' t98 H) fun t110 H =>
 p.pick t108 (.sc (.bool true)) t110 fun t111 =>
 p.guard t111 false H (fun k' => k' t104 H) fun t113 H =>
 p.guard t111 false H (fun k' => p.un .not t113 fun t' => k' t' H) fun t114 H =>
 p.pick t111 (.sc (.bool true)) t114 fun t115 =>
 p.guard t115 false H (fun k' => p.fadr 0 t18 fun t' => k' t' H) fun t117 H =>
 p.guard t115 false H (fun k' => p.load false 1 t117 H fun t' => k' t' H) fun t118 H =>
 p.guard t115 false H (fun k' => p.bin .neq t118 (.sc (.int .i64 (-1))) fun t' => k' t' H) fun t119 H =>
 p.pick t115 (.sc (.bool true)) t119 fun t120 =>
 p.guard t120 false H (fun k' => p.fadr 0 t5 fun t' => k' t' H) fun t122 H =>
 p.guard t120 false H (fun k' => p.load false 1 t122 H fun t' => k' t' H) fun t123 H =>
 p.guard t120 false H (fun k' => k' t26 H) fun t124 H =>
 p.guard t120 false H (fun k' => p.bin .neq t123 t124 fun t' => k' t' H) fun t125 H =>
 p.pick t120 (.sc (.bool true)) t125 fun t126 =>
 p.guard t126 false H (fun k' => p.fadr 1 t18 fun t' => k' t' H) fun t128 H =>
 p.guard t126 false H (fun k' => p.load false 1 t128 H fun t' => k' t' H) fun t129 H =>
 p.guard t126 false H (fun k' => p.len t129 fun t' => k' t' H) fun t130 H =>
 p.guard t126 false H (fun k' => p.fadr 1 t3 fun t' => k' t' H) fun t131 H =>
 p.guard t126 false H (fun k' => p.load false 1 t131 H fun t' => k' t' H) fun t132 H =>
 p.guard t126 false H (fun k' => p.len t132 fun t' => k' t' H) fun t133 H =>
 p.guard t126 false H (fun k' => p.bin .neq t130 t133 fun t' => k' t' H) fun t134 H =>
 p.pick t126 (.sc (.bool true)) t134 fun t135 =>
 p.cond t135
 (k (.sc (.bool false)) H)
 (j1 t3 t5 t32 t7 t9 t43 H))
 (j1 t3 t5 t32 t7 t9 t43 H)))
theorem Afe : Jl fi3 @f3 := fun p n a0 H k => by kernel_rfl
noncomputable def fss : List (Option Fs) := [none, none, none, some fi3, none, none, some fi6, some fi7, some fi8, some fi9, some AhU, some Aid, none, none, none, none, none, none, none, none, none, none, none, none, none, none, some fi26, some fi27, some AhH, some AhB, some fi30, some Ah9, some AhX, none, none, none, none, none, none, none, none, none, none, none, none, none, none, none, none, none, none, none, none, none, none, none, none, none, none, none, none, some fi61, some AhE, some AhT, some AhF, some AhS, some Aif, none, none, none, none, none, none, none, none, none, none, none, none, none, none, none, none, none, none, none, none, none, none, none, none, none, none, none, none, none, none, none, none, some fi99, some fi100, some Agl, some AfI, some AfW, some AfG, some AfL, some fi106, some fi107, some fi108, some AfS, none, none, none, none, none, none, none, none, none, none, none, none, none, none, none, none, none, none, none, none, none, none, none, none, none, none, some AfM, some fi137, some Agm, some Agf, some Agn, some fi141, some fi142, some fi143, some Agc, some AfV, some fi146, some Agb, none, none, none, none, none, some AfJ, some Agi, some fi155, some fi156, some fi157, some Agk, some fi159, some AfQ, some AfK, some Aga, some fi163, some AfN, some Agj, some Agg, some fi167, none, none, some fi170, some AfO, some Agp, some fi173, some fi174, some AfH, some AfP, some fi177, some fi178, none, some fi180, some AfX, some fi182, some Agd, some AhR, none, some fi186, some fi187, some Agh]
noncomputable def tps : List (Nat × List Nat) := [(27, [26, 3]), (29, [26, 4]), (191, [115, 78, 4]), (194, [115, 3]), (207, [79, 73, 4]), (210, [3, 4]), (213, [79, 3]), (224, [3, 3, 4])]
noncomputable def E0 : Mm := { ti := At, tp := fun t => Aab tps t, fs := fun f => (fss[f]?).getD none, ext := fun _ => none, hm := fun f => [7, 9, 15, 23, 24, 26, 27, 28, 29, 32, 38, 39, 40, 41, 42, 56, 57, 58, 59, 60, 61, 62, 63, 64, 65, 73, 74, 75, 76, 101, 102, 103, 106, 107, 118, 119, 139, 140, 141, 145, 158, 159, 166, 176, 183, 197, 198, 199, 200, 201].contains f }
noncomputable def PR (n : Nat) (β : Type) : Pr β := Dy E0 (Dc E0 n) β
abbrev Je (j : Nat) (f : (β : Type) → Pr β → Nat → AV → Ac → KO β → Option β) : Prop := ∀ {β : Type} (n : Nat) (a0 : AV) (H : Ac) (k : KO β), Dc E0 (n + 1) β j [a0] H k = f β (PR n β) n a0 H k
abbrev Tr (j : Nat) (f : (β : Type) → Pr β → Nat → AV → AV → Ac → KO β → Option β) : Prop := ∀ {β : Type} (n : Nat) (a0 a1 : AV) (H : Ac) (k : KO β), Dc E0 (n + 1) β j [a0, a1] H k = f β (PR n β) n a0 a1 H k
abbrev Ce3 (j : Nat) (f : (β : Type) → Pr β → Nat → AV → AV → AV → Ac → KO β → Option β) : Prop := ∀ {β : Type} (n : Nat) (a0 a1 a2 : AV) (H : Ac) (k : KO β), Dc E0 (n + 1) β j [a0, a1, a2] H k = f β (PR n β) n a0 a1 a2 H k
abbrev Ce5 (j : Nat) (f : (β : Type) → Pr β → Nat → AV → AV → AV → AV → AV → Ac → KO β → Option β) : Prop := ∀ {β : Type} (n : Nat) (a0 a1 a2 a3 a4 : AV) (H : Ac) (k : KO β), Dc E0 (n + 1) β j [a0, a1, a2, a3, a4] H k = f β (PR n β) n a0 a1 a2 a3 a4 H k
theorem AhD : Je 6 @f6 := fun n => Afz (PR n _) n
theorem Agt : Je 26 @f26 := fun n => AcQ (PR n _) n
theorem AdO : Je 65 @f65 := fun n => AcM (PR n _) n
theorem Yl : Tr 29 @f29 := fun n => Ads (PR n _) n
theorem Ahl : Tr 64 @f64 := fun n => AdF (PR n _) n
theorem Agv : Tr 28 @f28 := fun n => Adw (PR n _) n
theorem Afg : Ce3 154 @f154 := fun n => AbR (PR n _) n
theorem Af1 : Tr 180 @f180 := fun n => Abt (PR n _) n
theorem Aec : Je 170 @f170 := fun n => Acl (PR n _) n
theorem AeB : Je 153 @f153 := fun n => AaZ (PR n _) n
theorem Aen : Tr 186 @f186 := fun n => Abc (PR n _) n
theorem Afc : Je 187 @f187 := fun n => AaO (PR n _) n
theorem AfF : Je 181 @f181 := fun n => Aco (PR n _) n
theorem AfD : Je 171 @f171 := fun n => Abr (PR n _) n
theorem Afh : Je 172 @f172 := fun n => AbV (PR n _) n
theorem Aex : Je 173 @f173 := fun n => Abk (PR n _) n
theorem AeR : Je 155 @f155 := fun n => AbE (PR n _) n
theorem Aft : Je 156 @f156 := fun n => AbD (PR n _) n
theorem Af9 : Je 136 @f136 := fun n => Aci (PR n _) n
theorem AeG : Ce5 104 @f104 := fun n => Ab6 (PR n _) n
theorem Af6 : Je 175 @f175 := fun n => Abv (PR n _) n
theorem Afj : Je 174 @f174 := fun n => AaI (PR n _) n
theorem Af8 : Je 157 @f157 := fun n => AbX (PR n _) n
theorem Afy : Je 138 @f138 := fun n => Abe (PR n _) n
theorem Aff : Je 105 @f105 := fun n => Abl (PR n _) n
theorem AgI : Tr 32 @f32 := fun n => Ad2 (PR n _) n
theorem Ae1 : Je 166 @f166 := fun n => Abg (PR n _) n
theorem Ae9 : Tr 159 @f159 := fun n => Abw (PR n _) n
theorem AeW : Je 145 @f145 := fun n => Acs (PR n _) n
theorem Aeo : Tr 141 @f141 := fun n => Abx (PR n _) n
theorem AeL : Je 160 @f160 := fun n => Abz (PR n _) n
theorem Ae0 : Je 161 @f161 := fun n => AbY (PR n _) n
theorem Ae3 : Ce3 162 @f162 := fun n => AaQ (PR n _) n
theorem AeP : Tr 177 @f177 := fun n => AaV (PR n _) n
theorem Afv : Tr 163 @f163 := fun n => Abi (PR n _) n
theorem Aev : Je 142 @f142 := fun n => Ab2 (PR n _) n
theorem Ae6 : Je 183 @f183 := fun n => Acc (PR n _) n
theorem AdX : Tr 188 @f188 := fun n => AbN (PR n _) n
theorem Afm : Tr 182 @f182 := fun n => Aba (PR n _) n
theorem Aes : Je 178 @f178 := fun n => AaP (PR n _) n
theorem AeD : Tr 164 @f164 := fun n => AbC (PR n _) n
theorem Afo : Ce3 143 @f143 := fun n => AaS (PR n _) n
theorem AeK : Tr 165 @f165 := fun n => AaT (PR n _) n
theorem Aer : Tr 144 @f144 := fun n => AaN (PR n _) n
theorem Af0 : Je 106 @f106 := fun n => AaM (PR n _) n
theorem Aed : Je 107 @f107 := fun n => AbG (PR n _) n
theorem Ahm : Tr 63 @f63 := fun n => Ad1 (PR n _) n
theorem AgX : Je 99 @f99 := fun n => AcT (PR n _) n
theorem Aeh : Je 137 @f137 := fun n => Abm (PR n _) n
theorem Aea : Tr 100 @f100 := fun n => Acp (PR n _) n
theorem AgS : Je 61 @f61 := fun n => AcY (PR n _) n
theorem Ae4 : Je 101 @f101 := fun n => AbZ (PR n _) n
theorem Af2 : Je 176 @f176 := fun n => Ab8 (PR n _) n
theorem Aez : Je 158 @f158 := fun n => Ace (PR n _) n
theorem Aep : Je 140 @f140 := fun n => Abp (PR n _) n
theorem AdZ : Je 139 @f139 := fun n => Abj (PR n _) n
theorem AeQ : Je 102 @f102 := fun n => AaW (PR n _) n
theorem Afl : Je 103 @f103 := fun n => AbK (PR n _) n
theorem Ag3 : Je 62 @f62 := fun n => AcK (PR n _) n
theorem Ahz : Je 27 @f27 := fun n => AdR (PR n _) n
theorem AhV : Je 7 @f7 := fun n => Afk (PR n _) n
theorem Aeg : Je 167 @f167 := fun n => Ab4 (PR n _) n
theorem AfA : Je 147 @f147 := fun n => Acm (PR n _) n
theorem Afi : Je 146 @f146 := fun n => AaU (PR n _) n
theorem AeF : Je 108 @f108 := fun n => Ack (PR n _) n
theorem Af5 : Je 109 @f109 := fun n => AbU (PR n _) n
theorem Ahv : Je 66 @f66 := fun n => Ac4 (PR n _) n
theorem Agz : Je 30 @f30 := fun n => Adx (PR n _) n
theorem AgB : Ce3 31 @f31 := fun n => AdL (PR n _) n
theorem Aic : Tr 8 @f8 := fun n => Afn (PR n _) n
theorem AhJ : Je 9 @f9 := fun n => AfC (PR n _) n
theorem Ag0 : Tr 10 @f10 := fun n => AcV (PR n _) n
theorem AdC : Tr 11 @f11 := fun n => Adm (PR n _) n
theorem Aia : Je 3 @f3 := fun n => Afe (PR n _) n
end
section
open Go
theorem Ah3 : AdG Try.prog 0 tis = true := by kernel_rfl
theorem Ah2 : Adr E0 fss = true := by kernel_rfl
theorem Adg : Ij Try.prog At := by
 intro t i h
 unfold At at h
 cases hl : tis[t]? with
 | none => rw [hl] at h; cases h
 | some o =>
  rw [hl] at h
  simp only [Option.getD_some] at h
  subst h
  simpa using (U6 tis 0 t i Ah3 hl).1
theorem AhM : ∀ t i, At t = some i → i.ik = some .u8 → i.size = 1 := by
 intro t i h
 unfold At at h
 cases hl : tis[t]? with
 | none => rw [hl] at h; cases h
 | some o =>
  rw [hl] at h
  simp only [Option.getD_some] at h
  subst h
  exact (U6 tis 0 t i Ah3 hl).2
def FnQ (n : Nat) (c : Code) (t : Nat) (f : Func) : Prop := ∃ fn, Try.prog.funcs[n]? = some fn ∧ (fn.name == "runtime.NumGoroutine") = false ∧ fn.body = some c ∧ fn.ntmps = t ∧ fn.results.toList = f.results.toList
theorem G0 {c : Code} {t : Nat} {f : Func} {o : List (Nat × PI)} {i : Fs} {n : Nat} (e : some (some (⟨c, t, f.results.toList, o⟩ : Fs)) = some (some i)) (h : FnQ n c t f) : ∃ fn, Try.prog.funcs[n]? = some fn ∧ (fn.name == "runtime.NumGoroutine") = false ∧ fn.body = some i.body ∧ fn.ntmps = i.ntmps ∧ fn.results.toList = i.results := by cases e; exact h
theorem Aie : ∀ (f : Nat) (i : Fs), f < 189 → fss[f]? = some (some i) → ∃ fn, Try.prog.funcs[f]? = some fn ∧ (fn.name == "runtime.NumGoroutine") = false ∧ fn.body = some i.body ∧ fn.ntmps = i.ntmps ∧ fn.results.toList = i.results
 | 0, i, _, h => nomatch Option.some.inj h
 | 1, i, _, h => nomatch Option.some.inj h
 | 2, i, _, h => nomatch Option.some.inj h
 | 3, i, _, h => G0 (f := Try.f3) h ⟨_, Try.func3, by kernel_rfl, by kernel_rfl, rfl, rfl⟩
 | 4, i, _, h => nomatch Option.some.inj h
 | 5, i, _, h => nomatch Option.some.inj h
 | 6, i, _, h => G0 (f := Try.f6) h ⟨_, Try.func6, by kernel_rfl, by kernel_rfl, rfl, rfl⟩
 | 7, i, _, h => G0 (f := Try.f7) h ⟨_, Try.func7, by kernel_rfl, by kernel_rfl, rfl, rfl⟩
 | 8, i, _, h => G0 (f := Try.f8) h ⟨_, Try.func8, by kernel_rfl, by kernel_rfl, rfl, rfl⟩
 | 9, i, _, h => G0 (f := Try.f9) h ⟨_, Try.func9, by kernel_rfl, by kernel_rfl, rfl, rfl⟩
 | 10, i, _, h => G0 (f := Try.f10) h ⟨_, Try.func10, by kernel_rfl, by kernel_rfl, rfl, rfl⟩
 | 11, i, _, h => G0 (f := Try.f11) h ⟨_, Try.func11, by kernel_rfl, by kernel_rfl, rfl, rfl⟩
 | 12, i, _, h => nomatch Option.some.inj h
 | 13, i, _, h => nomatch Option.some.inj h
 | 14, i, _, h => nomatch Option.some.inj h
 | 15, i, _, h => nomatch Option.some.inj h
 | 16, i, _, h => nomatch Option.some.inj h
 | 17, i, _, h => nomatch Option.some.inj h
 | 18, i, _, h => nomatch Option.some.inj h
 | 19, i, _, h => nomatch Option.some.inj h
 | 20, i, _, h => nomatch Option.some.inj h
 | 21, i, _, h => nomatch Option.some.inj h
 | 22, i, _, h => nomatch Option.some.inj h
 | 23, i, _, h => nomatch Option.some.inj h
 | 24, i, _, h => nomatch Option.some.inj h
 | 25, i, _, h => nomatch Option.some.inj h
 | 26, i, _, h => G0 (f := Try.f26) h ⟨_, Try.func26, by kernel_rfl, by kernel_rfl, rfl, rfl⟩
 | 27, i, _, h => G0 (f := Try.f27) h ⟨_, Try.func27, by kernel_rfl, by kernel_rfl, rfl, rfl⟩
 | 28, i, _, h => G0 (f := Try.f28) h ⟨_, Try.func28, by kernel_rfl, by kernel_rfl, rfl, rfl⟩
 | 29, i, _, h => G0 (f := Try.f29) h ⟨_, Try.func29, by kernel_rfl, by kernel_rfl, rfl, rfl⟩
 | 30, i, _, h => G0 (f := Try.f30) h ⟨_, Try.func30, by kernel_rfl, by kernel_rfl, rfl, rfl⟩
 | 31, i, _, h => G0 (f := Try.f31) h ⟨_, Try.func31, by kernel_rfl, by kernel_rfl, rfl, rfl⟩
 | 32, i, _, h => G0 (f := Try.f32) h ⟨_, Try.func32, by kernel_rfl, by kernel_rfl, rfl, rfl⟩
 | 33, i, _, h => nomatch Option.some.inj h
 | 34, i, _, h => nomatch Option.some.inj h
 | 35, i, _, h => nomatch Option.some.inj h
 | 36, i, _, h => nomatch Option.some.inj h
 | 37, i, _, h => nomatch Option.some.inj h
 | 38, i, _, h => nomatch Option.some.inj h
 | 39, i, _, h => nomatch Option.some.inj h
 | 40, i, _, h => nomatch Option.some.inj h
 | 41, i, _, h => nomatch Option.some.inj h
 | 42, i, _, h => nomatch Option.some.inj h
 | 43, i, _, h => nomatch Option.some.inj h
 | 44, i, _, h => nomatch Option.some.inj h
 | 45, i, _, h => nomatch Option.some.inj h
 | 46, i, _, h => nomatch Option.some.inj h
 | 47, i, _, h => nomatch Option.some.inj h
 | 48, i, _, h => nomatch Option.some.inj h
 | 49, i, _, h => nomatch Option.some.inj h
 | 50, i, _, h => nomatch Option.some.inj h
 | 51, i, _, h => nomatch Option.some.inj h
 | 52, i, _, h => nomatch Option.some.inj h
 | 53, i, _, h => nomatch Option.some.inj h
 | 54, i, _, h => nomatch Option.some.inj h
 | 55, i, _, h => nomatch Option.some.inj h
 | 56, i, _, h => nomatch Option.some.inj h
 | 57, i, _, h => nomatch Option.some.inj h
 | 58, i, _, h => nomatch Option.some.inj h
 | 59, i, _, h => nomatch Option.some.inj h
 | 60, i, _, h => nomatch Option.some.inj h
 | 61, i, _, h => G0 (f := Try.f61) h ⟨_, Try.func61, by kernel_rfl, by kernel_rfl, rfl, rfl⟩
 | 62, i, _, h => G0 (f := Try.f62) h ⟨_, Try.func62, by kernel_rfl, by kernel_rfl, rfl, rfl⟩
 | 63, i, _, h => G0 (f := Try.f63) h ⟨_, Try.func63, by kernel_rfl, by kernel_rfl, rfl, rfl⟩
 | 64, i, _, h => G0 (f := Try.f64) h ⟨_, Try.func64, by kernel_rfl, by kernel_rfl, rfl, rfl⟩
 | 65, i, _, h => G0 (f := Try.f65) h ⟨_, Try.func65, by kernel_rfl, by kernel_rfl, rfl, rfl⟩
 | 66, i, _, h => G0 (f := Try.f66) h ⟨_, Try.func66, by kernel_rfl, by kernel_rfl, rfl, rfl⟩
 | 67, i, _, h => nomatch Option.some.inj h
 | 68, i, _, h => nomatch Option.some.inj h
 | 69, i, _, h => nomatch Option.some.inj h
 | 70, i, _, h => nomatch Option.some.inj h
 | 71, i, _, h => nomatch Option.some.inj h
 | 72, i, _, h => nomatch Option.some.inj h
 | 73, i, _, h => nomatch Option.some.inj h
 | 74, i, _, h => nomatch Option.some.inj h
 | 75, i, _, h => nomatch Option.some.inj h
 | 76, i, _, h => nomatch Option.some.inj h
 | 77, i, _, h => nomatch Option.some.inj h
 | 78, i, _, h => nomatch Option.some.inj h
 | 79, i, _, h => nomatch Option.some.inj h
 | 80, i, _, h => nomatch Option.some.inj h
 | 81, i, _, h => nomatch Option.some.inj h
 | 82, i, _, h => nomatch Option.some.inj h
 | 83, i, _, h => nomatch Option.some.inj h
 | 84, i, _, h => nomatch Option.some.inj h
 | 85, i, _, h => nomatch Option.some.inj h
 | 86, i, _, h => nomatch Option.some.inj h
 | 87, i, _, h => nomatch Option.some.inj h
 | 88, i, _, h => nomatch Option.some.inj h
 | 89, i, _, h => nomatch Option.some.inj h
 | 90, i, _, h => nomatch Option.some.inj h
 | 91, i, _, h => nomatch Option.some.inj h
 | 92, i, _, h => nomatch Option.some.inj h
 | 93, i, _, h => nomatch Option.some.inj h
 | 94, i, _, h => nomatch Option.some.inj h
 | 95, i, _, h => nomatch Option.some.inj h
 | 96, i, _, h => nomatch Option.some.inj h
 | 97, i, _, h => nomatch Option.some.inj h
 | 98, i, _, h => nomatch Option.some.inj h
 | 99, i, _, h => G0 (f := Try.f99) h ⟨_, Try.func99, by kernel_rfl, by kernel_rfl, rfl, rfl⟩
 | 100, i, _, h => G0 (f := Try.f100) h ⟨_, Try.func100, by kernel_rfl, by kernel_rfl, rfl, rfl⟩
 | 101, i, _, h => G0 (f := Try.f101) h ⟨_, Try.func101, by kernel_rfl, by kernel_rfl, rfl, rfl⟩
 | 102, i, _, h => G0 (f := Try.f102) h ⟨_, Try.func102, by kernel_rfl, by kernel_rfl, rfl, rfl⟩
 | 103, i, _, h => G0 (f := Try.f103) h ⟨_, Try.func103, by kernel_rfl, by kernel_rfl, rfl, rfl⟩
 | 104, i, _, h => G0 (f := Try.f104) h ⟨_, Try.func104, by kernel_rfl, by kernel_rfl, rfl, rfl⟩
 | 105, i, _, h => G0 (f := Try.f105) h ⟨_, Try.func105, by kernel_rfl, by kernel_rfl, rfl, rfl⟩
 | 106, i, _, h => G0 (f := Try.f106) h ⟨_, Try.func106, by kernel_rfl, by kernel_rfl, rfl, rfl⟩
 | 107, i, _, h => G0 (f := Try.f107) h ⟨_, Try.func107, by kernel_rfl, by kernel_rfl, rfl, rfl⟩
 | 108, i, _, h => G0 (f := Try.f108) h ⟨_, Try.func108, by kernel_rfl, by kernel_rfl, rfl, rfl⟩
 | 109, i, _, h => G0 (f := Try.f109) h ⟨_, Try.func109, by kernel_rfl, by kernel_rfl, rfl, rfl⟩
 | 110, i, _, h => nomatch Option.some.inj h
 | 111, i, _, h => nomatch Option.some.inj h
 | 112, i, _, h => nomatch Option.some.inj h
 | 113, i, _, h => nomatch Option.some.inj h
 | 114, i, _, h => nomatch Option.some.inj h
 | 115, i, _, h => nomatch Option.some.inj h
 | 116, i, _, h => nomatch Option.some.inj h
 | 117, i, _, h => nomatch Option.some.inj h
 | 118, i, _, h => nomatch Option.some.inj h
 | 119, i, _, h => nomatch Option.some.inj h
 | 120, i, _, h => nomatch Option.some.inj h
 | 121, i, _, h => nomatch Option.some.inj h
 | 122, i, _, h => nomatch Option.some.inj h
 | 123, i, _, h => nomatch Option.some.inj h
 | 124, i, _, h => nomatch Option.some.inj h
 | 125, i, _, h => nomatch Option.some.inj h
 | 126, i, _, h => nomatch Option.some.inj h
 | 127, i, _, h => nomatch Option.some.inj h
 | 128, i, _, h => nomatch Option.some.inj h
 | 129, i, _, h => nomatch Option.some.inj h
 | 130, i, _, h => nomatch Option.some.inj h
 | 131, i, _, h => nomatch Option.some.inj h
 | 132, i, _, h => nomatch Option.some.inj h
 | 133, i, _, h => nomatch Option.some.inj h
 | 134, i, _, h => nomatch Option.some.inj h
 | 135, i, _, h => nomatch Option.some.inj h
 | 136, i, _, h => G0 (f := Try.f136) h ⟨_, Try.func136, by kernel_rfl, by kernel_rfl, rfl, rfl⟩
 | 137, i, _, h => G0 (f := Try.f137) h ⟨_, Try.func137, by kernel_rfl, by kernel_rfl, rfl, rfl⟩
 | 138, i, _, h => G0 (f := Try.f138) h ⟨_, Try.func138, by kernel_rfl, by kernel_rfl, rfl, rfl⟩
 | 139, i, _, h => G0 (f := Try.f139) h ⟨_, Try.func139, by kernel_rfl, by kernel_rfl, rfl, rfl⟩
 | 140, i, _, h => G0 (f := Try.f140) h ⟨_, Try.func140, by kernel_rfl, by kernel_rfl, rfl, rfl⟩
 | 141, i, _, h => G0 (f := Try.f141) h ⟨_, Try.func141, by kernel_rfl, by kernel_rfl, rfl, rfl⟩
 | 142, i, _, h => G0 (f := Try.f142) h ⟨_, Try.func142, by kernel_rfl, by kernel_rfl, rfl, rfl⟩
 | 143, i, _, h => G0 (f := Try.f143) h ⟨_, Try.func143, by kernel_rfl, by kernel_rfl, rfl, rfl⟩
 | 144, i, _, h => G0 (f := Try.f144) h ⟨_, Try.func144, by kernel_rfl, by kernel_rfl, rfl, rfl⟩
 | 145, i, _, h => G0 (f := Try.f145) h ⟨_, Try.func145, by kernel_rfl, by kernel_rfl, rfl, rfl⟩
 | 146, i, _, h => G0 (f := Try.f146) h ⟨_, Try.func146, by kernel_rfl, by kernel_rfl, rfl, rfl⟩
 | 147, i, _, h => G0 (f := Try.f147) h ⟨_, Try.func147, by kernel_rfl, by kernel_rfl, rfl, rfl⟩
 | 148, i, _, h => nomatch Option.some.inj h
 | 149, i, _, h => nomatch Option.some.inj h
 | 150, i, _, h => nomatch Option.some.inj h
 | 151, i, _, h => nomatch Option.some.inj h
 | 152, i, _, h => nomatch Option.some.inj h
 | 153, i, _, h => G0 (f := Try.f153) h ⟨_, Try.func153, by kernel_rfl, by kernel_rfl, rfl, rfl⟩
 | 154, i, _, h => G0 (f := Try.f154) h ⟨_, Try.func154, by kernel_rfl, by kernel_rfl, rfl, rfl⟩
 | 155, i, _, h => G0 (f := Try.f155) h ⟨_, Try.func155, by kernel_rfl, by kernel_rfl, rfl, rfl⟩
 | 156, i, _, h => G0 (f := Try.f156) h ⟨_, Try.func156, by kernel_rfl, by kernel_rfl, rfl, rfl⟩
 | 157, i, _, h => G0 (f := Try.f157) h ⟨_, Try.func157, by kernel_rfl, by kernel_rfl, rfl, rfl⟩
 | 158, i, _, h => G0 (f := Try.f158) h ⟨_, Try.func158, by kernel_rfl, by kernel_rfl, rfl, rfl⟩
 | 159, i, _, h => G0 (f := Try.f159) h ⟨_, Try.func159, by kernel_rfl, by kernel_rfl, rfl, rfl⟩
 | 160, i, _, h => G0 (f := Try.f160) h ⟨_, Try.func160, by kernel_rfl, by kernel_rfl, rfl, rfl⟩
 | 161, i, _, h => G0 (f := Try.f161) h ⟨_, Try.func161, by kernel_rfl, by kernel_rfl, rfl, rfl⟩
 | 162, i, _, h => G0 (f := Try.f162) h ⟨_, Try.func162, by kernel_rfl, by kernel_rfl, rfl, rfl⟩
 | 163, i, _, h => G0 (f := Try.f163) h ⟨_, Try.func163, by kernel_rfl, by kernel_rfl, rfl, rfl⟩
 | 164, i, _, h => G0 (f := Try.f164) h ⟨_, Try.func164, by kernel_rfl, by kernel_rfl, rfl, rfl⟩
 | 165, i, _, h => G0 (f := Try.f165) h ⟨_, Try.func165, by kernel_rfl, by kernel_rfl, rfl, rfl⟩
 | 166, i, _, h => G0 (f := Try.f166) h ⟨_, Try.func166, by kernel_rfl, by kernel_rfl, rfl, rfl⟩
 | 167, i, _, h => G0 (f := Try.f167) h ⟨_, Try.func167, by kernel_rfl, by kernel_rfl, rfl, rfl⟩
 | 168, i, _, h => nomatch Option.some.inj h
 | 169, i, _, h => nomatch Option.some.inj h
 | 170, i, _, h => G0 (f := Try.f170) h ⟨_, Try.func170, by kernel_rfl, by kernel_rfl, rfl, rfl⟩
 | 171, i, _, h => G0 (f := Try.f171) h ⟨_, Try.func171, by kernel_rfl, by kernel_rfl, rfl, rfl⟩
 | 172, i, _, h => G0 (f := Try.f172) h ⟨_, Try.func172, by kernel_rfl, by kernel_rfl, rfl, rfl⟩
 | 173, i, _, h => G0 (f := Try.f173) h ⟨_, Try.func173, by kernel_rfl, by kernel_rfl, rfl, rfl⟩
 | 174, i, _, h => G0 (f := Try.f174) h ⟨_, Try.func174, by kernel_rfl, by kernel_rfl, rfl, rfl⟩
 | 175, i, _, h => G0 (f := Try.f175) h ⟨_, Try.func175, by kernel_rfl, by kernel_rfl, rfl, rfl⟩
 | 176, i, _, h => G0 (f := Try.f176) h ⟨_, Try.func176, by kernel_rfl, by kernel_rfl, rfl, rfl⟩
 | 177, i, _, h => G0 (f := Try.f177) h ⟨_, Try.func177, by kernel_rfl, by kernel_rfl, rfl, rfl⟩
 | 178, i, _, h => G0 (f := Try.f178) h ⟨_, Try.func178, by kernel_rfl, by kernel_rfl, rfl, rfl⟩
 | 179, i, _, h => nomatch Option.some.inj h
 | 180, i, _, h => G0 (f := Try.f180) h ⟨_, Try.func180, by kernel_rfl, by kernel_rfl, rfl, rfl⟩
 | 181, i, _, h => G0 (f := Try.f181) h ⟨_, Try.func181, by kernel_rfl, by kernel_rfl, rfl, rfl⟩
 | 182, i, _, h => G0 (f := Try.f182) h ⟨_, Try.func182, by kernel_rfl, by kernel_rfl, rfl, rfl⟩
 | 183, i, _, h => G0 (f := Try.f183) h ⟨_, Try.func183, by kernel_rfl, by kernel_rfl, rfl, rfl⟩
 | 184, i, _, h => G0 (f := Try.f184) h ⟨_, Try.func184, by kernel_rfl, by kernel_rfl, rfl, rfl⟩
 | 185, i, _, h => nomatch Option.some.inj h
 | 186, i, _, h => G0 (f := Try.f186) h ⟨_, Try.func186, by kernel_rfl, by kernel_rfl, rfl, rfl⟩
 | 187, i, _, h => G0 (f := Try.f187) h ⟨_, Try.func187, by kernel_rfl, by kernel_rfl, rfl, rfl⟩
 | 188, i, _, h => G0 (f := Try.f188) h ⟨_, Try.func188, by kernel_rfl, by kernel_rfl, rfl, rfl⟩
 | n + 189, i, hlt, h => by omega
theorem AiH : ∀ f i, E0.fs f = some i → Ag2 Try.prog E0 f i := by
 intro f i h
 have hl : fss[f]? = some (some i) := by
  have h : (fss[f]?).getD none = some i := h
  cases hl : fss[f]? with
  | none => rw [hl] at h; cases h
  | some o => rw [hl] at h; simp only [Option.getD_some] at h; rw [h]
 refine ⟨?_, Aal Ah2 hl⟩
 have hlt : f < 189 := (List.getElem?_eq_some_iff.1 hl).1
 exact Aie f i hlt hl
def J0 (w : World) : Prop := True
theorem Ai3 : Wg Try.prog E0 J0 := ⟨Adg, AhM, by kernel_rfl, AiH, (fun f g h => by cases h), (fun f q h => by cases h), (fun _ _ _ _ => trivial)⟩
end
section
open Go
variable {β : Type} {n : Nat}
section
variable {k : KO β} {k1 : AV → Option β} {H : Ac}
@[simp] theorem A4 : (PR n β).load = C2 := rfl
@[simp] theorem A6 : (PR n β).store = Dt := rfl
@[simp] theorem Cj : (PR n β).new = Ie := rfl
@[simp] theorem De : (PR n β).box = Qc := rfl
@[simp] theorem Bm : (PR n β).newSl = Fj := rfl
@[simp] theorem Bi : (PR n β).fadr = Mi := rfl
@[simp] theorem Rw : (PR n β).fld = Afd := rfl
@[simp] theorem Cc : (PR n β).iadr = E7 := rfl
@[simp] theorem Fn : (PR n β).idx = Ac2 := rfl
@[simp] theorem Dx : (PR n β).lenS = Wy := rfl
@[simp] theorem Ca : (PR n β).len = P8 := rfl
@[simp] theorem Dj : (PR n β).sliceS = Of := rfl
@[simp] theorem D1 : (PR n β).slice = Jz := rfl
@[simp] theorem Cy : (PR n β).app = Hh := rfl
@[simp] theorem O2 : (PR n β).appS = Aar := rfl
@[simp] theorem A9 : (PR n β).bin = Fh := rfl
@[simp] theorem Ep : (PR n β).binB = Qg := rfl
@[simp] theorem Er : (PR n β).binA = Qz := rfl
@[simp] theorem Ew : (PR n β).un = pUn := rfl
@[simp] theorem Ch : (PR n β).pick = Oj := rfl
@[simp] theorem Eg : (PR n β).cvI = Wu := rfl
@[simp] theorem Or : (PR n β).cvSS = Ad7 := rfl
@[simp] theorem E8 : (PR n β).cvBS = Wv := rfl
@[simp] theorem Nn : (PR n β).cvSB = Vu := rfl
@[simp] theorem Fc : (PR n β).extr = Qm := rfl
@[simp] theorem N6 : (PR n β).nil = AeM := rfl
@[simp] theorem Be : (PR n β).fill = fun a l k => (Ev a l).bind k := rfl
@[simp] theorem Fm : (PR n β).make = Aap := rfl
@[simp] theorem Bx : (PR n β).guard = H9 := rfl
@[simp] theorem Aw : (PR n β).cond = Ih := rfl
@[simp] theorem M1 : (PR n β).clear = Se := rfl
@[simp] theorem Aav : (PR n β).both = Nt := rfl
@[simp] theorem Mr : (PR n β).apart = U0 := rfl
@[simp] theorem Pc : (PR n β).same = Tu := rfl
noncomputable def F4 (f : Nat) : Bool := E0.hm f || (E0.ext f).isSome
theorem W4 {f : Nat} (h : F4 f = false) : E0.hm f = false := by
 unfold F4 at h
 simp only [Bool.or_eq_false_iff] at h
 exact h.1
theorem Ul {f : Nat} (h : F4 f = false) : E0.ext f = none := by
 unfold F4 at h
 simp only [Bool.or_eq_false_iff] at h
 simpa using h.2
theorem El {ty : Nat} {f : FuncId} {args vs : List AV} {t : AV} (hh : F4 f = false) (hv : args.mapM (Ds H 8) = some vs) (ht : Di E0 n ty f vs = some t) :
  (PR n β).call ty (.fn f [] []) args H k = k (Bo At E0.tp H.length ty t).1 (H ++ (Bo At E0.tp H.length ty t).2) := by
 show Mh E0 (Dc E0 n) ty f ([] ++ args ++ []) H k = _
 simp only [Mh, Ul hh, W4 hh, List.nil_append, List.append_nil, Bool.false_eq_true, if_false, Xm, hv, Option.bind_some]
 have ht : Pz E0 (Dc E0 n) ty f vs = some t := ht
 rw [ht]
 rfl
end
theorem Bu (n ty : Nat) (f : FuncId) (args : List AV) : Di E0 n ty f args = Dc E0 n AV f args [] fun x H => Bc At E0.tp ty H x := rfl
@[simp] theorem Aho {ti : Nat → Option TI} {tp : Nat → Option (List Nat)} (ty : Nat) (H : Ac) (v : Value) : Bc ti tp ty H (.sc v) = some (.sc v) := rfl
theorem Fz {ti : Nat → Option TI} {tp : Nat → Option (List Nat)} {H : Ac} {d ty id off n z : Nat} : B6 ti tp H (d + 1) ty (.sl id off n z) = (ti ty).bind fun i => (ti i.elem).bind fun j => if z = j.size then (if Fx H id then (Ba H id off (n * z)).bind fun cs => (Cm (B6 ti tp H d) (List.replicate n j.cty).flatten cs).bind fun q => some (.ro n q.1, id :: q.2) else none) else none := rfl
theorem D4 {ti : Nat → Option TI} {tp : Nat → Option (List Nat)} {H : Ac} {d ty : Nat} {cs : List AV} : B6 ti tp H (d + 1) ty (.agg cs) = (ti ty).bind fun i => (Cm (B6 ti tp H d) i.cty cs).bind fun q => some (.agg q.1, q.2) := rfl
theorem Ft {ti : Nat → Option TI} {tp : Nat → Option (List Nat)} {H : Ac} {d ty : Nat} {cs : List AV} : B6 ti tp H (d + 1) ty (.tup cs) = (tp ty).bind fun ts => (Cm (B6 ti tp H d) ts cs).bind fun q => some (.tup q.1, q.2) := rfl
theorem Gt {ti : Nat → Option TI} {tp : Nat → Option (List Nat)} {H : Ac} {d ty : Nat} {v : Value} : B6 ti tp H (d + 1) ty (.sc v) = some (.sc v, []) := rfl
theorem G8 {ti : Nat → Option TI} {tp : Nat → Option (List Nat)} {n ty : Nat} {v : Value} : Bo ti tp n ty (.sc v) = (.sc v, []) := rfl
theorem Fq {ti : Nat → Option TI} {tp : Nat → Option (List Nat)} {n ty : Nat} {cs : List AV} : Bo ti tp n ty (.agg cs) = (.agg (Bw ti tp n ((ti ty).getD default).cty cs).1, (Bw ti tp n ((ti ty).getD default).cty cs).2) := rfl
theorem P7 {ti : Nat → Option TI} {tp : Nat → Option (List Nat)} {n ty : Nat} {cs : List AV} : Bo ti tp n ty (.tup cs) = (.tup (Bw ti tp n ((tp ty).getD []) cs).1, (Bw ti tp n ((tp ty).getD []) cs).2) := rfl
theorem Oh {H : Ac} {d id off n z : Nat} : Ds H (d + 1) (.sl id off n z) = (Ba H id off (n * z)).bind fun cs => (cs.mapM (Ds H d)).bind fun vs => some (.ro n vs) := rfl
theorem Na {H : Ac} {d : Nat} {cs : List AV} : Ds H (d + 1) (.agg cs) = (cs.mapM (Ds H d)).bind fun vs => some (.agg vs) := rfl
theorem Aai {H : Ac} {d : Nat} : ∀ (l : List Value), (l.map AV.sc).mapM (Ds H (d + 1)) = some (l.map AV.sc)
 | [] => rfl
 | x :: l => by
  have e : Ds H (d + 1) (.sc x) = some (.sc x) := rfl
  simp only [List.map_cons, List.mapM_cons, e, Option.pure_def, Option.bind_eq_bind, Option.bind_some, Aai l]
theorem U8 {ti : Nat → Option TI} {tp : Nat → Option (List Nat)} {H : Ac} {d : Nat} : ∀ (ts : List Nat) (l : List Value), ts.length = l.length → Cm (B6 ti tp H (d + 1)) ts (l.map AV.sc) = some (l.map AV.sc, [])
 | [], [], _ => rfl
 | t :: ts, x :: l, h => by
  have e : B6 ti tp H (d + 1) t (.sc x) = some (.sc x, []) := rfl
  simp only [List.map_cons, Cm, e, Option.bind_some, U8 ts l (by simpa using h), List.append_nil]
 | [], _ :: _, h => by simp at h
 | _ :: _, [], h => by simp at h
theorem Pj {ti : Nat → Option TI} {tp : Nat → Option (List Nat)} {n : Nat} : ∀ (ts : List Nat) (l : List Value), Bw ti tp n ts (l.map AV.sc) = (l.map AV.sc, [])
 | ts, [] => rfl
 | ts, x :: l => by
  simp only [List.map_cons, Bw, Bo, Pj _ l, List.nil_append]
def bv (s : ByteArray) : List Value := s.data.toList.map fun b => .int .u8 b.toNat
theorem Jv (s : ByteArray) : Bh s = (bv s).map AV.sc := by simp [Bh, bv]
theorem Ahr (s : ByteArray) : (bv s).length = s.size := by simp [bv]
theorem Ef (s : ByteArray) : (Bh s).length = s.size := by simp [Bh]
theorem Us (s : ByteArray) : (Bh s).all Aq = true := by
 simp only [Bh, List.all_map, List.all_eq_true]
 intro b _
 rfl
theorem Om : ∀ (l : List UInt8), (l.map fun b => AV.sc (.int .u8 (b.toNat : Int))).mapM Ny = some l
 | [] => rfl
 | b :: l => by
  have e : Ny (.sc (.int .u8 (b.toNat : Int))) = some b := by simp [Ny]
  simp only [List.map_cons, List.mapM_cons, e, Om l, Option.pure_def, Option.bind_eq_bind, Option.bind_some]
end
section
open Go
section gen
variable {ti : Nat → Option TI} {tp : Nat → Option (List Nat)}
def Eh (f : Nat → AV → Prop) : List Nat → List AV → Prop
 | [], [] => True
 | t :: ts, x :: xs => f t x ∧ Eh f ts xs
 | _, _ => False
def Gx (ti : Nat → Option TI) (tp : Nat → Option (List Nat)) : Nat → Nat → AV → Prop
 | 0, _, _ => False
 | d + 1, ty, x =>
  match x with
  | .sc _ => True
  | .ro n cells => ∃ i j, ti ty = some i ∧ ti i.elem = some j ∧ cells.length = n * j.size ∧ Eh (Gx ti tp d) (List.replicate n j.cty).flatten cells
  | .agg cs => ∃ i, ti ty = some i ∧ Eh (Gx ti tp d) i.cty cs
  | .tup cs => ∃ ts, tp ty = some ts ∧ Eh (Gx ti tp d) ts cs
  | _ => False
theorem Xb {f : Nat → AV → Prop} : ∀ {ts : List Nat} {cs : List AV}, Eh f ts cs → ts.length = cs.length
 | [], [], _ => rfl
 | _ :: ts, _ :: cs, h => by rw [List.length_cons, List.length_cons, Xb h.2]
theorem Gj {f : Nat → AV → Prop} : ∀ {ts : List Nat} {cs : List AV} {ts' : List Nat} {cs' : List AV}, Eh f ts cs → Eh f ts' cs' → Eh f (ts ++ ts') (cs ++ cs')
 | [], [], _, _, _, h => h
 | _ :: ts, _ :: cs, _, _, h, h' => ⟨h.1, Gj h.2 h'⟩
theorem P6 {α : Type} {f : Nat → AV → Prop} {cty : List Nat} {enc : α → List AV} : ∀ (l : List α), (∀ x ∈ l, Eh f cty (enc x)) → Eh f (List.replicate l.length cty).flatten (l.map enc).flatten
 | [], _ => by simp [Eh]
 | x :: l, h => by
  rw [List.length_cons, List.replicate_succ, List.flatten_cons, List.map_cons, List.flatten_cons]
  exact Gj (h x List.mem_cons_self) (P6 l fun y hy => h y (List.mem_cons_of_mem _ hy))
theorem Il {H : Ac} {d : Nat} (hd : ∀ ty t N, Gx ti tp d ty t → Lies H N (Bo ti tp N ty t).2 → (∀ b ∈ (Bo ti tp N ty t).2, b.live = true ∧ b.app = true) → B6 ti tp H d ty (Bo ti tp N ty t).1 = some (t, List.range' N (Bo ti tp N ty t).2.length)) :
  ∀ (ts : List Nat) (cs : List AV) (N : Nat), Eh (Gx ti tp d) ts cs → Lies H N (Bw ti tp N ts cs).2 → (∀ b ∈ (Bw ti tp N ts cs).2, b.live = true ∧ b.app = true) → Cm (B6 ti tp H d) ts (Bw ti tp N ts cs).1 = some (cs, List.range' N (Bw ti tp N ts cs).2.length)
 | [], [], N, _, _, _ => rfl
 | t :: ts, x :: cs, N, h, hl, hb => by
  simp only [Bw, List.headD_cons, List.tail_cons] at hl hb ⊢
  have h1 := hd t x N h.1 hl.left fun b hb' => hb b (List.mem_append_left _ hb')
  have h2 := Il hd ts cs _ h.2 hl.right fun b hb' => hb b (List.mem_append_right _ hb')
  have e := List.range'_append (s := N) (m := (Bo ti tp N t x).2.length) (n := (Bw ti tp (N + (Bo ti tp N t x).2.length) ts cs).2.length) (step := 1)
  rw [Nat.one_mul] at e
  simp only [Cm, h1, h2, Option.bind_some, List.length_append, e]
mutual
theorem Ab1 : ∀ (x : AV) (N ty : Nat), ∀ b ∈ (Bo ti tp N ty x).2, b.live = true ∧ b.app = true
 | .sc v, N, ty => by intro b h; cases h
 | .ro n cells, N, ty => by
  intro b h
  simp only [Bo, List.mem_cons] at h
  rcases h with rfl | h
  ·exact ⟨rfl, rfl⟩
  ·exact E4 cells _ _ b h
 | .agg cs, N, ty => fun b h => E4 cs _ _ b h
 | .tup cs, N, ty => fun b h => E4 cs _ _ b h
 | .any, N, ty => by intro b h; cases h
 | .nl, N, ty => by intro b h; cases h
 | .sl .., N, ty => by intro b h; cases h
 | .ptr .., N, ty => by intro b h; cases h
 | .rp .., N, ty => by intro b h; cases h
 | .fn .., N, ty => by intro b h; cases h
theorem E4 : ∀ (cs : List AV) (N : Nat) (ts : List Nat), ∀ b ∈ (Bw ti tp N ts cs).2, b.live = true ∧ b.app = true
 | [], N, ts => by intro b h; cases h
 | x :: cs, N, ts => by
  intro b h
  simp only [Bw, List.mem_append] at h
  rcases h with h | h
  ·exact Ab1 x _ _ b h
  ·exact E4 cs _ _ b h
end
theorem F1 {H : Ac} : ∀ (d ty : Nat) (t : AV) (N : Nat), Gx ti tp d ty t → Lies H N (Bo ti tp N ty t).2 → B6 ti tp H d ty (Bo ti tp N ty t).1 = some (t, List.range' N (Bo ti tp N ty t).2.length)
 | 0, _, _, _, h, _ => by cases h
 | d + 1, ty, t, N, h, hl => by
  have ih := Il (H := H) (d := d) (ti := ti) (tp := tp) (fun ty t N h h' _ => F1 d ty t N h h')
  cases t with
  | sc v => rfl
  | ro n cells =>
   obtain ⟨i, j, h1, h2, h3, h4⟩ := h
   have e : Bo ti tp N ty (.ro n cells) = (.sl N 0 n j.size, ⟨(Bw ti tp (N + 1) (List.replicate n j.cty).flatten cells).1, true, true⟩ :: (Bw ti tp (N + 1) (List.replicate n j.cty).flatten cells).2) := by
    simp only [Bo, h1, Option.bind_some, h2, Option.getD_some]
   rw [e] at hl ⊢
   have hb := hl 0 _ rfl
   rw [Nat.add_zero] at hb
   have hv := ih (List.replicate n j.cty).flatten cells (N + 1) h4 hl.tail (E4 _ _ _)
   have hlen := In (ti := ti) (tp := tp) (N + 1) (List.replicate n j.cty).flatten cells
   have e2 : Ba H N 0 (n * j.size) = some (Bw ti tp (N + 1) (List.replicate n j.cty).flatten cells).1 := by
    simp only [Ba, hb, if_true, List.drop_zero, Nat.zero_add]
    rw [if_pos (by rw [hlen, h3]; exact Nat.le_refl _), ← h3, ← hlen, List.take_length]
   have e3 : Fx H N = true := by simp only [Fx, hb]
   rw [Fz]
   simp only [h1, h2, Option.bind_some, if_true, e2, e3, hv, List.length_cons]
   rw [List.range'_succ]
  | agg cs =>
   obtain ⟨i, h1, h2⟩ := h
   have e : Bo ti tp N ty (.agg cs) = (.agg (Bw ti tp N i.cty cs).1, (Bw ti tp N i.cty cs).2) := by rw [Fq, h1]; rfl
   rw [e] at hl ⊢
   rw [D4]
   simp only [h1, Option.bind_some, ih i.cty cs N h2 hl (E4 _ _ _)]
  | tup cs =>
   obtain ⟨ts, h1, h2⟩ := h
   have e : Bo ti tp N ty (.tup cs) = (.tup (Bw ti tp N ts cs).1, (Bw ti tp N ts cs).2) := by rw [P7, h1]; rfl
   rw [e] at hl ⊢
   rw [Ft]
   simp only [h1, Option.bind_some, ih ts cs N h2 hl (E4 _ _ _)]
  | _ => cases h
theorem Km (A B X : List Gl) : Lies (A ++ B ++ X) A.length B := fun j b hj => by
 have hlt := (List.getElem?_eq_some_iff.1 hj).1
 rw [List.append_assoc, List.getElem?_append_right (by omega), Nat.add_sub_cancel_left, List.getElem?_append_left hlt]
 exact hj
theorem Li (A B : List Gl) : Lies (A ++ B) A.length B := by
 have := Km A B []
 rwa [List.append_nil] at this
def Vw (H : Ac) (x v : AV) : Prop := ∀ X : List Gl, Ds (H ++ X) 8 x = some v
theorem Vw.grow {H : Ac} {x v : AV} (h : Vw H x v) (X : List Gl) : Vw (H ++ X) x v := fun Y => by
 rw [List.append_assoc]
 exact h _
theorem Vw.now {H : Ac} {x v : AV} (h : Vw H x v) : Ds H 8 x = some v := by
 have := h []
 rwa [List.append_nil] at this
theorem Ed (H : Ac) (v : Value) : Vw H (.sc v) (.sc v) := fun _ => rfl
theorem Ik (H : Ac) (n : Nat) (cs : List AV) : Vw H (.ro n cs) (.ro n cs) := fun _ => rfl
def Ix : AV → Bool
 | .sc v => Mf v
 | .ro _ _ => true
 | _ => false
theorem Q8 {cs : List AV} (h : cs.all Ix = true) : cs.all Aq = true := by
 rw [List.all_eq_true] at h ⊢
 intro x hx
 have := h x hx
 cases x <;> simp_all [Ix, Aq]
theorem S6 {cs : List AV} (h : cs.all Ix = true) : Cx (.agg cs) = some cs := by
 show (if cs.all Aq then some cs else none) = _
 rw [if_pos (Q8 h)]
theorem Uz {H : Ac} {d : Nat} : ∀ {cs : List AV}, cs.all Ix = true → cs.mapM (Ds H (d + 1)) = some cs
 | [], _ => rfl
 | x :: cs, h => by
  rw [List.all_cons, Bool.and_eq_true] at h
  have e : Ds H (d + 1) x = some x := by
   have := h.1
   cases x <;> first | rfl | (exfalso; simp [Ix] at this)
  simp only [List.mapM_cons, e, Uz h.2, Option.pure_def, Option.bind_eq_bind, Option.bind_some]
theorem F7 (H : Ac) {cs : List AV} (h : cs.all Ix = true) : Vw H (.agg cs) (.agg cs) := fun X => by
 rw [Na, Uz h]
 rfl
theorem Iq : ∀ (cs : List AV) (N : Nat) (ts : List Nat), cs.all Ix = true → (Bw ti tp N ts cs).1.all Aq = true
 | [], _, _, _ => rfl
 | x :: cs, N, ts, h => by
  rw [List.all_cons, Bool.and_eq_true] at h
  simp only [Bw, List.all_cons, Bool.and_eq_true]
  refine ⟨?_, Iq cs _ _ h.2⟩
  have := h.1
  cases x <;> first | exact this | rfl | (exfalso; simp [Ix] at this)
end gen
section ops
variable {β : Type}
theorem Oo (w len : Nat) (cells : List AV) (i : Nat) (k : AV → Option β) (h : i < len) (h2 : i * w < cells.length) : E7 w (.ro len cells) (.sc (.int .i64 i)) k = k (.rp (cells.drop (i * w))) := by
 simp only [E7, Xo, Option.bind_some, Int.toNat_natCast]
 rw [if_pos ⟨by omega, by omega⟩, if_pos h2]
theorem Aei (w len id off : Nat) (i : Nat) (k : AV → Option β) (h : i < len) : E7 w (.sl id off len w) (.sc (.int .i64 i)) k = k (.ptr id (off + i * w)) := by
 simp only [E7, Xo, Option.bind_some, Int.toNat_natCast, if_true]
 rw [if_pos ⟨by omega, by omega⟩]
theorem Xf (w : Nat) (cs r : List AV) (H : Ac) (k : AV → Option β) (h : cs.length = w) : C2 true w (.rp (cs ++ r)) H k = k (.agg cs) := by
 simp only [C2, List.length_append, h, Nat.le_add_right, if_true, List.take_left' h]
theorem Nz (c : AV) (r : List AV) (H : Ac) (k : AV → Option β) : C2 false 1 (.rp (c :: r)) H k = k c := by
 simp only [C2, List.length_cons, Nat.le_add_left, if_true, Bool.false_eq_true, if_false]
 rfl
theorem En (w id off : Nat) (y : AV) (b : Gl) (cs : List AV) (H : Ac) (k : Ac → Option β) (h : H[id]? = some b) (hc : Cx y = some cs) (hl : cs.length = w) (ho : off + w ≤ b.cells.length) (hb : b.live = true) : Dt w (.ptr id off) y H k = k (H.set id { b with cells := Cg b.cells off cs }) := by
 simp only [Dt, h, hc, Option.bind_some, hb, if_true, hl, ho]
theorem D2 (a b : Nat) (k : AV → Option β) : Fh .lss (.sc (.int .i64 a)) (.sc (.int .i64 b)) k = k (.sc (.bool (decide (a < b)))) := by
 show k (.sc (.bool (decide ((a : Int) < (b : Int))))) = _
 rw [show decide ((a : Int) < (b : Int)) = decide (a < b) from by simp]
theorem Ey (a : Nat) (k : AV → Option β) (h : a < 9223372036854775807) : Fh .add (.sc (.int .i64 a)) (.sc (.int .i64 1)) k = k (.sc (.int .i64 (a + 1 : Nat))) := by
 show k (.sc (.int .i64 (IntKind.i64.wrap ((a : Int) + 1)))) = _
 have e : IntKind.i64.wrap ((a : Int) + 1) = ((a + 1 : Nat) : Int) := by
  rw [IntKind.wrap_i64, Int.natCast_add]
  simp only [Int.cast_ofNat_Int]
  omega
 rw [e]
theorem D8 (b : Bool) (x y : Option β) : Ih (.sc (.bool b)) x y = if b then x else y := rfl
theorem Adj (n : Nat) (cs : List AV) (k : AV → Option β) : P8 (.ro n cs) k = k (.sc (.int .i64 n)) := rfl
theorem Fe (n : Int) (h0 : -9223372036854775808 ≤ n) (h1 : n ≤ 9223372036854775807) : IntKind.i64.wrap n = n := by
 rw [IntKind.wrap_i64]; omega
theorem Sl (a b : Int) (k : AV → Option β) (h0 : -9223372036854775808 ≤ a - b) (h1 : a - b ≤ 9223372036854775807) : Fh .sub (.sc (.int .i64 a)) (.sc (.int .i64 b)) k = k (.sc (.int .i64 (a - b))) := by
 show k (.sc (.int .i64 (IntKind.i64.wrap (a - b)))) = _
 rw [Fe _ h0 h1]
theorem AaG (a b : Int) (k : AV → Option β) : Fh .lss (.sc (.int .i64 a)) (.sc (.int .i64 b)) k = k (.sc (.bool (decide (a < b)))) := rfl
theorem T5 {α : Type} {w : Nat} {enc : α → List AV} (hw : ∀ x, (enc x).length = w) (pre r : List α) : ((pre ++ r).map enc).flatten.drop (pre.length * w) = (r.map enc).flatten := by
 have hl : ((pre.map enc).flatten).length = pre.length * w := by
  induction pre with
  | nil => simp
  | cons x pre ih => rw [List.map_cons, List.flatten_cons, List.length_append, ih, hw, List.length_cons, Nat.succ_mul, Nat.add_comm]
 rw [List.map_append, List.flatten_append, List.drop_append_of_le_length (by omega), ← hl, List.drop_length, List.nil_append]
theorem Fg {α : Type} {w : Nat} {enc : α → List AV} (hw : ∀ x, (enc x).length = w) (l : List α) : ((l.map enc).flatten).length = l.length * w := by
 induction l with
 | nil => simp
 | cons x l ih => rw [List.map_cons, List.flatten_cons, List.length_append, ih, hw, List.length_cons, Nat.succ_mul, Nat.add_comm]
theorem Oy {α : Type} {w : Nat} {enc : α → List AV} (hw : ∀ x, (enc x).length = w) (h0 : 0 < w) (pre : List α) (x : α) (r : List α) (k : AV → Option β) :
  E7 w (.ro (pre ++ x :: r).length ((pre ++ x :: r).map enc).flatten) (.sc (.int .i64 pre.length)) k = k (.rp (enc x ++ (r.map enc).flatten)) := by
 have hl := Fg hw (pre ++ x :: r)
 have h1 : pre.length < (pre ++ x :: r).length := by simp
 rw [Oo w _ _ pre.length k h1 (by rw [hl]; exact Nat.mul_lt_mul_of_pos_right h1 h0), T5 hw pre (x :: r), List.map_cons, List.flatten_cons]
def F2 {α : Type} (wt : α → Nat) : List α → Nat
 | [] => 0
 | x :: l => 1 + wt x + F2 wt l
def wtS {α : Type} (wt : α → Nat) : List α → Nat
 | [] => 0
 | x :: l => wt x + wtS wt l
theorem Jr {α : Type} (wt : α → Nat) : ∀ l : List α, F2 wt l = l.length + wtS wt l
 | [] => rfl
 | x :: l => by rw [F2, wtS, Jr wt l, List.length_cons]; omega
theorem Pb {α : Type} {wt : α → Nat} : ∀ {l : List α} {x : α}, x ∈ l → wt x ≤ wtS wt l
 | y :: l, x, h => by
  rw [wtS]
  rcases List.mem_cons.1 h with rfl | h
  ·omega
  ·have := Pb (wt := wt) h
   omega
end ops
end
section
open Go
variable {β : Type} {n : Nat}
theorem I5 (cs : List AV) (H : Ac) (k : KO β) (h : cs.all Ix = true) : Qc (.agg cs) H k = k (.ptr H.length 0) (H ++ [⟨cs, true, true⟩]) := by
 rw [Qc, S6 h]
 rfl
theorem ldT {m id off : Nat} {H : Ac} {cs : List AV} (h : Ba H id off m = some cs) (k : AV → Option β) : C2 true m (.ptr id off) H k = k (.agg cs) := by
 simp only [C2, h, Option.bind_some, if_true]
theorem ldF {id off : Nat} {H : Ac} {c : AV} (h : Ba H id off 1 = some [c]) (k : AV → Option β) : C2 false 1 (.ptr id off) H k = k c := by
 simp only [C2, h, Option.bind_some, Bool.false_eq_true, if_false, one]
abbrev Bj (s : ByteArray) : AV := .ro s.size (Bh s)
abbrev Dn (l : List Int) : AV := .ro l.length (l.map fun z => .sc (.int .i64 z))
abbrev Mj (l : List ByteArray) : AV := .ro l.length (l.map fun s => .sc (.string s))
abbrev Al {α : Type} (enc : α → List AV) (l : List α) : AV := .ro l.length (l.map enc).flatten
def C3 (z : Int) : Prop := -9223372036854775808 ≤ z ∧ z ≤ 9223372036854775807
def Jo (s : ByteArray) : Prop := s.size ≤ 9223372036854775807
theorem T2 {f : Nat → AV → Prop} {α : Type} (e : α → Value) (hf : ∀ t v, f t (.sc v)) : ∀ (ts : List Nat) (l : List α), ts.length = l.length → Eh f ts (l.map fun x => .sc (e x))
 | [], [], _ => trivial
 | t :: ts, x :: l, h => ⟨hf _ _, T2 e hf ts l (by simpa using h)⟩
 | [], _ :: _, h => by simp at h
 | _ :: _, [], h => by simp at h
theorem M2 {α : Type} {ty d : Nat} (e : α → Value) (hty : ∃ i j, At ty = some i ∧ At i.elem = some j ∧ j.size = 1 ∧ j.cty.length = 1) (l : List α) : Gx At E0.tp (d + 2) ty (.ro l.length (l.map fun x => .sc (e x))) := by
 obtain ⟨i, j, h1, h2, h3, h4⟩ := hty
 exact ⟨i, j, h1, h2, by simp [h3], T2 e (fun _ _ => trivial) _ l (by simp [h4])⟩
theorem Pu {d ty : Nat} (hty : ∃ i j, At ty = some i ∧ At i.elem = some j ∧ j.size = 1 ∧ j.cty.length = 1) (s : ByteArray) : Gx At E0.tp (d + 2) ty (Bj s) := by
 have := M2 (d := d) (fun b : UInt8 => .int .u8 b.toNat) hty s.data.toList
 have e : s.data.toList.length = s.size := by simp
 rw [e] at this
 exact this
theorem Fk {α : Type} {ty d w : Nat} {cty : List Nat} {enc : α → List AV} (hw : ∀ x, (enc x).length = w) (hty : ∃ i j, At ty = some i ∧ At i.elem = some j ∧ j.size = w ∧ j.cty = cty) (he : ∀ x, Eh (Gx At E0.tp d) cty (enc x)) (l : List α) : Gx At E0.tp (d + 1) ty (Al enc l) := by
 obtain ⟨i, j, h1, h2, h3, rfl⟩ := hty
 exact ⟨i, j, h1, h2, by rw [Fg hw, h3], P6 l fun x _ => he x⟩
theorem AdT {α : Type} {enc : α → List AV} {ok : α → Prop} {n t e : Nat} {cs : List AV} (hi : ∃ i, At t = some i ∧ i.isB = false ∧ i.ik = none ∧ i.isStr = false ∧ i.sl = true ∧ i.elem = e) (hel : ∀ n cs, okT At n e cs → ∃ x, cs = enc x ∧ ok x) (h : okT At n t cs) :
  ∃ l : List α, cs = [Al enc l] ∧ l.length ≤ 9223372036854775807 ∧ ∀ x ∈ l, ok x := by
 cases n with
 | zero => cases h
 | succ n =>
  obtain ⟨i, h1, h2, h3, h4, h5, rfl⟩ := hi
  obtain ⟨i', hi', h⟩ := h
  rw [h1] at hi'
  obtain rfl := Option.some.inj hi'
  simp only [h2, h3, h4, h5] at h
  obtain ⟨rows, rfl, hl, hr⟩ := h
  have hm : maxLen = 9223372036854775807 := by decide
  rw [hm] at hl
  have key : ∀ rows : List (List AV), (∀ r ∈ rows, okT At n i.elem r) → ∃ l : List α, rows = l.map enc ∧ ∀ x ∈ l, ok x := by
   intro rows
   induction rows with
   | nil => intro _; exact ⟨[], rfl, fun x h => by cases h⟩
   | cons r rows ih =>
    intro h
    obtain ⟨l, h1, h2⟩ := ih fun r hr => h r (List.mem_cons_of_mem _ hr)
    obtain ⟨x, hx, hox⟩ := hel n r (h r List.mem_cons_self)
    exact ⟨x :: l, by rw [h1, hx]; rfl, fun y hy => by rcases List.mem_cons.1 hy with rfl | hy; exact hox; exact h2 y hy⟩
  obtain ⟨l, rfl, h2⟩ := key rows hr
  exact ⟨l, by simp, by simpa using hl, h2⟩
theorem Acf {n : Nat} {cs : List AV} (h : okT At n 5 cs) : ∃ b : UInt8, cs = [.sc (.int .u8 b.toNat)] := by
 cases n with
 | zero => cases h
 | succ n =>
  obtain ⟨i, hi, h⟩ := h
  obtain rfl := Option.some.inj (show some _ = some i from hi)
  obtain ⟨z, rfl, hw⟩ := (show ∃ z, cs = [.sc (.int .u8 z)] ∧ (Lit.int .u8 z).wf = true from h)
  have hz : 0 ≤ z ∧ z < 256 := by
   have hw' : IntKind.u8.min ≤ z ∧ z ≤ IntKind.u8.max := by simpa [Lit.wf] using hw
   have e1 : IntKind.u8.min = 0 := by decide
   have e2 : IntKind.u8.max = 255 := by decide
   rw [e1, e2] at hw'
   omega
  refine ⟨UInt8.ofNat z.toNat, ?_⟩
  have : (UInt8.ofNat z.toNat).toNat = z.toNat := by simp [UInt8.toNat_ofNat']; omega
  rw [this, Int.toNat_of_nonneg hz.1]
theorem Rh {α : Type} (e : α → AV) (l : List α) : (l.map fun x => [e x]).flatten = l.map e := by
 induction l with
 | nil => rfl
 | cons x l ih => rw [List.map_cons, List.flatten_cons, ih]; rfl
theorem Zl {n t : Nat} {cs : List AV} (hi : ∃ i, At t = some i ∧ i.isB = false ∧ i.ik = none ∧ i.isStr = false ∧ i.sl = true ∧ i.elem = 5) (h : okT At n t cs) : ∃ s : ByteArray, cs = [Bj s] ∧ Jo s := by
 obtain ⟨l, rfl, h1, _⟩ := AdT (α := UInt8) (enc := fun b => [.sc (.int .u8 b.toNat)]) (ok := fun _ => True) hi (fun n cs h => by obtain ⟨b, h⟩ := Acf h; exact ⟨b, h, trivial⟩) h
 refine ⟨⟨l.toArray⟩, ?_, ?_⟩
 ·rw [Al, Rh]
  simp [Bj, Bh]
  rfl
 ·exact h1
end
section
open Go
variable {β : Type} {n : Nat} {H : Ac} {r : Option β}
theorem E6 : ([] : List AV).mapM (Ds H 8) = some [] := rfl
theorem Cl {x v : AV} {xs vs : List AV} (h : Vw H x v) (hs : xs.mapM (Ds H 8) = some vs) : (x :: xs).mapM (Ds H 8) = some (v :: vs) := by
 simp only [List.mapM_cons, h.now, hs, Option.pure_def, Option.bind_eq_bind, Option.bind_some]
theorem Pa {i : Nat} {b : Gl} (h : H[i]? = some b) (X : List Gl) : (H ++ X)[i]? = some b := by
 rw [List.getElem?_append_left (List.getElem?_eq_some_iff.1 h).1]
 exact h
theorem T6 {i w : Nat} {cs : List AV} {K : AV → Option β} (hi : H[i]? = some ⟨cs, true, true⟩) (hw : cs.length = w) (h : K (.agg cs) = r) : C2 true w (.ptr i 0) H (fun x => K x) = r := by
 have e : Ba H i 0 w = some cs := by
  simp only [Ba, hi, if_true, List.drop_zero, Nat.zero_add, ← hw, Nat.le_refl, List.take_length]
 rw [ldT e]
 exact h
theorem F5 {ty f : Nat} {args vs : List AV} {v : Value} {K : KO β} (hh : F4 f = false) (hv : args.mapM (Ds H 8) = some vs) (ht : Di E0 n ty f vs = some (.sc v)) (h : K (.sc v) H = r) : (PR n β).call ty (.fn f [] []) args H (fun x H => K x H) = r := by
 rw [El hh hv ht, G8, List.append_nil]
 exact h
theorem Zi {w : Nat} {z ys : List AV} {K : KO β} (hz : z.length = w) (hy : ys.length = w) (hl : ys.all Aq = true) (h : ∀ i, (H ++ [⟨ys, true, true⟩])[i]? = some ⟨ys, true, true⟩ → K (.ptr i 0) (H ++ [⟨ys, true, true⟩]) = r) :
  Ie z H (fun t H => Dt w t (.agg ys) H fun H => K t H) = r := by
 have hg : (H ++ [(⟨z, true, true⟩ : Gl)])[H.length]? = some ⟨z, true, true⟩ := by rw [List.getElem?_append_right (Nat.le_refl _), Nat.sub_self]; rfl
 have hc : Cx (.agg ys) = some ys := by
  show (if ys.all Aq then some ys else none) = _
  rw [if_pos hl]
 show Dt w (.ptr H.length 0) (.agg ys) (H ++ [⟨z, true, true⟩]) _ = r
 rw [En w H.length 0 _ ⟨z, true, true⟩ ys _ _ hg hc hy (by rw [hz]; omega) rfl]
 have hs : Cg z 0 ys = ys := by
  unfold Cg
  rw [List.take_zero, List.nil_append, List.drop_of_length_le (by rw [hz, hy]; omega), List.append_nil]
 have e : (H ++ [(⟨z, true, true⟩ : Gl)]).set H.length ⟨ys, true, true⟩ = H ++ [⟨ys, true, true⟩] := by
  rw [List.set_append_right _ _ (Nat.le_refl _), Nat.sub_self]
  rfl
 simp only [hs, e]
 exact h _ (by rw [List.getElem?_append_right (Nat.le_refl _), Nat.sub_self]; rfl)
theorem AfT (a b : Int) (k : AV → Option β) : Fh .eql (.sc (.int .i64 a)) (.sc (.int .i64 b)) k = k (.sc (.bool (a == b))) := rfl
theorem T8 (a b : Int) (k : AV → Option β) : Fh .leq (.sc (.int .i64 a)) (.sc (.int .i64 b)) k = k (.sc (.bool (decide (a ≤ b)))) := rfl
theorem AhG (a b : Int) (k : AV → Option β) : Fh .gtr (.sc (.int .i64 a)) (.sc (.int .i64 b)) k = k (.sc (.bool (decide (a > b)))) := rfl
theorem Qo (a b : Int) (k : AV → Option β) : Fh .add (.sc (.int .i64 a)) (.sc (.int .i64 b)) k = k (.sc (.int .i64 (IntKind.i64.wrap (a + b)))) := rfl
theorem Ah5 (a b : Int) (k : AV → Option β) : Fh .mul (.sc (.int .i64 a)) (.sc (.int .i64 b)) k = k (.sc (.int .i64 (IntKind.i64.wrap (a * b)))) := rfl
theorem Oz (s : ByteArray) (k : AV → Option β) : Wy (.sc (.string s)) k = k (.sc (.int .i64 s.size)) := rfl
end
section
open Go
section
variable {β : Type} {n : Nat} {H : Ac} {r : Option β} {K : AV → Option β} {KH : KO β}
theorem Qu {cs : List AV} (hf : cs.all Ix = true) (h : ∀ i, i = H.length → (H ++ [⟨cs, true, true⟩])[i]? = some ⟨cs, true, true⟩ → KH (.ptr i 0) (H ++ [⟨cs, true, true⟩]) = r) : Qc (.agg cs) H (fun x H => KH x H) = r := by
 rw [I5 cs H _ hf]
 exact h _ rfl (by rw [List.getElem?_append_right (Nat.le_refl _), Nat.sub_self]; rfl)
theorem Lr {zs cs : List AV} {ps : List (Nat × Nat × AV)} {KL : List AV → Option β} (hf : Ev zs ps = some cs) (h : KL cs = r) : ((Ev zs ps).bind fun c => KL c) = r := by
 rw [hf]
 exact h
theorem Ap {o id off : Nat} (h : K (.ptr id (off + o)) = r) : Mi o (.ptr id off) (fun x => K x) = r := h
theorem Ht {o : Nat} {cells : List AV} (h : K (.rp (cells.drop o)) = r) : Mi o (.rp cells) (fun x => K x) = r := h
theorem Ce {i off : Nat} {cs : List AV} {c : AV} (hi : H[i]? = some ⟨cs, true, true⟩) (hl : off < cs.length) (hc : (cs.drop off).take 1 = [c]) (h : K c = r) : C2 false 1 (.ptr i off) H (fun x => K x) = r := by
 have e : Ba H i off 1 = some [c] := by
  simp only [Ba, hi, if_true]
  rw [if_pos (by omega), hc]
 rw [ldF e]
 exact h
theorem F0 {i off w : Nat} {cs ds : List AV} (hi : H[i]? = some ⟨cs, true, true⟩) (hl : off + w ≤ cs.length) (hc : (cs.drop off).take w = ds) (h : K (.agg ds) = r) : C2 true w (.ptr i off) H (fun x => K x) = r := by
 have e : Ba H i off w = some ds := by
  simp only [Ba, hi, if_true]
  rw [if_pos hl, hc]
 rw [ldT e]
 exact h
theorem Jd {cells : List AV} {c : AV} (hc : cells.take 1 = [c]) (h : K c = r) : C2 false 1 (.rp cells) H (fun x => K x) = r := by
 cases cells with
 | nil => cases hc
 | cons x xs =>
  obtain rfl : x = c := by simpa using hc
  rw [Nz]
  exact h
theorem J4 {w : Nat} {cells ds : List AV} (hl : w ≤ cells.length) (hc : cells.take w = ds) (h : K (.agg ds) = r) : C2 true w (.rp cells) H (fun x => K x) = r := by
 simp only [C2, hl, if_true, hc]
 exact h
theorem Bf {op : BinOp} {x y v : AV} (e : ∀ k : AV → Option β, Fh op x y k = k v) (h : K v = r) : Fh op x y (fun t => K t) = r := (e _).trans h
theorem M8 {op : BinOp} {x y v : AV} (e : ∀ k : AV → Option β, Qg op x y k = k v) (h : K v = r) : Qg op x y (fun t => K t) = r := (e _).trans h
theorem Ii {b : Bool} (h : K (.sc (.bool (!b))) = r) : pUn .not (.sc (.bool b)) (fun t => K t) = r := h
theorem AdU {s : ByteArray} (h : K (.sc (.int .i64 s.size)) = r) : Wy (.sc (.string s)) (fun t => K t) = r := h
theorem Do {m : Nat} {cs : List AV} (h : K (.sc (.int .i64 m)) = r) : P8 (.ro m cs) (fun t => K t) = r := h
theorem Ai {g : Prop} (b : Bool) (ht : b = true → g) (hf : b = false → g) : g := by
 cases h : b
 ·exact hf h
 ·exact ht h
theorem Fo {b : Bool} {x y : Option β} (hb : b = true) (h : x = r) : Ih (.sc (.bool b)) x y = r := by subst hb; exact h
theorem Gb {b : Bool} {x y : Option β} (hb : b = false) (h : y = r) : Ih (.sc (.bool b)) x y = r := by subst hb; exact h
theorem Bb {b : Bool} {m : (KO β) → Option β} (hb : b = true) (h : m (fun x H => KH x H) = r) : H9 (.sc (.bool b)) true H m (fun x H => KH x H) = r := by subst hb; exact h
theorem Bd {b : Bool} {m : (KO β) → Option β} (hb : b = false) (h : KH (.sc undef) H = r) : H9 (.sc (.bool b)) true H m (fun x H => KH x H) = r := by subst hb; exact h
theorem Dm {b : Bool} {m : (KO β) → Option β} (hb : b = false) (h : m (fun x H => KH x H) = r) : H9 (.sc (.bool b)) false H m (fun x H => KH x H) = r := by subst hb; exact h
theorem Du {b : Bool} {m : (KO β) → Option β} (hb : b = true) (h : KH (.sc undef) H = r) : H9 (.sc (.bool b)) false H m (fun x H => KH x H) = r := by subst hb; exact h
theorem Tz {t : Bool} {m : (KO β) → Option β} (h : KH (.sc undef) H = r) : H9 (.sc undef) t H m (fun x H => KH x H) = r := h
theorem On {b : Bool} {x y : AV} (hb : b = true) (h : K x = r) : Oj (.sc (.bool b)) x y (fun t => K t) = r := by
 subst hb
 cases x <;> cases y <;> exact h
theorem P1 {b : Bool} {x y : AV} (hb : b = false) (h : K y = r) : Oj (.sc (.bool b)) x y (fun t => K t) = r := by
 subst hb
 cases x <;> cases y <;> exact h
def Jk {α : Type} (p : α → α → Bool) : List α → List α → Bool
 | x :: a, y :: b => if p x y then Jk p a b else false
 | _, _ => true
theorem O5 {α : Type} {w : Nat} (enc : α → List AV) (hw : ∀ x, (enc x).length = w) (h0 : 0 < w) (pk : α → AV) (LOAD : AV → (AV → Option β) → Option β) (hld : ∀ x rest k, LOAD (.rp (enc x ++ rest)) k = k (pk x)) (NE : AV → AV → (AV → Option β) → Option β) (pr : α → α → Bool) (hne : ∀ x y k, NE (pk x) (pk y) k = k (.sc (.bool (!(pr x y)))))
  (l q : List α) (hlq : l.length = q.length) (hlen : l.length ≤ 1048576) (L : Nat → AV → Option β) (KF KT : Option β)
  (hL : ∀ m i, L (m + 1) i = Fh .lss i (.sc (.int .i64 l.length)) fun t14 => Ih t14 (E7 w (Al enc l) i fun t19 => LOAD t19 fun t20 => E7 w (Al enc q) i fun t23 => LOAD t23 fun t24 => NE t20 t24 fun t25 => Ih t25 KF (Fh .add i (.sc (.int .i64 1)) fun t16 => L m t16)) KT) :
  ∀ (s t pl pq : List α) (m : Nat), l = pl ++ s → q = pq ++ t → pl.length = pq.length → s.length < m → L m (.sc (.int .i64 pl.length)) = if Jk pr s t then KT else KF
 | [], t, pl, pq, m + 1, hl, hq, hpp, hm => by
  rw [List.append_nil] at hl
  subst hl
  rw [hL, D2, D8]
  cases t <;> simp [Jk]
 | x :: s, [], pl, pq, m + 1, hl, hq, hpp, hm => by
  have h1 := congrArg List.length hl
  have h2 := congrArg List.length hq
  simp only [List.length_append, List.length_cons, List.length_nil] at h1 h2
  omega
 | x :: s, y :: t, pl, pq, m + 1, hl, hq, hpp, hm => by
  have hlt : pl.length < l.length := by rw [hl]; simp
  rw [hL, D2, D8, if_pos (by simpa using hlt)]
  have hel := fun k => Oy (β := β) hw h0 pl x s k
  rw [← hl] at hel
  have heq := fun k => Oy (β := β) hw h0 pq y t k
  rw [← hq, ← hpp] at heq
  rw [hel, hld, heq, hld, hne, D8, Jk]
  cases hpx : pr x y
  ·simp
  ·simp only [Bool.not_true, Bool.false_eq_true, if_false, if_true]
   rw [Ey _ _ (by omega)]
   have ih := O5 enc hw h0 pk LOAD hld NE pr hne l q hlq hlen L KF KT hL s t (pl ++ [x]) (pq ++ [y]) m (by rw [hl]; simp) (by rw [hq]; simp) (by simp [hpp]) (by simpa using hm)
   rw [List.length_append, List.length_singleton] at ih
   exact ih
def Th (z : Int) : List AV := [.sc (.int .i64 z)]
def AaL (s : ByteArray) : List AV := [.sc (.string s)]
theorem La (l : List Int) : Dn l = Al Th l := by
 rw [Al, show (Th) = fun z => [AV.sc (.int .i64 z)] from rfl, Rh]
theorem Uk (l : List ByteArray) : Mj l = Al AaL l := by
 rw [Al, show (AaL) = fun z => [AV.sc (.string z)] from rfl, Rh]
theorem ldI (z : Int) (rest : List AV) (H : Ac) (k : AV → Option β) : C2 false 1 (.rp (Th z ++ rest)) H k = k (.sc (.int .i64 z)) := Nz _ _ _ _
theorem ldS (z : ByteArray) (rest : List AV) (H : Ac) (k : AV → Option β) : C2 false 1 (.rp (AaL z ++ rest)) H k = k (.sc (.string z)) := Nz _ _ _ _
def eqI (x y : Int) : Bool := x == y
def Vn (x y : ByteArray) : Bool := x.toList == y.toList
def Pv {α : Type} (p : α → α → Bool) (a b : List α) : Bool := if a.length = b.length then Jk p a b else false
theorem neI (x y : Int) (k : AV → Option β) : Fh .neq (.sc (.int .i64 x)) (.sc (.int .i64 y)) k = k (.sc (.bool (!(eqI x y)))) := rfl
theorem neS (x y : ByteArray) (k : AV → Option β) : Fh .neq (.sc (.string x)) (.sc (.string y)) k = k (.sc (.bool (!(Vn x y)))) := rfl
theorem Ae7 (qs : List Nat) (cs ds : List AV) (b : Bool) (h : Kb qs cs ds = some b) (k : AV → Option β) : Qz .neq qs (.agg cs) (.agg ds) k = k (.sc (.bool (!b))) := by
 simp only [Qz, h, Option.bind_some]
theorem B7 {X : Option β} (e : Bool) {K : Bool → Option β} (h1 : ∀ b, b = e → X = K b) (h2 : ∀ b, b = e → K b = r) : X = r := (h1 e rfl).trans (h2 e rfl)
theorem Dh {c v b : Bool} {y : AV} (hc : c = true) (hv : v = b) (h : K (.sc (.bool b)) = r) : Oj (.sc (.bool c)) (.sc (.bool v)) y (fun t => K t) = r := by
 subst hc
 subst hv
 cases y <;> exact h
theorem Df {c v b : Bool} {x : AV} (hc : c = false) (hv : v = b) (h : K (.sc (.bool b)) = r) : Oj (.sc (.bool c)) x (.sc (.bool v)) (fun t => K t) = r := by
 subst hc
 subst hv
 cases x <;> exact h
theorem Ke {b c v : Bool} (hb : b = (c && v)) (h : c = true) : v = b := by rw [hb, h]; rfl
theorem Ko {b c v : Bool} (hb : b = (c && v)) (h : c = false) : false = b := by rw [hb, h]; rfl
theorem mOT {b c v : Bool} (hb : b = (c || v)) (h : c = true) : true = b := by rw [hb, h]; rfl
theorem mOF {b c v : Bool} (hb : b = (c || v)) (h : c = false) : v = b := by rw [hb, h]; rfl
theorem Xw {α : Sort _} {γ : Type} {x : α} {f : α → Option γ} {r : Option γ} (h : f x = r) : M7 x f = r := h
theorem Gz {ty : Nat} {b b' : Bool} (h : b = b') : Bc At E0.tp ty H (.sc (.bool b)) = some (.sc (.bool b')) := by subst h; rfl
theorem AeH {α : Type} {w : Nat} {enc : α → List AV} {l : List α} (hw : ∀ x, (enc x).length = w) (h0 : 0 < w) (hl : 0 < l.length) (h : ∀ x t, l = x :: t → K (.rp (enc x ++ (t.map enc).flatten)) = r) : E7 w (Al enc l) (.sc (.int .i64 0)) (fun t => K t) = r := by
 cases l with
 | nil => simp at hl
 | cons x t =>
  have := Oy (β := β) hw h0 [] x t (fun t => K t)
  simp only [List.nil_append, List.length_nil, Int.natCast_zero] at this
  rw [this]
  exact h x t rfl
theorem Acx {ty : Nat} {f : FuncId} {caps args vs : List AV} {t : AV} {k : KO β} (hh : F4 f = false) (hv : (args ++ caps).mapM (Ds H 8) = some vs) (ht : Di E0 n ty f vs = some t) :
  (PR n β).call ty (.fn f [] caps) args H k = k (Bo At E0.tp H.length ty t).1 (H ++ (Bo At E0.tp H.length ty t).2) := by
 show Mh E0 (Dc E0 n) ty f ([] ++ args ++ caps) H k = _
 simp only [Mh, Ul hh, W4 hh, List.nil_append, Bool.false_eq_true, if_false, Xm, hv, Option.bind_some]
 have ht : Pz E0 (Dc E0 n) ty f vs = some t := ht
 rw [ht]
 rfl
theorem Adv (s : ByteArray) (i : Nat) (b : UInt8) (k : AV → Option β) (h : s.data.toList[i]? = some b) : Ac2 (.sc (.string s)) (.sc (.int .i64 i)) k = k (.sc (.int .u8 b.toNat)) := by
 have hlt : i < s.size := by
  have := (List.getElem?_eq_some_iff.1 h).1
  simpa using this
 have hb : s[i]'hlt = b := by
  have := (List.getElem?_eq_some_iff.1 h).2
  simp only [Array.getElem_toList] at this
  exact this
 simp only [Ac2, Xo, asS, Option.bind_some, Int.toNat_natCast]
 rw [dif_pos ⟨by omega, hlt⟩, hb]
theorem Zd {α : Type} {w : Nat} {enc : α → List AV} (hw : ∀ x, (enc x).length = w) (l : List α) (d : Nat) (hd : d ≤ l.length) (k : AV → Option β) : Jz w (Al enc l) (some (.sc (.int .i64 d))) none k = k (Al enc (l.drop d)) := by
 simp only [Jz, G2, Jp, Xo, Option.bind_some]
 rw [if_pos (by omega)]
 have h1 : ((l.length : Int) - d).toNat = (l.drop d).length := by rw [List.length_drop]; omega
 have h2 : ((l.map enc).flatten.drop (d * w)) = ((l.drop d).map enc).flatten := by
  have := T5 hw (l.take d) (l.drop d)
  rw [List.take_append_drop, List.length_take, Nat.min_eq_left hd] at this
  exact this
 rw [h1, Int.toNat_natCast, h2, ← Fg hw, List.take_length]
theorem nT {b : Bool} (h : b = false) : (!b) = true := by rw [h]; rfl
theorem nF {b : Bool} (h : b = true) : (!b) = false := by rw [h]; rfl
end
end
section
open Go
theorem X6 (n : Int) : bits .and .i64 n 255 = n % 256 := by
 have h255 : (BitVec.ofInt 64 255).toNat = 2 ^ 8 - 1 := by decide
 have key : (BitVec.ofInt 64 n &&& BitVec.ofInt 64 255).toNat = (n % ((2 ^ 64 : Nat) : Int)).toNat % 2 ^ 8 := by
  rw [BitVec.toNat_and, BitVec.toNat_ofInt, h255, Nat.and_two_pow_sub_one_eq_mod]
 show IntKind.i64.wrap ((BitVec.ofInt 64 n &&& BitVec.ofInt 64 255).toNat : Nat) = n % 256
 rw [key, IntKind.wrap_i64]
 omega
section
variable {β : Type} {n : Nat} {H : Ac}
theorem Lu {ty : Nat} {f : FuncId} {args : List AV} {k : KO β} (hh : E0.hm f = true) (he : E0.ext f = none) : (PR n β).call ty (.fn f [] []) args H k = Dc E0 n β f args H k := by
 show Mh E0 (Dc E0 n) ty f ([] ++ args ++ []) H k = _
 simp only [Mh, he, hh, List.nil_append, List.append_nil, if_true]
def cur (code : ByteArray) (i : Nat) (h : Int) : List AV := [.ro code.size (Bh code), .sc (.int .i64 i), .sc (.int .i64 h)]
def N0 (code : ByteArray) (i : Nat) (h : Int) : Gl := ⟨cur code i h, true, true⟩
theorem ldC {c o : Nat} {code : ByteArray} {i : Nat} {h : Int} {x : AV} {K : AV → Option β} {r : Option β} (hc : H[c]? = some (N0 code i h)) (hx : (cur code i h)[o]? = some x) (hk : K x = r) : C2 false 1 (.ptr c (0 + o)) H (fun t => K t) = r := by
 obtain ⟨hlt, he⟩ := List.getElem?_eq_some_iff.1 hx
 have e : ((cur code i h).drop o).take 1 = [x] := by
  rw [List.drop_eq_getElem_cons hlt, he]
  rfl
 rw [Nat.zero_add]
 simp only [C2, Ba, hc, N0, if_true, Bool.false_eq_true, if_false]
 rw [if_pos (by omega), Option.bind_some, e]
 exact hk
theorem stC {c o : Nat} {code : ByteArray} {i i' : Nat} {h h' : Int} {v : Value} {K : Ac → Option β} {r : Option β} (hc : H[c]? = some (N0 code i h)) (hv : Mf v = true) (ho : o < 3) (hs : Cg (cur code i h) o [.sc v] = cur code i' h') (hk : K (H.set c (N0 code i' h')) = r) : Dt 1 (.ptr c (0 + o)) (.sc v) H (fun H => K H) = r := by
 rw [Nat.zero_add, En 1 c o (.sc v) (N0 code i h) [.sc v] H _ hc (by simp only [Cx, Aq, hv, if_true]) rfl (by show o + 1 ≤ 3; omega) rfl]
 show K (H.set c ⟨Cg (cur code i h) o [.sc v], true, true⟩) = r
 rw [hs]
 exact hk
theorem Aey {c : Nat} {b : Gl} (hl : c < H.length) : (H.set c b)[c]? = some b := by
 rw [List.getElem?_set_self hl]
theorem X3 (z : Int) (k : AV → Option β) : Fh .and (.sc (.int .i64 z)) (.sc (.int .i64 255)) k = k (.sc (.int .i64 (z % 256))) := by
 rw [← X6]
 rfl
theorem Jc {id off : Nat} {K : AV → Option β} {r : Option β} (h : K (.ptr id off) = r) : AeM (.ptr id off) (fun t => K t) = r := h
theorem Agr {a z : Int} {k : IntKind} {K : AV → Option β} {r : Option β} (hz : IntKind.i64.wrap a = z) (h : K (.sc (.int .i64 z)) = r) : Wu .i64 (.sc (.int k a)) (fun t => K t) = r := by
 show K (.sc (.int .i64 (IntKind.i64.wrap a))) = r
 rw [hz]
 exact h
theorem Adz (s : ByteArray) (i : Nat) (h : i < s.size) (H : Ac) (k : AV → Option β) : (E7 1 (.ro s.size (Bh s)) (.sc (.int .i64 i)) fun t => C2 false 1 t H k) = k (.sc (.int .u8 (s.data.toList.getD i 0).toNat)) := by
 rw [Oo 1 _ _ i _ h (by rw [Ef]; omega)]
 have hd : (Bh s).drop (i * 1) = .sc (.int .u8 (s.data.toList.getD i 0).toNat) :: (Bh s).drop (i + 1) := by
  rw [Nat.mul_one, List.drop_eq_getElem_cons (by rw [Ef]; omega)]
  congr 1
  simp [Bh, List.getD_eq_getElem?_getD, h]
 rw [hd, Nz]
theorem Vt (c : Nat) (code : ByteArray) (hs : code.size ≤ 1048576) (i : Nat) (h : Int) (hc : H[c]? = some (N0 code i h)) (ty : Nat) :
  ∃ (x i' : Nat) (h' : Int), x < 256 ∧ ∀ K : KO β, (PR (n + 1) β).call ty (.fn 65 [] []) [.ptr c 0] H K = K (.sc (.int .i64 x)) (H.set c (N0 code i' h')) := by
 have hl : c < H.length := (List.getElem?_eq_some_iff.1 hc).1
 obtain ⟨h1, hh1⟩ : ∃ z, IntKind.i64.wrap (IntKind.i64.wrap (h * 6364136223846793005) + 1442695040888963407) = z := ⟨_, rfl⟩
 obtain ⟨y, hy⟩ : ∃ z, bits .xor .i64 (h1 / 2 ^ (33 : Int).toNat) (h1 / 2 ^ (47 : Int).toNat) = z := ⟨_, rfl⟩
 have hc1 : (H.set c (N0 code i h1))[c]? = some (N0 code i h1) := Aey hl
 by_cases hlt : i < code.size
 ·have hb := (code.data.toList.getD i 0).toNat_lt
  refine ⟨((y % 256 + (code.data.toList.getD i 0).toNat) % 256).toNat, i + 1, h1, by omega, fun K => ?_⟩
  rw [Lu rfl rfl, AdO, f65]
  simp only [N6, Bi, A4, A9, A6, Ca, Aw, Cc, Eg]
  refine Jc ?_
  refine Ap ?_
  refine ldC (o := 2) (x := .sc (.int .i64 h)) hc rfl ?_
  refine Bf (v := .sc (.int .i64 (IntKind.i64.wrap (h * 6364136223846793005)))) (fun k => rfl) ?_
  refine Bf (v := .sc (.int .i64 h1)) (fun k => by rw [← hh1]; rfl) ?_
  refine Jc ?_
  refine Ap ?_
  refine stC (i' := i) (h' := h1) hc rfl (by omega) rfl ?_
  refine Jc ?_
  refine Ap ?_
  refine ldC (o := 2) (x := .sc (.int .i64 h1)) hc1 rfl ?_
  refine Bf (v := .sc (.int .i64 (h1 / 2 ^ (33 : Int).toNat))) (fun k => rfl) ?_
  refine Jc ?_
  refine Ap ?_
  refine ldC (o := 2) (x := .sc (.int .i64 h1)) hc1 rfl ?_
  refine Bf (v := .sc (.int .i64 (h1 / 2 ^ (47 : Int).toNat))) (fun k => rfl) ?_
  refine Bf (v := .sc (.int .i64 y)) (fun k => by rw [← hy]; rfl) ?_
  refine Bf (v := .sc (.int .i64 (y % 256))) (fun k => X3 _ k) ?_
  refine Jc ?_
  refine Ap ?_
  refine ldC (o := 1) (x := .sc (.int .i64 i)) hc1 rfl ?_
  refine Jc ?_
  refine Ap ?_
  refine ldC (o := 0) (x := .ro code.size (Bh code)) hc1 rfl ?_
  refine Do ?_
  refine Bf (v := .sc (.bool (decide (i < code.size)))) (fun k => D2 _ _ k) ?_
  refine Xw ?_
  refine Fo (by simpa using hlt) ?_
  refine Jc ?_
  refine Ap ?_
  refine ldC (o := 0) (x := .ro code.size (Bh code)) hc1 rfl ?_
  refine Jc ?_
  refine Ap ?_
  refine ldC (o := 1) (x := .sc (.int .i64 i)) hc1 rfl ?_
  rw [Adz code i hlt]
  refine Agr (z := (code.data.toList.getD i 0).toNat) (Fe _ (by omega) (by omega)) ?_
  refine Bf (v := .sc (.int .i64 (y % 256 + (code.data.toList.getD i 0).toNat))) (fun k => by rw [Qo, Fe _ (by omega) (by omega)]) ?_
  refine Bf (v := .sc (.int .i64 ((y % 256 + (code.data.toList.getD i 0).toNat) % 256))) (fun k => X3 _ k) ?_
  refine Jc ?_
  refine Ap ?_
  refine ldC (o := 1) (x := .sc (.int .i64 i)) hc1 rfl ?_
  refine Bf (v := .sc (.int .i64 ((i + 1 : Nat) : Int))) (fun k => Ey _ k (by omega)) ?_
  refine Jc ?_
  refine Ap ?_
  refine stC (i' := i + 1) (h' := h1) hc1 rfl (by omega) rfl ?_
  rw [List.set_set, show (((y % 256 + (code.data.toList.getD i 0).toNat) % 256).toNat : Int) = (y % 256 + (code.data.toList.getD i 0).toNat) % 256 by omega]
 ·refine ⟨(y % 256).toNat, i, h1, by omega, fun K => ?_⟩
  rw [Lu rfl rfl, AdO, f65]
  simp only [N6, Bi, A4, A9, A6, Ca, Aw, Cc, Eg]
  refine Jc ?_
  refine Ap ?_
  refine ldC (o := 2) (x := .sc (.int .i64 h)) hc rfl ?_
  refine Bf (v := .sc (.int .i64 (IntKind.i64.wrap (h * 6364136223846793005)))) (fun k => rfl) ?_
  refine Bf (v := .sc (.int .i64 h1)) (fun k => by rw [← hh1]; rfl) ?_
  refine Jc ?_
  refine Ap ?_
  refine stC (i' := i) (h' := h1) hc rfl (by omega) rfl ?_
  refine Jc ?_
  refine Ap ?_
  refine ldC (o := 2) (x := .sc (.int .i64 h1)) hc1 rfl ?_
  refine Bf (v := .sc (.int .i64 (h1 / 2 ^ (33 : Int).toNat))) (fun k => rfl) ?_
  refine Jc ?_
  refine Ap ?_
  refine ldC (o := 2) (x := .sc (.int .i64 h1)) hc1 rfl ?_
  refine Bf (v := .sc (.int .i64 (h1 / 2 ^ (47 : Int).toNat))) (fun k => rfl) ?_
  refine Bf (v := .sc (.int .i64 y)) (fun k => by rw [← hy]; rfl) ?_
  refine Bf (v := .sc (.int .i64 (y % 256))) (fun k => X3 _ k) ?_
  refine Jc ?_
  refine Ap ?_
  refine ldC (o := 1) (x := .sc (.int .i64 i)) hc1 rfl ?_
  refine Jc ?_
  refine Ap ?_
  refine ldC (o := 0) (x := .ro code.size (Bh code)) hc1 rfl ?_
  refine Do ?_
  refine Bf (v := .sc (.bool (decide (i < code.size)))) (fun k => D2 _ _ k) ?_
  refine Xw ?_
  refine Gb (by simpa using hlt) ?_
  rw [show ((y % 256).toNat : Int) = y % 256 by omega]
theorem AaH (c : Nat) (code : ByteArray) (hs : code.size ≤ 1048576) (i : Nat) (h : Int) (hc : H[c]? = some (N0 code i h)) (ty m : Nat) (h1 : 1 ≤ m) (h2 : m ≤ 256) :
  ∃ (x i' : Nat) (h' : Int), x < m ∧ ∀ K : KO β, (PR (n + 2) β).call ty (.fn 29 [] []) [.ptr c 0, .sc (.int .i64 m)] H K = K (.sc (.int .i64 x)) (H.set c (N0 code i' h')) := by
 obtain ⟨x, i', h', hx, hr⟩ := Vt (β := β) (n := n) c code hs i h hc 3
 refine ⟨x % m, i', h', Nat.mod_lt _ (by omega), fun K => ?_⟩
 rw [Lu rfl rfl, Yl, f29]
 simp only [A9, Aw]
 refine Bf (v := .sc (.bool (decide ((m : Int) ≤ 0)))) (fun k => rfl) ?_
 refine Gb (by simp; omega) ?_
 refine Bf (v := .sc (.bool (decide ((m : Int) ≤ 256)))) (fun k => rfl) ?_
 refine Fo (by simp; omega) ?_
 rw [hr]
 refine Bf (v := .sc (.int .i64 ((x % m : Nat) : Int))) (fun k => ?_) ?_
 ·show (Xs .rem .i64 (x : Int) (m : Int)).bind (fun v => k (.sc v)) = _
  have e : Xs .rem .i64 (x : Int) (m : Int) = some (.int .i64 ((x : Int).tmod m)) := by
   show (if (m : Int) = 0 then none else some (Value.int .i64 ((x : Int).tmod m))) = _
   rw [if_neg (by omega)]
  rw [e]
  show k (.sc (.int .i64 ((x : Int).tmod (m : Int)))) = _
  rw [show ((x : Int).tmod (m : Int)) = ((x % m : Nat) : Int) from rfl]
 ·rfl
theorem Aan (code : ByteArray) (h : Int) (K : KO β) : ((Ev [.nl, .sc (.int .i64 0), .sc (.int .i64 0)] [(0, 1, .ro code.size (Bh code)), (2, 1, .sc (.int .i64 h))]).bind fun ct => Qc (.agg ct) H fun t H => K t H) = K (.ptr H.length 0) (H ++ [N0 code 0 h]) := rfl
theorem We (code : ByteArray) (hs : code.size ≤ 1048576) : ∀ (j m i : Nat) (h : Int), i + j = min code.size 4000 → j < m →
  ∃ h' : Int, ∀ k : KO β, N4 (PR n β) n k m (.ro code.size (Bh code)) (.sc (.int .i64 h)) (.sc (.int .i64 i)) H = k (.ptr H.length 0) (H ++ [N0 code 0 h'])
 | 0, m + 1, i, h, hi, hm => by
  refine ⟨h, fun k => ?_⟩
  rw [N4]
  simp only [Ca, A9, Aw, Bx, Ch, Cc, A4, Eg, Be, De]
  refine Do ?_
  refine Bf (v := .sc (.bool (decide (i < code.size)))) (fun k => D2 _ _ k) ?_
  by_cases hl : i < code.size
  ·have e : decide (i < code.size) = true := by simpa using hl
   refine Bb e ?_
   refine Bb e ?_
   refine Bf (v := .sc (.bool (decide ((i : Int) < 4000)))) (fun k => rfl) ?_
   refine On e ?_
   refine Gb (by simp; omega) ?_
   exact Aan code h k
  ·have e : decide (i < code.size) = false := by simpa using hl
   refine Bd e ?_
   refine Bd e ?_
   refine P1 e ?_
   refine Gb rfl ?_
   exact Aan code h k
 | j + 1, m + 1, i, h, hi, hm => by
  have hl : i < code.size := by omega
  have hb := (code.data.toList.getD i 0).toNat_lt
  obtain ⟨h', ih⟩ := We code hs j m (i + 1) (bits .and .i64 (IntKind.i64.wrap (IntKind.i64.wrap (IntKind.i64.wrap (h * 137) + (code.data.toList.getD i 0).toNat) + 11)) 1073741823) (by omega) (by omega)
  refine ⟨h', fun k => ?_⟩
  rw [N4]
  simp only [Ca, A9, Aw, Bx, Ch, Cc, A4, Eg, Be, De]
  refine Do ?_
  refine Bf (v := .sc (.bool (decide (i < code.size)))) (fun k => D2 _ _ k) ?_
  have e : decide (i < code.size) = true := by simpa using hl
  refine Bb e ?_
  refine Bb e ?_
  refine Bf (v := .sc (.bool (decide ((i : Int) < 4000)))) (fun k => rfl) ?_
  refine On e ?_
  refine Fo (by simp; omega) ?_
  refine Bf (v := .sc (.int .i64 (IntKind.i64.wrap (h * 137)))) (fun k => rfl) ?_
  rw [Adz code i hl]
  refine Agr (z := (code.data.toList.getD i 0).toNat) (Fe _ (by omega) (by omega)) ?_
  refine Bf (v := .sc (.int .i64 (IntKind.i64.wrap (IntKind.i64.wrap (h * 137) + (code.data.toList.getD i 0).toNat)))) (fun k => rfl) ?_
  refine Bf (v := .sc (.int .i64 (IntKind.i64.wrap (IntKind.i64.wrap (IntKind.i64.wrap (h * 137) + (code.data.toList.getD i 0).toNat) + 11)))) (fun k => rfl) ?_
  refine Bf (v := .sc (.int .i64 (bits .and .i64 (IntKind.i64.wrap (IntKind.i64.wrap (IntKind.i64.wrap (h * 137) + (code.data.toList.getD i 0).toNat) + 11)) 1073741823))) (fun k => rfl) ?_
  refine Bf (v := .sc (.int .i64 ((i + 1 : Nat) : Int))) (fun k => Ey _ k (by omega)) ?_
  exact ih k
theorem Aee (code : ByteArray) (hs : code.size ≤ 1048576) (hn : 4000 < n) (ty : Nat) :
  ∃ h : Int, ∀ K : KO β, (PR (n + 1) β).call ty (.fn 26 [] []) [.ro code.size (Bh code)] H K = K (.ptr H.length 0) (H ++ [N0 code 0 h]) := by
 obtain ⟨h', e⟩ := We (β := β) (n := n) (H := H) code hs (min code.size 4000) n 0 (IntKind.i64.wrap (128361 + (code.size : Int))) (by omega) (by omega)
 refine ⟨h', fun K => ?_⟩
 rw [Lu rfl rfl, Agt, f26]
 simp only [Ca, A9]
 refine Do ?_
 refine Bf (v := .sc (.int .i64 (IntKind.i64.wrap (128361 + (code.size : Int))))) (fun k => rfl) ?_
 exact e K
end
end
section
open Go
theorem Nk : ∃ i j, At 22 = some i ∧ At i.elem = some j ∧ j.size = 1 ∧ j.cty.length = 1 := ⟨_, _, rfl, rfl, rfl, rfl⟩
theorem Rx : ∃ i j, At 53 = some i ∧ At i.elem = some j ∧ j.size = 1 ∧ j.cty.length = 1 := ⟨_, _, rfl, rfl, rfl, rfl⟩
theorem Aby : ∃ i j, At 32 = some i ∧ At i.elem = some j ∧ j.size = 1 ∧ j.cty.length = 1 := ⟨_, _, rfl, rfl, rfl, rfl⟩
structure Da where
 fTopic : ByteArray
 fBody : ByteArray
 fQos : Int
 fRetain : Bool
def Au (x : Da) : List AV := .sc (.string x.fTopic) :: Bj x.fBody :: .sc (.int .i64 x.fQos) :: .sc (.bool x.fRetain) :: []
def B4 (x : Da) : Nat := x.fTopic.size + (x.fBody.size + 0)
def Dg (x : Da) : Prop := Jo x.fTopic ∧ Jo x.fBody ∧ C3 x.fQos ∧ True
theorem Eu (x : Da) : (Au x).length = 4 := rfl
theorem Hg (x : Da) : (Au x).all Ix = true := rfl
def Hf : List Nat := [9, 22, 3, 4]
theorem Pf : ∃ i, At 73 = some i ∧ i.cty = Hf := ⟨_, rfl, rfl⟩
theorem H7 (d : Nat) (x : Da) : Eh (Gx At E0.tp (d + 2)) Hf (Au x) := ⟨trivial, ⟨Pu (d := d + 0) Nk x.fBody, ⟨trivial, ⟨trivial, trivial⟩⟩⟩⟩
theorem Ku : ∃ i j, At 79 = some i ∧ At i.elem = some j ∧ j.size = 4 ∧ j.cty = Hf := ⟨_, _, rfl, rfl, rfl, rfl⟩
def Hs : List AV := [(.sc (.string ⟨#[]⟩)), .nl, (.sc (.int .i64 0)), (.sc (.bool false))]
structure Ao where
 fId : Int
 fM : Da
 fSt : Int
def Az (x : Ao) : List AV := .sc (.int .i64 x.fId) :: (Au x.fM ++ .sc (.int .i64 x.fSt) :: [])
def A0 (x : Ao) : Nat := B4 x.fM + 0
def B9 (x : Ao) : Prop := C3 x.fId ∧ Dg x.fM ∧ C3 x.fSt
theorem Br (x : Ao) : (Az x).length = 6 := rfl
theorem Gv (x : Ao) : (Az x).all Ix = true := rfl
def F9 : List Nat := [3, 9, 22, 3, 4, 3]
theorem K6 (d : Nat) (x : Ao) : Eh (Gx At E0.tp (d + 2)) F9 (Az x) := ⟨trivial, Gj (ts := Hf) (ts' := [3]) (H7 (d + 0) x.fM) ⟨trivial, trivial⟩⟩
theorem Pw : ∃ i j, At 113 = some i ∧ At i.elem = some j ∧ j.size = 6 ∧ j.cty = F9 := ⟨_, _, rfl, rfl, rfl, rfl⟩
def Rm : List AV := [(.sc (.int .i64 0)), (.sc (.string ⟨#[]⟩)), .nl, (.sc (.int .i64 0)), (.sc (.bool false)), (.sc (.int .i64 0))]
structure B5 where
 fLast : Int
 fFl : List Ao
 fQ : List Da
def Bg (x : B5) : List AV := .sc (.int .i64 x.fLast) :: Al Az x.fFl :: Al Au x.fQ :: []
def Fi (x : B5) : Nat := F2 A0 x.fFl + (F2 B4 x.fQ + 0)
def Rj (x : B5) : Prop := C3 x.fLast ∧ (x.fFl.length ≤ 9223372036854775807 ∧ ∀ z ∈ x.fFl, B9 z) ∧ (x.fQ.length ≤ 9223372036854775807 ∧ ∀ z ∈ x.fQ, Dg z)
theorem Ahw (x : B5) : (Bg x).length = 3 := rfl
theorem H5 (x : B5) : (Bg x).all Ix = true := rfl
def Gp : List Nat := [3, 113, 79]
theorem Wq : ∃ i, At 115 = some i ∧ i.cty = Gp := ⟨_, rfl, rfl⟩
theorem Xv (d : Nat) (x : B5) : Eh (Gx At E0.tp (d + 3)) Gp (Bg x) := ⟨trivial, ⟨Fk (d := d + 2) Br Pw (K6 (d + 0)) x.fFl, ⟨Fk (d := d + 2) Eu Ku (H7 (d + 0)) x.fQ, trivial⟩⟩⟩
def C0 : List AV := [(.sc (.int .i64 0)), .nl, .nl]
structure Rv where
 fFilter : ByteArray
 fQos : Int
def Ez (x : Rv) : List AV := .sc (.string x.fFilter) :: .sc (.int .i64 x.fQos) :: []
theorem Ut (x : Rv) : (Ez x).length = 2 := rfl
def Ael : List Nat := [9, 3]
theorem Aej (d : Nat) (x : Rv) : Eh (Gx At E0.tp (d + 1)) Ael (Ez x) := ⟨trivial, ⟨trivial, trivial⟩⟩
structure B8 where
 fType : Int
 fDup : Bool
 fQos : Int
 fRetain : Bool
 fId : Int
 fTopic : ByteArray
 fBody : ByteArray
 fClient : ByteArray
 fLevel : Int
 fClean : Bool
 fKeep : Int
 fHasWill : Bool
 fWTopic : ByteArray
 fWBody : ByteArray
 fWQos : Int
 fWRetain : Bool
 fHasUser : Bool
 fUser : ByteArray
 fHasPass : Bool
 fPass : ByteArray
 fCode : Int
 fPresent : Bool
 fWants : List Rv
 fNames : List ByteArray
 fCodes : List Int
def C7 (x : B8) : List AV := .sc (.int .i64 x.fType) :: .sc (.bool x.fDup) :: .sc (.int .i64 x.fQos) :: .sc (.bool x.fRetain) :: .sc (.int .i64 x.fId) :: .sc (.string x.fTopic) :: Bj x.fBody :: .sc (.string x.fClient) :: .sc (.int .i64 x.fLevel) :: .sc (.bool x.fClean) :: .sc (.int .i64 x.fKeep) :: .sc (.bool x.fHasWill) :: .sc (.string x.fWTopic) :: Bj x.fWBody :: .sc (.int .i64 x.fWQos) :: .sc (.bool x.fWRetain) :: .sc (.bool x.fHasUser) :: .sc (.string x.fUser) :: .sc (.bool x.fHasPass) :: Bj x.fPass :: .sc (.int .i64 x.fCode) :: .sc (.bool x.fPresent) :: Al Ez x.fWants :: Mj x.fNames :: Dn x.fCodes :: []
theorem K9 (x : B8) : (C7 x).all Ix = true := rfl
def Abh : List Nat := [3, 4, 3, 4, 3, 9, 22, 9, 3, 4, 3, 4, 9, 22, 3, 4, 4, 9, 4, 22, 3, 4, 76, 32, 53]
structure Cs where
 fClient : ByteArray
 fBorn : Int
 fClean : Bool
 fConn : Int
 fGen : Int
 fO : B5
 fIn : List Int
def A2 (x : Cs) : List AV := .sc (.string x.fClient) :: .sc (.int .i64 x.fBorn) :: .sc (.bool x.fClean) :: .sc (.int .i64 x.fConn) :: .sc (.int .i64 x.fGen) :: (Bg x.fO ++ Dn x.fIn :: [])
def I9 (x : Cs) : Nat := x.fClient.size + (Fi x.fO + (x.fIn.length + 0))
def Zm (x : Cs) : Prop := Jo x.fClient ∧ C3 x.fBorn ∧ True ∧ C3 x.fConn ∧ C3 x.fGen ∧ Rj x.fO ∧ (x.fIn.length ≤ 9223372036854775807 ∧ ∀ z ∈ x.fIn, C3 z)
theorem Fl (x : Cs) : (A2 x).length = 9 := rfl
theorem Gr (x : Cs) : (A2 x).all Ix = true := rfl
def Lm : List Nat := [9, 3, 4, 3, 3, 3, 113, 79, 53]
theorem Uu : ∃ i, At 117 = some i ∧ i.cty = Lm := ⟨_, rfl, rfl⟩
theorem Ra (d : Nat) (x : Cs) : Eh (Gx At E0.tp (d + 3)) Lm (A2 x) := ⟨trivial, ⟨trivial, ⟨trivial, ⟨trivial, ⟨trivial, Gj (ts := Gp) (ts' := [53]) (Xv (d + 0) x.fO) ⟨M2 (d := d + 1) (fun z : Int => .int .i64 z) Rx x.fIn, trivial⟩⟩⟩⟩⟩⟩
theorem Aag : ∃ i j, At 24 = some i ∧ At i.elem = some j ∧ j.size = 9 ∧ j.cty = Lm := ⟨_, _, rfl, rfl, rfl, rfl⟩
def Ga : List AV := [(.sc (.string ⟨#[]⟩)), (.sc (.int .i64 0)), (.sc (.bool false)), (.sc (.int .i64 0)), (.sc (.int .i64 0)), (.sc (.int .i64 0)), .nl, .nl, .nl]
structure Am where
 fHeld : Int
 fL : List Cs
def Bs (x : Am) : List AV := .sc (.int .i64 x.fHeld) :: Al A2 x.fL :: []
def Iw (x : Am) : Nat := F2 I9 x.fL + 0
def Ss (x : Am) : Prop := C3 x.fHeld ∧ (x.fL.length ≤ 9223372036854775807 ∧ ∀ z ∈ x.fL, Zm z)
theorem Iy (x : Am) : (Bs x).all Ix = true := rfl
def M9 : List Nat := [3, 24]
theorem R5 : ∃ i, At 26 = some i ∧ i.cty = M9 := ⟨_, rfl, rfl⟩
def D0 : List AV := [(.sc (.int .i64 0)), .nl]
end
section
open Go
section own
variable {ti : Nat → Option TI} {tp : Nat → Option (List Nat)}
theorem Fd {f : Nat → AV → Option (AV × List Nat)} {t : Nat} {ts : List Nat} {x : AV} {xs : List AV} {p : List AV × List Nat} (h : Cm f (t :: ts) (x :: xs) = some p) :
  ∃ a b, f t x = some a ∧ Cm f ts xs = some b ∧ p = (a.1 :: b.1, a.2 ++ b.2) := by
 simp only [Cm, Option.bind_eq_some_iff] at h
 obtain ⟨a, h1, b, h2, h3⟩ := h
 exact ⟨a, b, h1, h2, (Option.some.inj h3).symm⟩
theorem Iz {f : Nat → AV → Option (AV × List Nat)} {ts : List Nat} {p : List AV × List Nat} (h : Cm f ts [] = some p) : ts = [] ∧ p = ([], []) := by
 cases ts with
 | nil => exact ⟨rfl, (Option.some.inj h).symm⟩
 | cons t ts => simp [Cm] at h
theorem Ro {f : Nat → AV → Option (AV × List Nat)} : ∀ {ts : List Nat} {xs : List AV} {p : List AV × List Nat}, Cm f ts xs = some p → ts.length = xs.length ∧ p.1.length = xs.length
 | ts, [], p, h => by
  obtain ⟨rfl, rfl⟩ := Iz h
  exact ⟨rfl, rfl⟩
 | [], _ :: _, p, h => by simp [Cm] at h
 | t :: ts, x :: xs, p, h => by
  obtain ⟨a, b, h1, h2, rfl⟩ := Fd h
  obtain ⟨e1, e2⟩ := Ro h2
  simp [e1, e2]
theorem Gi {f : Nat → AV → Option (AV × List Nat)} : ∀ {ts us : List Nat} {xs ys : List AV} {p q : List AV × List Nat}, Cm f ts xs = some p → Cm f us ys = some q → Cm f (ts ++ us) (xs ++ ys) = some (p.1 ++ q.1, p.2 ++ q.2)
 | ts, us, [], ys, p, q, h, h' => by
  obtain ⟨rfl, rfl⟩ := Iz h
  exact h'
 | [], _, _ :: _, _, _, _, h, _ => by simp [Cm] at h
 | t :: ts, us, x :: xs, ys, p, q, h, h' => by
  obtain ⟨a, b, h1, h2, rfl⟩ := Fd h
  have ih := Gi h2 h'
  rw [List.cons_append, List.cons_append, Cm, h1, Option.bind_some, ih]
  simp
theorem Eb {f f' : Nat → AV → Option (AV × List Nat)} : ∀ {ts : List Nat} {xs : List AV} {p : List AV × List Nat}, (∀ t x a, f t x = some a → (∀ i ∈ a.2, i ∈ p.2) → f' t x = some a) → Cm f ts xs = some p → Cm f' ts xs = some p
 | ts, [], p, _, h => by
  obtain ⟨rfl, rfl⟩ := Iz h
  rfl
 | [], _ :: _, p, _, h => by simp [Cm] at h
 | t :: ts, x :: xs, p, hf, h => by
  obtain ⟨a, b, h1, h2, rfl⟩ := Fd h
  have e1 := hf t x a h1 fun i hi => List.mem_append_left _ hi
  have e2 := Eb (f' := f') (fun t x a' h hi => hf t x a' h fun i hi' => List.mem_append_right _ (hi i hi')) h2
  rw [Cm, e1, Option.bind_some, e2]
  rfl
theorem Dd {H H' : Ac} : ∀ (d ty : Nat) (x : AV) (p : AV × List Nat), B6 ti tp H d ty x = some p → (∀ i ∈ p.2, H'[i]? = H[i]?) → B6 ti tp H' d ty x = some p
 | 0, _, _, _, h, _ => by simp [B6] at h
 | d + 1, ty, x, p, h, hs => by
  cases x with
  | sc v => exact h
  | nl => exact h
  | sl id off n z =>
   rw [Fz] at h ⊢
   simp only [Option.bind_eq_some_iff] at h
   obtain ⟨i, h1, j, h2, h3⟩ := h
   split at h3
   case isFalse => cases h3
   rename_i hz
   split at h3
   case isFalse => cases h3
   rename_i ha
   simp only [Option.bind_eq_some_iff] at h3
   obtain ⟨cs, h4, q, h5, h6⟩ := h3
   obtain rfl := (Option.some.inj h6).symm
   have hid := hs id List.mem_cons_self
   have e1 : Fx H' id = true := by simpa only [Fx, hid] using ha
   have e2 : Ba H' id off (n * z) = some cs := by simpa only [Ba, hid] using h4
   have e3 := Eb (f' := B6 ti tp H' d) (fun t x a h hi => Dd d t x a h fun i' hi' => hs i' (List.mem_cons_of_mem _ (hi i' hi'))) h5
   simp only [h1, h2, Option.bind_some, hz, if_true, e1, e3]
   rw [hz] at e2
   rw [e2]
   simp only [Option.bind_some, e3]
  | agg cs =>
   rw [D4] at h ⊢
   simp only [Option.bind_eq_some_iff] at h
   obtain ⟨i, h1, q, h2, h3⟩ := h
   obtain rfl := (Option.some.inj h3).symm
   have e3 := Eb (f' := B6 ti tp H' d) (fun t x a h hi => Dd d t x a h fun i' hi' => hs i' (hi i' hi')) h2
   rw [h1, Option.bind_some, e3]
   rfl
  | tup cs =>
   rw [Ft] at h ⊢
   simp only [Option.bind_eq_some_iff] at h
   obtain ⟨i, h1, q, h2, h3⟩ := h
   obtain rfl := (Option.some.inj h3).symm
   have e3 := Eb (f' := B6 ti tp H' d) (fun t x a h hi => Dd d t x a h fun i' hi' => hs i' (hi i' hi')) h2
   rw [h1, Option.bind_some, e3]
   rfl
  | _ => simp [B6] at h
theorem O9 {f : Nat → AV → Option (AV × List Nat)} {N : Nat} : ∀ {ts : List Nat} {xs : List AV} {p : List AV × List Nat}, (∀ t x a, f t x = some a → ∀ i ∈ a.2, i < N) → Cm f ts xs = some p → ∀ i ∈ p.2, i < N
 | ts, [], p, _, h => by
  obtain ⟨rfl, rfl⟩ := Iz h
  intro i hi
  cases hi
 | [], _ :: _, p, _, h => by simp [Cm] at h
 | t :: ts, x :: xs, p, hf, h => by
  obtain ⟨a, b, h1, h2, rfl⟩ := Fd h
  intro i hi
  rcases List.mem_append.1 hi with hi | hi
  ·exact hf t x a h1 i hi
  ·exact O9 hf h2 i hi
theorem Kw {H : Ac} : ∀ (d ty : Nat) (x : AV) (p : AV × List Nat), B6 ti tp H d ty x = some p → ∀ i ∈ p.2, i < H.length
 | 0, _, _, _, h => by simp [B6] at h
 | d + 1, ty, x, p, h => by
  cases x with
  | sc v =>
   obtain rfl := (Option.some.inj h).symm
   intro i hi
   cases hi
  | nl =>
   obtain rfl := (Option.some.inj h).symm
   intro i hi
   cases hi
  | sl id off n z =>
   rw [Fz] at h
   simp only [Option.bind_eq_some_iff] at h
   obtain ⟨i, h1, j, h2, h3⟩ := h
   split at h3
   case isFalse => cases h3
   split at h3
   case isFalse => cases h3
   rename_i ha
   simp only [Option.bind_eq_some_iff] at h3
   obtain ⟨cs, h4, q, h5, h6⟩ := h3
   obtain rfl := (Option.some.inj h6).symm
   intro i' hi'
   rcases List.mem_cons.1 hi' with rfl | hi'
   ·unfold Fx at ha
    cases hg : H[i']? with
    | none => rw [hg] at ha; cases ha
    | some b => exact (List.getElem?_eq_some_iff.1 hg).1
   ·exact O9 (fun t x a h => Kw d t x a h) h5 i' hi'
  | agg cs =>
   rw [D4] at h
   simp only [Option.bind_eq_some_iff] at h
   obtain ⟨i, h1, q, h2, h3⟩ := h
   obtain rfl := (Option.some.inj h3).symm
   exact O9 (fun t x a h => Kw d t x a h) h2
  | tup cs =>
   rw [Ft] at h
   simp only [Option.bind_eq_some_iff] at h
   obtain ⟨i, h1, q, h2, h3⟩ := h
   obtain rfl := (Option.some.inj h3).symm
   exact O9 (fun t x a h => Kw d t x a h) h2
  | _ => simp [B6] at h
end own
def OwnC (d : Nat) (H : Ac) (ts : List Nat) (raw cells : List AV) (ids : List Nat) : Prop := Cm (B6 At E0.tp H d) ts raw = some (cells, ids)
theorem OwnC.frame {d : Nat} {H H' : Ac} {ts : List Nat} {raw cells : List AV} {ids : List Nat} (h : OwnC d H ts raw cells ids) (hs : ∀ i ∈ ids, H'[i]? = H[i]?) : OwnC d H' ts raw cells ids :=
 Eb (fun t x a h hi => Dd d t x a h fun i hi' => hs i (hi i hi')) h
theorem OwnC.lt {d : Nat} {H : Ac} {ts : List Nat} {raw cells : List AV} {ids : List Nat} (h : OwnC d H ts raw cells ids) : ∀ i ∈ ids, i < H.length := O9 (fun t x a h => Kw d t x a h) h
theorem OwnC.grow {d : Nat} {H : Ac} {ts : List Nat} {raw cells : List AV} {ids : List Nat} (h : OwnC d H ts raw cells ids) (X : List Gl) : OwnC d (H ++ X) ts raw cells ids :=
 h.frame fun i hi => List.getElem?_append_left (h.lt i hi)
theorem OwnC.append {d : Nat} {H : Ac} {ts us : List Nat} {raw raw' cells cells' : List AV} {ids ids' : List Nat} (h : OwnC d H ts raw cells ids) (h' : OwnC d H us raw' cells' ids') : OwnC d H (ts ++ us) (raw ++ raw') (cells ++ cells') (ids ++ ids') := Gi h h'
theorem OwnC.len {d : Nat} {H : Ac} {ts : List Nat} {raw cells : List AV} {ids : List Nat} (h : OwnC d H ts raw cells ids) : ts.length = raw.length ∧ cells.length = raw.length := Ro h
def OwnS (d : Nat) (H : Ac) (w : Nat) (cty : List Nat) (x : AV) (k : Nat) (cells : List AV) : Prop :=
 (x = .nl ∧ k = 0 ∧ cells = []) ∨ ∃ id raw ids, x = .sl id 0 k w ∧ H[id]? = some ⟨raw, true, true⟩ ∧ raw.length = k * w ∧ OwnC d H (List.replicate k cty).flatten raw cells ids ∧ (id :: ids).Nodup
theorem OwnS.nil (d : Nat) (H : Ac) (w : Nat) (cty : List Nat) : OwnS d H w cty .nl 0 [] := .inl ⟨rfl, rfl, rfl⟩
theorem OwnS.grow {d : Nat} {H : Ac} {w : Nat} {cty : List Nat} {x : AV} {k : Nat} {cells : List AV} (h : OwnS d H w cty x k cells) (X : List Gl) : OwnS d (H ++ X) w cty x k cells := by
 rcases h with h | ⟨id, raw, ids, h1, h2, h3, h4, h5⟩
 ·exact .inl h
 ·exact .inr ⟨id, raw, ids, h1, by rw [List.getElem?_append_left (List.getElem?_eq_some_iff.1 h2).1]; exact h2, h3, h4.grow X, h5⟩
variable {β : Type} {n : Nat} {r : Option β}
theorem R9 (A : Ac) (b b' : Gl) (R : Ac) : (A ++ b :: R).set A.length b' = A ++ b' :: R := by
 rw [List.set_append_right _ _ (Nat.le_refl _), Nat.sub_self]
 rfl
theorem Hq (A : Ac) (b : Gl) (R : Ac) : (A ++ b :: R)[A.length]? = some b := by
 rw [List.getElem?_append_right (Nat.le_refl _), Nat.sub_self]
 rfl
theorem Aaa {d : Nat} {H X : Ac} {w bytes : Nat} {cty : List Nat} {x : AV} {k : Nat} {cells er ec : List AV} {eids : List Nat} {K : KO β} (hx : OwnS d H w cty x k cells) (hw : er.length = w) (hl : er.all Aq = true)
  (he : OwnC d (H ++ X) cty er ec eids) (hn : eids.Nodup) (hge : ∀ i ∈ eids, H.length ≤ i) (hb : (k + 1) * bytes ≤ 140737488355328)
  (h : ∀ x' H', OwnS d H' w cty x' (k + 1) (cells ++ ec) → K x' H' = r) :
  Fj 1 w er true (H ++ X) (fun y G => Hh w bytes x y G K) = r := by
 have hy : ∀ G : Ac, C5 (G ++ [⟨er, true, true⟩]) w (.sl G.length 0 1 w) = some er := by
  intro G
  simp only [C5, if_true, Nat.one_mul, Ba, Hq G _ [], Nat.zero_add, hw, Nat.le_refl, List.drop_zero]
  rw [← hw, List.take_length]
 have hell : (H ++ X).length ∉ eids := fun hm => Nat.lt_irrefl _ (he.lt _ hm)
 rcases hx with ⟨rfl, rfl, rfl⟩ | ⟨id, raw, ids, rfl, h2, h3, h4, h5⟩
 ·simp only [Fj, Hh, G2, Option.bind_some, hy]
  rw [show C5 (H ++ X ++ [⟨er, true, true⟩]) w .nl = some [] from rfl]
  simp only [Option.bind_some, Mn]
  rw [if_pos hb, if_pos hl]
  refine h _ _ (.inr ⟨_, er, eids, rfl, ?_, by simp [hw], ?_, ?_⟩)
  ·rw [List.getElem?_append_right (Nat.le_refl _), Nat.sub_self]
   rfl
  ·simp only [Nat.zero_add, List.replicate_one, List.flatten_cons, List.flatten_nil, List.append_nil, List.nil_append]
   exact (he.grow _).grow _
  ·rw [List.nodup_cons]
   refine ⟨fun hm => ?_, hn⟩
   have := he.lt _ hm
   simp at this
   omega
 ·have hid : id < H.length := (List.getElem?_eq_some_iff.1 h2).1
  have hg : (H ++ X ++ [(⟨er, true, true⟩ : Gl)])[id]? = some ⟨raw, true, true⟩ := by
   rw [List.append_assoc, List.getElem?_append_left hid]
   exact h2
  have hcx : C5 (H ++ X ++ [⟨er, true, true⟩]) w (.sl id 0 k w) = some raw := by
   simp only [C5, if_true, Ba, hg, Nat.zero_add, h3, Nat.le_refl, List.drop_zero]
   rw [← h3, List.take_length]
  simp only [Fj, Hh, G2, Option.bind_some, hy, hcx, Mn, hg, if_true]
  rw [if_pos hb, if_pos hl]
  have hn5 := List.nodup_cons.1 h5
  have hne : ∀ i ∈ ids, i ≠ id := fun i hi e => hn5.1 (e ▸ hi)
  have hne2 : ∀ i ∈ eids, i ≠ id := fun i hi e => by
   have := hge i hi
   omega
  refine h _ _ (.inr ⟨_, raw ++ er, ids ++ eids, rfl, ?_, by simp [h3, hw, Nat.succ_mul], ?_, ?_⟩)
  ·rw [List.getElem?_append_right (Nat.le_refl _), Nat.sub_self]
   rfl
  ·have e : (List.replicate (k + 1) cty).flatten = (List.replicate k cty).flatten ++ cty := by
    rw [List.replicate_succ', List.flatten_append]
    simp
   rw [e]
   refine OwnC.append ?_ ?_
   ·refine OwnC.grow (OwnC.frame (H := H ++ X ++ [⟨er, true, true⟩]) ((h4.grow X).grow _) fun i hi => ?_) _
    rw [List.getElem?_set_ne (fun e => hne i hi e.symm)]
   ·refine OwnC.grow (OwnC.frame (H := H ++ X ++ [⟨er, true, true⟩]) (he.grow _) fun i hi => ?_) _
    rw [List.getElem?_set_ne (fun e => hne2 i hi e.symm)]
  ·rw [List.nodup_cons]
   refine ⟨fun hm => ?_, ?_⟩
   ·rcases List.mem_append.1 hm with hm | hm
    ·have := h4.lt _ hm
     simp at this
     omega
    ·have := he.lt _ hm
     simp at this
     omega
   ·rw [List.nodup_append]
    refine ⟨hn5.2, hn, fun a ha b hb e => ?_⟩
    have h1 := h4.lt a ha
    have h2 := hge b hb
    omega
theorem Vm {d : Nat} {H : Ac} {ts : List Nat} {cs : List AV} (h : Eh (Gx At E0.tp d) ts cs) : OwnC d (H ++ (Bw At E0.tp H.length ts cs).2) ts (Bw At E0.tp H.length ts cs).1 cs (List.range' H.length (Bw At E0.tp H.length ts cs).2.length) :=
 Il (fun ty t N h h' _ => F1 d ty t N h h') ts cs H.length h (Li _ _) (E4 _ _ _)
theorem Rc {d : Nat} {H : Ac} {w tyS k : Nat} {cty : List Nat} {x : AV} {cells : List AV} (hty : ∃ i j, At tyS = some i ∧ At i.elem = some j ∧ j.size = w ∧ j.cty = cty) (h : OwnS d H w cty x k cells) : ∃ ids, B6 At E0.tp H (d + 1) tyS x = some (.ro k cells, ids) ∧ ids.Nodup := by
 rcases h with ⟨rfl, rfl, rfl⟩ | ⟨id, raw, ids, rfl, h2, h3, h4, h5⟩
 ·exact ⟨[], rfl, List.nodup_nil⟩
 ·obtain ⟨i, j, e1, e2, rfl, rfl⟩ := hty
  refine ⟨id :: ids, ?_, h5⟩
  rw [Fz]
  have ha : Fx H id = true := by simp only [Fx, h2]
  have hr : Ba H id 0 (k * j.size) = some raw := by
   simp only [Ba, h2, if_true, Nat.zero_add, h3, Nat.le_refl, List.drop_zero]
   rw [← h3, List.take_length]
  have h4' : Cm (B6 At E0.tp H d) (List.replicate k j.cty).flatten raw = some (cells, ids) := h4
  simp only [e1, e2, Option.bind_some, if_true, ha, hr, h4']
end
section
open Go
section
variable {ti : Nat → Option TI} {tp : Nat → Option (List Nat)} {H : Ac}
theorem M6 {d d' : Nat} (hd : ∀ ty x t I, B6 ti tp H d ty x = some (t, I) → Gx ti tp d' ty t → B6 ti tp H d' ty x = some (t, I)) : ∀ (ts : List Nat) (xs cells : List AV) (I : List Nat), Cm (B6 ti tp H d) ts xs = some (cells, I) → Eh (Gx ti tp d') ts cells → Cm (B6 ti tp H d') ts xs = some (cells, I)
 | ts, [], cells, I, h, _ => by
  obtain ⟨rfl, e⟩ := Iz h
  cases e
  rfl
 | [], _ :: _, _, _, h, _ => by simp [Cm] at h
 | t :: ts, x :: xs, cells, I, h, ho => by
  obtain ⟨a, b, h1, h2, e⟩ := Fd h
  cases e
  have e1 := hd t x a.1 a.2 h1 ho.1
  have e2 := M6 hd ts xs b.1 b.2 h2 ho.2
  rw [Cm, e1, Option.bind_some, e2]
  rfl
theorem Hy : ∀ (d d' ty : Nat) (x t : AV) (I : List Nat), B6 ti tp H d ty x = some (t, I) → Gx ti tp d' ty t → B6 ti tp H d' ty x = some (t, I)
 | 0, _, _, _, _, _, h, _ => by simp [B6] at h
 | d + 1, 0, _, _, _, _, _, ho => by cases ho
 | d + 1, d' + 1, ty, x, t, I, h, ho => by
  cases x with
  | sc v =>
   obtain ⟨rfl, rfl⟩ : AV.sc v = t ∧ [] = I := by simpa [B6] using h
   rfl
  | nl =>
   obtain ⟨rfl, rfl⟩ : AV.ro 0 [] = t ∧ [] = I := by simpa [B6] using h
   rfl
  | sl id off n z =>
   rw [Fz] at h ⊢
   simp only [Option.bind_eq_some_iff] at h
   obtain ⟨i, h1, j, h2, h3⟩ := h
   split at h3
   case isFalse => cases h3
   rename_i hz
   split at h3
   case isFalse => cases h3
   rename_i ha
   simp only [Option.bind_eq_some_iff] at h3
   obtain ⟨cs, h4, q, h5, h6⟩ := h3
   obtain ⟨rfl, rfl⟩ : AV.ro n q.1 = t ∧ id :: q.2 = I := by simpa using h6
   obtain ⟨i', j', g1, g2, g3, g4⟩ := ho
   rw [h1] at g1
   cases g1
   rw [h2] at g2
   cases g2
   have e3 := M6 (fun ty x t I h ho => Hy d d' ty x t I h ho) _ _ _ _ h5 g4
   rw [hz] at h4
   simp only [h1, h2, Option.bind_some, hz, if_true, ha, h4, e3]
  | agg cs =>
   rw [D4] at h ⊢
   simp only [Option.bind_eq_some_iff] at h
   obtain ⟨i, h1, q, h2, h3⟩ := h
   obtain ⟨rfl, rfl⟩ : AV.agg q.1 = t ∧ q.2 = I := by simpa using h3
   obtain ⟨i', g1, g2⟩ := ho
   rw [h1] at g1
   cases g1
   have e3 := M6 (fun ty x t I h ho => Hy d d' ty x t I h ho) _ _ _ _ h2 g2
   rw [h1, Option.bind_some, e3]
   rfl
  | tup cs =>
   rw [Ft] at h ⊢
   simp only [Option.bind_eq_some_iff] at h
   obtain ⟨i, h1, q, h2, h3⟩ := h
   obtain ⟨rfl, rfl⟩ : AV.tup q.1 = t ∧ q.2 = I := by simpa using h3
   obtain ⟨i', g1, g2⟩ := ho
   rw [h1] at g1
   cases g1
   have e3 := M6 (fun ty x t I h ho => Hy d d' ty x t I h ho) _ _ _ _ h2 g2
   rw [h1, Option.bind_some, e3]
   rfl
  | _ => simp [B6] at h
theorem Tw {d : Nat} (hd : ∀ ty x t I, B6 ti tp H d ty x = some (t, I) → Ds H d x = some t) : ∀ (ts : List Nat) (xs cells : List AV) (I : List Nat), Cm (B6 ti tp H d) ts xs = some (cells, I) → xs.mapM (Ds H d) = some cells
 | ts, [], cells, I, h => by
  obtain ⟨rfl, e⟩ := Iz h
  cases e
  rfl
 | [], _ :: _, _, _, h => by simp [Cm] at h
 | t :: ts, x :: xs, cells, I, h => by
  obtain ⟨a, b, h1, h2, e⟩ := Fd h
  cases e
  simp only [List.mapM_cons, hd t x a.1 a.2 h1, Tw hd ts xs b.1 b.2 h2, Option.pure_def, Option.bind_eq_bind, Option.bind_some]
theorem M3 : ∀ (d ty : Nat) (x t : AV) (I : List Nat), B6 ti tp H d ty x = some (t, I) → Ds H d x = some t
 | 0, _, _, _, _, h => by simp [B6] at h
 | d + 1, ty, x, t, I, h => by
  have ih := Tw (ti := ti) (tp := tp) (H := H) (d := d) (fun ty x t I h => M3 d ty x t I h)
  cases x with
  | sc v =>
   obtain ⟨rfl, rfl⟩ : AV.sc v = t ∧ [] = I := by simpa [B6] using h
   rfl
  | nl =>
   obtain ⟨rfl, rfl⟩ : AV.ro 0 [] = t ∧ [] = I := by simpa [B6] using h
   rfl
  | sl id off n z =>
   rw [Fz] at h
   simp only [Option.bind_eq_some_iff] at h
   obtain ⟨i, h1, j, h2, h3⟩ := h
   split at h3
   case isFalse => cases h3
   split at h3
   case isFalse => cases h3
   simp only [Option.bind_eq_some_iff] at h3
   obtain ⟨cs, h4, q, h5, h6⟩ := h3
   obtain ⟨rfl, rfl⟩ : AV.ro n q.1 = t ∧ id :: q.2 = I := by simpa using h6
   rw [Oh, h4, Option.bind_some, ih _ _ _ _ h5]
   rfl
  | agg cs =>
   rw [D4] at h
   simp only [Option.bind_eq_some_iff] at h
   obtain ⟨i, h1, q, h2, h3⟩ := h
   obtain ⟨rfl, rfl⟩ : AV.agg q.1 = t ∧ q.2 = I := by simpa using h3
   rw [Na, ih _ _ _ _ h2]
   rfl
  | tup cs =>
   rw [Ft] at h
   simp only [Option.bind_eq_some_iff] at h
   obtain ⟨i, h1, q, h2, h3⟩ := h
   obtain ⟨rfl, rfl⟩ : AV.tup q.1 = t ∧ q.2 = I := by simpa using h3
   show (cs.mapM (Ds H d)).bind _ = _
   rw [ih _ _ _ _ h2]
   rfl
  | _ => simp [B6] at h
theorem Lg {f g : Nat → AV → Prop} (hfg : ∀ t x, f t x → g t x) : ∀ {ts : List Nat} {cs : List AV}, Eh f ts cs → Eh g ts cs
 | [], [], h => h
 | _ :: ts, _ :: cs, h => ⟨hfg _ _ h.1, Lg hfg h.2⟩
theorem O4 : ∀ (d ty : Nat) (x : AV), Gx ti tp d ty x → Gx ti tp (d + 1) ty x
 | 0, _, _, h => by cases h
 | d + 1, ty, x, h => by
  cases x with
  | sc v => trivial
  | ro n cells =>
   obtain ⟨i, j, h1, h2, h3, h4⟩ := h
   exact ⟨i, j, h1, h2, h3, Lg (O4 d) h4⟩
  | agg cs =>
   obtain ⟨i, h1, h2⟩ := h
   exact ⟨i, h1, Lg (O4 d) h2⟩
  | tup cs =>
   obtain ⟨i, h1, h2⟩ := h
   exact ⟨i, h1, Lg (O4 d) h2⟩
  | _ => cases h
theorem Bp {d d' ty : Nat} {x : AV} (h : Gx ti tp d ty x) (hd : d ≤ d') : Gx ti tp d' ty x := by
 induction hd with
 | refl => exact h
 | step _ ih => exact O4 _ _ _ ih
theorem Aay {d d' : Nat} {ts : List Nat} {cs : List AV} (h : Eh (Gx ti tp d) ts cs) (hd : d ≤ d') : Eh (Gx ti tp d') ts cs := Lg (fun _ _ h => Bp h hd) h
end
inductive Ck where
 | blk (id : Nat) (cs : List AV) (a : Bool)
 | own (x : AV) (ty : Nat) (t : AV)
 | shr (x : AV) (ty : Nat) (t : AV) (y : AV) (ty' : Nat) (t' : AV)
 | shs (x : AV) (ty : Nat) (t : AV) (ys : List (AV × Nat × AV))
def CkOk (H : Ac) (c : Ck) (I : List Nat) : Prop :=
 match c with
 | .blk id cs a => I = [id] ∧ H[id]? = some ⟨cs, true, a⟩
 | .own x ty t => Aq x = true ∧ Gx At E0.tp 6 ty t ∧ B6 At E0.tp H 6 ty x = some (t, I)
 | .shr x ty t y ty' t' => (Aq x = true ∧ Gx At E0.tp 6 ty t ∧ B6 At E0.tp H 6 ty x = some (t, I)) ∧ Gx At E0.tp 6 ty' t' ∧ ∃ J, B6 At E0.tp H 6 ty' y = some (t', J) ∧ ∀ i ∈ J, i ∈ I
 | .shs x ty t ys => (Aq x = true ∧ Gx At E0.tp 6 ty t ∧ B6 At E0.tp H 6 ty x = some (t, I)) ∧ ∀ q ∈ ys, Gx At E0.tp 6 q.2.1 q.2.2 ∧ ∃ J, B6 At E0.tp H 6 q.2.1 q.1 = some (q.2.2, J) ∧ ∀ i ∈ J, i ∈ I
def SepI (H : Ac) : List Ck → List Nat → Prop
 | [], I => I = []
 | c :: L, I => ∃ J R, I = J ++ R ∧ CkOk H c J ∧ SepI H L R
def Sep (H : Ac) (L : List Ck) : Prop := ∃ I, SepI H L I ∧ I.Nodup
inductive Pk : List Ck → Ck → List Ck → Prop
 | here {c : Ck} {L : List Ck} : Pk (c :: L) c L
 | there {a c : Ck} {L L' : List Ck} : Pk L c L' → Pk (a :: L) c (a :: L')
section
variable {H H' : Ac} {L L' L1 L2 : List Ck} {c : Ck} {I J R : List Nat}
theorem Kd : Sep H [] := ⟨[], rfl, List.nodup_nil⟩
theorem CkOk.frame (h : CkOk H c I) (hs : ∀ i ∈ I, H'[i]? = H[i]?) : CkOk H' c I := by
 cases c with
 | blk id cs a =>
  obtain ⟨rfl, h2⟩ := h
  exact ⟨rfl, by rw [hs id (by simp)]; exact h2⟩
 | own x ty t => exact ⟨h.1, h.2.1, Dd 6 ty x _ h.2.2 hs⟩
 | shr x ty t y ty' t' =>
  obtain ⟨⟨h1, h2, h3⟩, h4, J, h5, h6⟩ := h
  exact ⟨⟨h1, h2, Dd 6 ty x _ h3 hs⟩, h4, J, Dd 6 ty' y _ h5 fun i hi => hs i (h6 i hi), h6⟩
 | shs x ty t ys =>
  obtain ⟨⟨h1, h2, h3⟩, h4⟩ := h
  exact ⟨⟨h1, h2, Dd 6 ty x _ h3 hs⟩, fun q hq => by
   obtain ⟨g1, J, g2, g3⟩ := h4 q hq
   exact ⟨g1, J, Dd 6 _ _ _ g2 fun i hi => hs i (g3 i hi), g3⟩⟩
theorem CkOk.lt (h : CkOk H c I) : ∀ i ∈ I, i < H.length := by
 cases c with
 | blk id cs a =>
  obtain ⟨rfl, h2⟩ := h
  intro i hi
  rw [List.mem_singleton] at hi
  subst hi
  exact (List.getElem?_eq_some_iff.1 h2).1
 | own x ty t => exact Kw 6 ty x _ h.2.2
 | shr x ty t y ty' t' => exact Kw 6 ty x _ h.1.2.2
 | shs x ty t ys => exact Kw 6 ty x _ h.1.2.2
theorem SepI.frame : ∀ {L : List Ck} {I : List Nat}, SepI H L I → (∀ i ∈ I, H'[i]? = H[i]?) → SepI H' L I
 | [], I, h, _ => h
 | c :: L, I, h, hs => by
  obtain ⟨J, R, rfl, h1, h2⟩ := h
  exact ⟨J, R, rfl, h1.frame fun i hi => hs i (List.mem_append_left _ hi), h2.frame fun i hi => hs i (List.mem_append_right _ hi)⟩
theorem SepI.lt : ∀ {L : List Ck} {I : List Nat}, SepI H L I → ∀ i ∈ I, i < H.length
 | [], I, h => by
  cases (show I = [] from h)
  intro i hi
  cases hi
 | c :: L, I, h => by
  obtain ⟨J, R, rfl, h1, h2⟩ := h
  intro i hi
  rcases List.mem_append.1 hi with hi | hi
  ·exact h1.lt i hi
  ·exact h2.lt i hi
theorem SepI.grow (h : SepI H L I) (X : List Gl) : SepI (H ++ X) L I := h.frame fun i hi => List.getElem?_append_left (h.lt i hi)
theorem Sep.grow (h : Sep H L) (X : List Gl) : Sep (H ++ X) L := by
 obtain ⟨I, h1, h2⟩ := h
 exact ⟨I, h1.grow X, h2⟩
theorem Sep.new {X : List Gl} (hs : Sep H L) (hc : CkOk (H ++ X) c J) (hJ : J.Nodup) (hge : ∀ i ∈ J, H.length ≤ i) : Sep (H ++ X) (c :: L) := by
 obtain ⟨I, h1, h2⟩ := hs
 refine ⟨J ++ I, ⟨J, I, rfl, hc, h1.grow X⟩, List.nodup_append.2 ⟨hJ, h2, fun a ha b hb e => ?_⟩⟩
 have := h1.lt b hb
 have := hge a ha
 omega
theorem Pk.sepI : ∀ {L L' : List Ck} {c : Ck} {I : List Nat}, Pk L c L' → SepI H L I → ∃ J R, CkOk H c J ∧ SepI H L' R ∧ I.Perm (J ++ R)
 | _, _, _, _, .here, h => by
  obtain ⟨J, R, rfl, h1, h2⟩ := h
  exact ⟨J, R, h1, h2, List.Perm.refl _⟩
 | _, _, _, _, .there p, h => by
  obtain ⟨J, R, rfl, h1, h2⟩ := h
  obtain ⟨J', R', g1, g2, g3⟩ := p.sepI h2
  refine ⟨J', J ++ R', g1, ⟨J, R', rfl, h1, g2⟩, ?_⟩
  refine (List.Perm.append_left J g3).trans ?_
  rw [← List.append_assoc, ← List.append_assoc]
  exact List.Perm.append_right R' List.perm_append_comm
theorem Sep.pick (h : Sep H L) (p : Pk L c L') : Sep H (c :: L') := by
 obtain ⟨I, h1, h2⟩ := h
 obtain ⟨J, R, g1, g2, g3⟩ := p.sepI h1
 exact ⟨J ++ R, ⟨J, R, rfl, g1, g2⟩, g3.nodup_iff.1 h2⟩
theorem Sep.tail (h : Sep H (c :: L)) : Sep H L := by
 obtain ⟨I, ⟨J, R, rfl, h1, h2⟩, h3⟩ := h
 exact ⟨R, h2, (List.nodup_append.1 h3).2.1⟩
theorem Sep.blk {id : Nat} {cs : List AV} {a : Bool} (h : Sep H L) (p : Pk L (.blk id cs a) L') : H[id]? = some ⟨cs, true, a⟩ := by
 obtain ⟨I, ⟨J, R, rfl, h1, h2⟩, h3⟩ := h.pick p
 exact h1.2
theorem Sep.put {id : Nat} {cs : List AV} {a : Bool} (h : Sep H L) (p : Pk L (.blk id cs a) L') (cs' : List AV) (a' : Bool) : Sep (H.set id ⟨cs', true, a'⟩) (.blk id cs' a' :: L') := by
 obtain ⟨I, ⟨J, R, rfl, ⟨rfl, h1⟩, h2⟩, h3⟩ := h.pick p
 have hn := (List.nodup_cons.1 h3).1
 have hl := (List.getElem?_eq_some_iff.1 h1).1
 refine ⟨[id] ++ R, ⟨[id], R, rfl, ⟨rfl, by rw [List.getElem?_set_self hl]⟩, h2.frame fun i hi => ?_⟩, h3⟩
 rw [List.getElem?_set_ne]
 rintro rfl
 exact hn hi
theorem Sep.own {x t : AV} {ty : Nat} (h : Sep H L) (p : Pk L (.own x ty t) L') : Aq x = true ∧ Gx At E0.tp 6 ty t ∧ ∃ I, B6 At E0.tp H 6 ty x = some (t, I) ∧ I.Nodup := by
 obtain ⟨I, ⟨J, R, rfl, ⟨h0, h1, h1'⟩, h2⟩, h3⟩ := h.pick p
 exact ⟨h0, h1, J, h1', (List.nodup_append.1 h3).1⟩
theorem Sep.seen {x t y t' : AV} {ty ty' : Nat} (h : Sep H L) (p : Pk L (.shr x ty t y ty' t') L') : Gx At E0.tp 6 ty' t' ∧ ∃ I, B6 At E0.tp H 6 ty' y = some (t', I) := by
 obtain ⟨I, ⟨J, R, rfl, ⟨h0, h1, J', h1', h3⟩, h2⟩, h4⟩ := h.pick p
 exact ⟨h1, J', h1'⟩
theorem Sep.toShs {x t : AV} {ty : Nat} (h : Sep H L) (p : Pk L (.own x ty t) L') : Sep H (.shs x ty t [] :: L') := by
 obtain ⟨I, ⟨J, R, rfl, h0, h2⟩, h3⟩ := h.pick p
 exact ⟨J ++ R, ⟨J, R, rfl, ⟨h0, fun q hq => by cases hq⟩, h2⟩, h3⟩
theorem Sep.ofShs {x t : AV} {ty : Nat} {ys : List (AV × Nat × AV)} (h : Sep H L) (p : Pk L (.shs x ty t ys) L') : Sep H (.own x ty t :: L') := by
 obtain ⟨I, ⟨J, R, rfl, ⟨h0, _⟩, h2⟩, h3⟩ := h.pick p
 exact ⟨J ++ R, ⟨J, R, rfl, h0, h2⟩, h3⟩
theorem Sep.seenS {x t : AV} {ty k : Nat} {ys : List (AV × Nat × AV)} {q : AV × Nat × AV} (h : Sep H L) (p : Pk L (.shs x ty t ys) L') (hk : ys[k]? = some q) : Gx At E0.tp 6 q.2.1 q.2.2 ∧ ∃ I, B6 At E0.tp H 6 q.2.1 q.1 = some (q.2.2, I) := by
 obtain ⟨I, ⟨J, R, rfl, ⟨h0, h1⟩, h2⟩, h4⟩ := h.pick p
 obtain ⟨g1, J', g2, _⟩ := h1 q (List.mem_of_getElem? hk)
 exact ⟨g1, J', g2⟩
theorem Sep.forget {x t y t' : AV} {ty ty' : Nat} (h : Sep H L) (p : Pk L (.shr x ty t y ty' t') L') : Sep H (.own x ty t :: L') := by
 obtain ⟨I, ⟨J, R, rfl, ⟨h0, _⟩, h2⟩, h4⟩ := h.pick p
 exact ⟨J ++ R, ⟨J, R, rfl, h0, h2⟩, h4⟩
theorem Sep.nl {ty : Nat} (h : Sep H L) (hty : ∃ i j, At ty = some i ∧ At i.elem = some j) : Sep H (.own .nl ty (.ro 0 []) :: L) := by
 obtain ⟨I, h1, h2⟩ := h
 obtain ⟨i, j, e1, e2⟩ := hty
 exact ⟨[] ++ I, ⟨[], I, rfl, ⟨rfl, ⟨i, j, e1, e2, by simp, by simp [Eh]⟩, rfl⟩, h1⟩, h2⟩
inductive OwnR : List Ck → List AV → List Nat → List AV → List Ck → Prop
 | nil {L : List Ck} : OwnR L [] [] [] L
 | sc {L L' : List Ck} {v : Value} {raw cells : List AV} {ty : Nat} {tys : List Nat} : OwnR L raw tys cells L' → OwnR L (.sc v :: raw) (ty :: tys) (.sc v :: cells) L'
 | nl {L L' : List Ck} {raw cells : List AV} {ty : Nat} {tys : List Nat} : OwnR L raw tys cells L' → OwnR L (.nl :: raw) (ty :: tys) (.ro 0 [] :: cells) L'
 | own {L L1 L' : List Ck} {x t : AV} {raw cells : List AV} {ty : Nat} {tys : List Nat} : Pk L (.own x ty t) L1 → OwnR L1 raw tys cells L' → OwnR L (x :: raw) (ty :: tys) (t :: cells) L'
 | agg {L L1 L' : List Ck} {cs ts raw cells : List AV} {ty : Nat} {tys cty : List Nat} : (∃ i, At ty = some i ∧ i.cty = cty) → OwnR L cs cty ts L1 → OwnR L1 raw tys cells L' → OwnR L (.agg cs :: raw) (ty :: tys) (.agg ts :: cells) L'
theorem OwnR.sound : ∀ {L L' : List Ck} {raw cells : List AV} {tys : List Nat} {I : List Nat}, OwnR L raw tys cells L' → SepI H L I → ∀ d, Eh (Gx At E0.tp d) tys cells → ∃ J R, Cm (B6 At E0.tp H d) tys raw = some (cells, J) ∧ SepI H L' R ∧ I.Perm (J ++ R)
 | _, _, _, _, _, I, .nil, h, d, _ => ⟨[], I, rfl, h, List.Perm.refl _⟩
 | _, _, _, _, _, I, .sc q, h, d + 1, ho => by
  obtain ⟨J, R, h1, h2, h3⟩ := q.sound h (d + 1) ho.2
  refine ⟨J, R, ?_, h2, h3⟩
  rw [Cm, Gt, Option.bind_some, h1]
  rfl
 | _, _, _, _, _, I, .nl q, h, d + 1, ho => by
  obtain ⟨J, R, h1, h2, h3⟩ := q.sound h (d + 1) ho.2
  refine ⟨J, R, ?_, h2, h3⟩
  rw [Cm, show B6 At E0.tp H (d + 1) _ .nl = some (.ro 0 [], []) from rfl, Option.bind_some, h1]
  rfl
 | _, _, _, _, _, I, .own p q, h, d, ho => by
  obtain ⟨J1, R1, g1, g2, g3⟩ := p.sepI h
  obtain ⟨J, R, h1, h2, h3⟩ := q.sound g2 d ho.2
  have e := Hy 6 d _ _ _ _ g1.2.2 ho.1
  refine ⟨J1 ++ J, R, ?_, h2, ?_⟩
  ·rw [Cm, e, Option.bind_some, h1]
   rfl
  ·refine g3.trans ?_
   rw [List.append_assoc]
   exact List.Perm.append_left J1 h3
 | _, _, _, _, _, I, .agg hty p q, h, d + 1, ho => by
  obtain ⟨i, e1, rfl⟩ := hty
  obtain ⟨i', g1, g2⟩ := ho.1
  rw [e1] at g1
  cases g1
  obtain ⟨J1, R1, a1, a2, a3⟩ := p.sound h (d + 1) (Aay g2 (Nat.le_succ d))
  obtain ⟨J, R, h1, h2, h3⟩ := q.sound a2 (d + 1) ho.2
  have a1' := M6 (fun ty x t I h ho => Hy (d + 1) d ty x t I h ho) _ _ _ _ a1 g2
  refine ⟨J1 ++ J, R, ?_, h2, ?_⟩
  ·rw [Cm, D4, e1, Option.bind_some, a1', Option.bind_some, Option.bind_some, h1]
   rfl
  ·refine a3.trans ?_
   rw [List.append_assoc]
   exact List.Perm.append_left J1 h3
 | _, _, _, _, _, I, .sc q, h, 0, ho => by cases ho.1
 | _, _, _, _, _, I, .nl q, h, 0, ho => by cases ho.1
 | _, _, _, _, _, I, .agg _ p q, h, 0, ho => by cases ho.1
end
end
section
open Go
theorem A8 {a0 x : Ck} {L : List Ck} : Pk (a0 :: x :: L) x (a0 :: L) := .there (.here)
theorem Ci {a0 a1 x : Ck} {L : List Ck} : Pk (a0 :: a1 :: x :: L) x (a0 :: a1 :: L) := .there (.there (.here))
theorem Cz {a0 a1 a2 x : Ck} {L : List Ck} : Pk (a0 :: a1 :: a2 :: x :: L) x (a0 :: a1 :: a2 :: L) := .there (.there (.there (.here)))
theorem Fa {a0 a1 a2 a3 x : Ck} {L : List Ck} : Pk (a0 :: a1 :: a2 :: a3 :: x :: L) x (a0 :: a1 :: a2 :: a3 :: L) := .there (.there (.there (.there (.here))))
theorem Lf {a0 a1 a2 a3 a4 x : Ck} {L : List Ck} : Pk (a0 :: a1 :: a2 :: a3 :: a4 :: x :: L) x (a0 :: a1 :: a2 :: a3 :: a4 :: L) := .there (.there (.there (.there (.there (.here)))))
theorem Q0 {a0 a1 a2 a3 a4 a5 x : Ck} {L : List Ck} : Pk (a0 :: a1 :: a2 :: a3 :: a4 :: a5 :: x :: L) x (a0 :: a1 :: a2 :: a3 :: a4 :: a5 :: L) := .there (.there (.there (.there (.there (.there (.here))))))
theorem zP7 {a0 a1 a2 a3 a4 a5 a6 x : Ck} {L : List Ck} : Pk (a0 :: a1 :: a2 :: a3 :: a4 :: a5 :: a6 :: x :: L) x (a0 :: a1 :: a2 :: a3 :: a4 :: a5 :: a6 :: L) := .there (.there (.there (.there (.there (.there (.there (.here)))))))
theorem Vi {a0 a1 a2 a3 a4 a5 a6 a7 x : Ck} {L : List Ck} : Pk (a0 :: a1 :: a2 :: a3 :: a4 :: a5 :: a6 :: a7 :: x :: L) x (a0 :: a1 :: a2 :: a3 :: a4 :: a5 :: a6 :: a7 :: L) := .there (.there (.there (.there (.there (.there (.there (.there (.here))))))))
theorem D6 {a0 a1 a2 a3 a4 a5 a6 a7 a8 x : Ck} {L : List Ck} : Pk (a0 :: a1 :: a2 :: a3 :: a4 :: a5 :: a6 :: a7 :: a8 :: x :: L) x (a0 :: a1 :: a2 :: a3 :: a4 :: a5 :: a6 :: a7 :: a8 :: L) := .there (.there (.there (.there (.there (.there (.there (.there (.there (.here)))))))))
theorem Px {a0 a1 a2 a3 a4 a5 a6 a7 a8 a9 x : Ck} {L : List Ck} : Pk (a0 :: a1 :: a2 :: a3 :: a4 :: a5 :: a6 :: a7 :: a8 :: a9 :: x :: L) x (a0 :: a1 :: a2 :: a3 :: a4 :: a5 :: a6 :: a7 :: a8 :: a9 :: L) := .there (.there (.there (.there (.there (.there (.there (.there (.there (.there (.here))))))))))
theorem Mx {a0 a1 a2 a3 a4 a5 a6 a7 a8 a9 a10 x : Ck} {L : List Ck} : Pk (a0 :: a1 :: a2 :: a3 :: a4 :: a5 :: a6 :: a7 :: a8 :: a9 :: a10 :: x :: L) x (a0 :: a1 :: a2 :: a3 :: a4 :: a5 :: a6 :: a7 :: a8 :: a9 :: a10 :: L) := .there (.there (.there (.there (.there (.there (.there (.there (.there (.there (.there (.here)))))))))))
theorem Ahx {a0 a1 a2 a3 a4 a5 a6 a7 a8 a9 a10 a11 x : Ck} {L : List Ck} : Pk (a0 :: a1 :: a2 :: a3 :: a4 :: a5 :: a6 :: a7 :: a8 :: a9 :: a10 :: a11 :: x :: L) x (a0 :: a1 :: a2 :: a3 :: a4 :: a5 :: a6 :: a7 :: a8 :: a9 :: a10 :: a11 :: L) := .there (.there (.there (.there (.there (.there (.there (.there (.there (.there (.there (.there (.here))))))))))))
theorem AcA {a0 a1 a2 a3 a4 a5 a6 a7 a8 a9 a10 a11 a12 x : Ck} {L : List Ck} : Pk (a0 :: a1 :: a2 :: a3 :: a4 :: a5 :: a6 :: a7 :: a8 :: a9 :: a10 :: a11 :: a12 :: x :: L) x (a0 :: a1 :: a2 :: a3 :: a4 :: a5 :: a6 :: a7 :: a8 :: a9 :: a10 :: a11 :: a12 :: L) := .there (.there (.there (.there (.there (.there (.there (.there (.there (.there (.there (.there (.there (.here)))))))))))))
theorem Ahb {a0 a1 a2 a3 a4 a5 a6 a7 a8 a9 a10 a11 a12 a13 x : Ck} {L : List Ck} : Pk (a0 :: a1 :: a2 :: a3 :: a4 :: a5 :: a6 :: a7 :: a8 :: a9 :: a10 :: a11 :: a12 :: a13 :: x :: L) x (a0 :: a1 :: a2 :: a3 :: a4 :: a5 :: a6 :: a7 :: a8 :: a9 :: a10 :: a11 :: a12 :: a13 :: L) := .there (.there (.there (.there (.there (.there (.there (.there (.there (.there (.there (.there (.there (.there (.here))))))))))))))
theorem Ag5 {a0 a1 a2 a3 a4 a5 a6 a7 a8 a9 a10 a11 a12 a13 a14 x : Ck} {L : List Ck} : Pk (a0 :: a1 :: a2 :: a3 :: a4 :: a5 :: a6 :: a7 :: a8 :: a9 :: a10 :: a11 :: a12 :: a13 :: a14 :: x :: L) x (a0 :: a1 :: a2 :: a3 :: a4 :: a5 :: a6 :: a7 :: a8 :: a9 :: a10 :: a11 :: a12 :: a13 :: a14 :: L) := .there (.there (.there (.there (.there (.there (.there (.there (.there (.there (.there (.there (.there (.there (.there (.here)))))))))))))))
def Gd {β : Type} (G : Option β → Prop) (o : Option β) : Prop := G o
section
variable {β : Type} {n : Nat} {H : Ac} {L L' L1 L2 : List Ck} {G : Option β → Prop} {K : AV → Option β} {KH : KO β}
theorem Dv {a b : Option β} (e : a = b) (h : Gd G b) : Gd G a := by rw [e]; exact h
theorem C8 {cs : List AV} (hs : Sep H L) (h : ∀ i H', Sep H' (.blk i cs true :: L) → Gd G (KH (.ptr i 0) H')) : Gd G (Ie cs H fun x H => KH x H) :=
 h _ _ (hs.new (J := [H.length]) ⟨rfl, by rw [List.getElem?_append_right (Nat.le_refl _), Nat.sub_self]; rfl⟩ (by simp) (by simp))
theorem Bl {k w : Nat} {cs : List AV} {a : Bool} (hs : Sep H L) (h : ∀ i H', Sep H' (.blk i cs a :: L) → Gd G (KH (.sl i 0 k w) H')) : Gd G (Fj k w cs a H fun x H => KH x H) :=
 h _ _ (hs.new (J := [H.length]) ⟨rfl, by rw [List.getElem?_append_right (Nat.le_refl _), Nat.sub_self]; rfl⟩ (by simp) (by simp))
theorem Qh {x : AV} {cs : List AV} (hs : Sep H L) (hc : Cx x = some cs) (h : ∀ i H', Sep H' (.blk i cs true :: L) → Gd G (KH (.ptr i 0) H')) : Gd G (Qc x H fun x H => KH x H) := by
 refine Dv (b := Ie cs H fun x H => KH x H) ?_ (C8 hs h)
 show (Cx x).bind _ = _
 rw [hc]
 rfl
theorem H8 {cs : List AV} (h : cs.all Ix = true) : Cx (.agg cs) = some cs := S6 h
theorem Ad {cs : List AV} (h : cs.all Aq = true) : Cx (.agg cs) = some cs := by
 show (if cs.all Aq then some cs else none) = _
 rw [if_pos h]
theorem Aa {x : AV} {xs : List AV} (h : Aq x = true) (hs : xs.all Aq = true) : (x :: xs).all Aq = true := by
 rw [List.all_cons, h, hs]
 rfl
theorem Ak {x : AV} (h : Aq x = true) : Cx x = some [x] := by
 cases x <;> simp_all [Cx, Aq]
theorem Ay {i o : Nat} {cs : List AV} {a : Bool} {c : AV} (hs : Sep H L) (hp : Pk L (.blk i cs a) L1) (hc : cs[o]? = some c) (h : Gd G (K c)) : Gd G (C2 false 1 (.ptr i o) H fun x => K x) := by
 refine Dv ?_ h
 obtain ⟨hlt, he⟩ := List.getElem?_eq_some_iff.1 hc
 have e : Ba H i o 1 = some [c] := by
  simp only [Ba, hs.blk hp, if_true]
  rw [if_pos (by omega), List.drop_eq_getElem_cons hlt, he]
  rfl
 exact ldF e _
theorem Ah6 {i o w : Nat} {cs ds : List AV} {a : Bool} (hs : Sep H L) (hp : Pk L (.blk i cs a) L1) (hl : o + w ≤ cs.length) (hc : (cs.drop o).take w = ds) (h : Gd G (K (.agg ds))) : Gd G (C2 true w (.ptr i o) H fun x => K x) := by
 refine Dv ?_ h
 have e : Ba H i o w = some ds := by
  simp only [Ba, hs.blk hp, if_true]
  rw [if_pos hl, hc]
 exact ldT e _
theorem Aj {i w : Nat} {cs : List AV} {a : Bool} (hs : Sep H L) (hp : Pk L (.blk i cs a) L1) (hl : cs.length = w) (h : Gd G (K (.agg cs))) : Gd G (C2 true w (.ptr i 0) H fun x => K x) :=
 Ah6 hs hp (by omega) (by rw [List.drop_zero, ← hl, List.take_length]) h
theorem A3 {i o w : Nat} {cs cs' ds : List AV} {a : Bool} {y : AV} {KS : Ac → Option β} (hs : Sep H L) (hp : Pk L (.blk i cs a) L1) (hy : Cx y = some ds) (hd : ds.length = w) (hl : o + w ≤ cs.length) (hc : Cg cs o ds = cs') (h : ∀ H', Sep H' (.blk i cs' a :: L1) → Gd G (KS H')) : Gd G (Dt w (.ptr i o) y H fun H => KS H) := by
 have hb := hs.blk hp
 refine Dv (En w i o y ⟨cs, true, a⟩ ds H _ hb hy hd hl rfl) ?_
 have := hs.put hp cs' a
 rw [← hc] at this
 exact h _ (by rw [← hc]; exact this)
theorem Rn {cells : List AV} {c : AV} (hc : cells[0]? = some c) (h : Gd G (K c)) : Gd G (C2 false 1 (.rp cells) H fun x => K x) := by
 cases cells with
 | nil => cases hc
 | cons x xs =>
  obtain rfl : x = c := by simpa using hc
  refine Dv (Nz x xs H _) h
theorem Z9 {w : Nat} {cs rest : List AV} (hw : cs.length = w) (h : Gd G (K (.agg cs))) : Gd G (C2 true w (.rp (cs ++ rest)) H fun x => K x) := Dv (Xf w cs rest H _ hw) h
theorem Af {o i off o' : Nat} (e : off + o = o') (h : Gd G (K (.ptr i o'))) : Gd G (Mi o (.ptr i off) fun x => K x) := by subst e; exact h
theorem Od {o : Nat} {cells : List AV} (h : Gd G (K (.rp (cells.drop o)))) : Gd G (Mi o (.rp cells) fun x => K x) := h
theorem Ei {z cs z' r : List AV} {o n : Nat} {v : AV} {rest : List (Nat × Nat × AV)} (h : Cx v = some cs) (hl : cs.length = n) (ho : o + n ≤ z.length) (hz : Cg z o cs = z') (h2 : Ev z' rest = some r) : Ev z ((o, n, v) :: rest) = some r := by
 subst hz
 subst hl
 simp only [Ev, h, Option.bind_some, if_true, if_pos ho]
 exact h2
theorem Bk {zs cs : List AV} {ps : List (Nat × Nat × AV)} {KL : List AV → Option β} (hf : Ev zs ps = some cs) (h : Gd G (KL cs)) : Gd G ((Ev zs ps).bind fun c => KL c) := by
 rw [hf]
 exact h
theorem Cn {i : Nat} {vs : List AV} {v : AV} (hv : vs[i]? = some v) (h : Gd G (K v)) : Gd G (Qm (.tup vs) i fun x => K x) := by
 refine Dv ?_ h
 show (vs[i]?).bind _ = _
 rw [hv]
 rfl
theorem Ox {m : Nat} {cs : List AV} (h : Gd G (K (.sc (.int .i64 m)))) : Gd G (P8 (.ro m cs) fun x => K x) := h
theorem AcG {i o m w : Nat} (h : Gd G (K (.sc (.int .i64 m)))) : Gd G (P8 (.sl i o m w) fun x => K x) := h
theorem AeV {d ty m : Nat} {x : AV} {cells : List AV} {I : List Nat} (h : B6 At E0.tp H d ty x = some (.ro m cells, I)) : G2 x = some m := by
 cases d with
 | zero => simp [B6] at h
 | succ d =>
  cases x with
  | sc v => simp [B6] at h
  | nl =>
   have := (Option.some.inj h)
   simp only [Prod.mk.injEq, AV.ro.injEq] at this
   rw [← this.1.1]
   rfl
  | sl id off n z =>
   rw [Fz] at h
   simp only [Option.bind_eq_some_iff] at h
   obtain ⟨i, h1, j, h2, h3⟩ := h
   split at h3
   case isFalse => cases h3
   split at h3
   case isFalse => cases h3
   simp only [Option.bind_eq_some_iff] at h3
   obtain ⟨cs, h4, q, h5, h6⟩ := h3
   obtain ⟨h7, -⟩ : AV.ro n q.1 = .ro m cells ∧ _ := by simpa only [Prod.mk.injEq, Option.some.injEq] using h6
   cases h7
   rfl
  | agg cs =>
   rw [D4] at h
   simp only [Option.bind_eq_some_iff] at h
   obtain ⟨i, h1, q, h2, h3⟩ := h
   simp at h3
  | tup cs =>
   rw [Ft] at h
   simp only [Option.bind_eq_some_iff] at h
   obtain ⟨i, h1, q, h2, h3⟩ := h
   simp at h3
  | _ => simp [B6] at h
theorem Ic {x : AV} {ty m : Nat} {cells : List AV} (hs : Sep H L) (hp : Pk L (.own x ty (.ro m cells)) L1) (h : Gd G (K (.sc (.int .i64 m)))) : Gd G (P8 x fun x => K x) := by
 obtain ⟨_, _, I, e, _⟩ := hs.own hp
 have hl := AeV e
 refine Dv ?_ h
 have key : ∀ (x : AV), (∀ v, x ≠ .sc v) → G2 x = some m → P8 x K = K (.sc (.int .i64 m)) := by
  intro x hx hl
  cases x with
  | sc v => exact absurd rfl (hx v)
  | nl => cases hl; rfl
  | ro n cs => cases hl; rfl
  | sl a b c d => cases hl; rfl
  | _ => cases hl
 refine key x (fun v hv => ?_) hl
 subst hv
 simp [B6] at e
theorem Ph {op : BinOp} {x y v : AV} (e : ∀ k : AV → Option β, Fh op x y k = k v) (h : Gd G (K v)) : Gd G (Fh op x y fun t => K t) := Dv (e _) h
theorem I7 {op : BinOp} {x y v : AV} (e : ∀ k : AV → Option β, Qg op x y k = k v) (h : Gd G (K v)) : Gd G (Qg op x y fun t => K t) := Dv (e _) h
theorem Bv {a b : Int} (h : Gd G (K (.sc (.bool (decide (a = b)))))) : Gd G (Fh .eql (.sc (.int .i64 a)) (.sc (.int .i64 b)) fun t => K t) := h
theorem Ki {a b : Int} (h : Gd G (K (.sc (.bool (!decide (a = b)))))) : Gd G (Fh .neq (.sc (.int .i64 a)) (.sc (.int .i64 b)) fun t => K t) := h
theorem Hw {a b : Int} (h : Gd G (K (.sc (.bool (decide (a < b)))))) : Gd G (Fh .lss (.sc (.int .i64 a)) (.sc (.int .i64 b)) fun t => K t) := h
theorem AcF {a b : Int} (h : Gd G (K (.sc (.bool (decide (a ≤ b)))))) : Gd G (Fh .leq (.sc (.int .i64 a)) (.sc (.int .i64 b)) fun t => K t) := h
theorem Js {a b : Int} (h : Gd G (K (.sc (.bool (decide (b < a)))))) : Gd G (Fh .gtr (.sc (.int .i64 a)) (.sc (.int .i64 b)) fun t => K t) := h
theorem Aaq {a b : Int} (h : Gd G (K (.sc (.bool (decide (b ≤ a)))))) : Gd G (Fh .geq (.sc (.int .i64 a)) (.sc (.int .i64 b)) fun t => K t) := h
theorem Eo {a b : Int} (h0 : -9223372036854775808 ≤ a + b) (h1 : a + b ≤ 9223372036854775807) (h : Gd G (K (.sc (.int .i64 (a + b))))) : Gd G (Fh .add (.sc (.int .i64 a)) (.sc (.int .i64 b)) fun t => K t) := by
 refine Dv ?_ h
 show K (.sc (.int .i64 (IntKind.i64.wrap (a + b)))) = _
 rw [Fe _ h0 h1]
theorem K7 {a b : Int} (h0 : -9223372036854775808 ≤ a - b) (h1 : a - b ≤ 9223372036854775807) (h : Gd G (K (.sc (.int .i64 (a - b))))) : Gd G (Fh .sub (.sc (.int .i64 a)) (.sc (.int .i64 b)) fun t => K t) := by
 refine Dv ?_ h
 show K (.sc (.int .i64 (IntKind.i64.wrap (a - b)))) = _
 rw [Fe _ h0 h1]
theorem Aa0 {a b : Int} (h0 : -9223372036854775808 ≤ a * b) (h1 : a * b ≤ 9223372036854775807) (h : Gd G (K (.sc (.int .i64 (a * b))))) : Gd G (Fh .mul (.sc (.int .i64 a)) (.sc (.int .i64 b)) fun t => K t) := by
 refine Dv ?_ h
 show K (.sc (.int .i64 (IntKind.i64.wrap (a * b)))) = _
 rw [Fe _ h0 h1]
theorem Xp {a b : ByteArray} (h : Gd G (K (.sc (.bool (!(a.toList == b.toList)))))) : Gd G (Fh .neq (.sc (.string a)) (.sc (.string b)) fun t => K t) := h
theorem F8 {b : Bool} (h : Gd G (K (.sc (.bool (!b))))) : Gd G (pUn .not (.sc (.bool b)) fun t => K t) := h
theorem F3 {α : Sort _} {γ : Type} {G : Option γ → Prop} {x : α} {f : α → Option γ} (h : Gd G (f x)) : Gd G (M7 x f) := h
theorem C1 {b : Bool} {x y : Option β} (hb : b = true) (h : Gd G x) : Gd G (Ih (.sc (.bool b)) x y) := by subst hb; exact h
theorem B3 {b : Bool} {x y : Option β} (hb : b = false) (h : Gd G y) : Gd G (Ih (.sc (.bool b)) x y) := by subst hb; exact h
theorem Ag {b t : Bool} {m : (KO β) → Option β} (hb : b = t) (h : Gd G (m fun x H => KH x H)) : Gd G (H9 (.sc (.bool b)) t H m fun x H => KH x H) := by
 subst hb
 cases b <;> exact h
theorem B0 {b t : Bool} {m : (KO β) → Option β} (hb : b = !t) (h : Gd G (KH (.sc undef) H)) : Gd G (H9 (.sc (.bool b)) t H m fun x H => KH x H) := by
 subst hb
 cases t <;> exact h
theorem Jt {t : Bool} {m : (KO β) → Option β} (h : Gd G (KH (.sc undef) H)) : Gd G (H9 (.sc undef) t H m fun x H => KH x H) := h
theorem D9 {b : Bool} {x y : AV} (hb : b = true) (h : Gd G (K x)) : Gd G (Oj (.sc (.bool b)) x y fun t => K t) := by
 subst hb
 cases x <;> cases y <;> exact h
theorem C4 {b : Bool} {x y : AV} (hb : b = false) (h : Gd G (K y)) : Gd G (Oj (.sc (.bool b)) x y fun t => K t) := by
 subst hb
 cases x <;> cases y <;> exact h
inductive VwC (L : List Ck) : Nat → AV → AV → Prop
 | sc {d : Nat} {v : Value} : VwC L (d + 1) (.sc v) (.sc v)
 | nl {d : Nat} : VwC L (d + 1) .nl (.ro 0 [])
 | ro {d n : Nat} {cs : List AV} : VwC L (d + 1) (.ro n cs) (.ro n cs)
 | rp {d : Nat} {cs : List AV} : VwC L (d + 1) (.rp cs) (.rp cs)
 | own {d : Nat} {x t : AV} {ty : Nat} {L' : List Ck} : 6 ≤ d → Pk L (.own x ty t) L' → VwC L d x t
 | shr {d : Nat} {x t y t' : AV} {ty ty' : Nat} {L' : List Ck} : 6 ≤ d → Pk L (.shr x ty t y ty' t') L' → VwC L d y t'
 | shsE {d k : Nat} {x t y t' : AV} {ty ty' : Nat} {ys : List (AV × Nat × AV)} {L' : List Ck} : 6 ≤ d → Pk L (.shs x ty t ys) L' → ys[k]? = some (y, ty', t') → VwC L d y t'
 | shsO {d : Nat} {x t : AV} {ty : Nat} {ys : List (AV × Nat × AV)} {L' : List Ck} : 6 ≤ d → Pk L (.shs x ty t ys) L' → VwC L d x t
end
inductive VwL (L : List Ck) : Nat → List AV → List AV → Prop
 | nil {d : Nat} : VwL L d [] []
 | cons {d : Nat} {x t : AV} {xs ts : List AV} : VwC L d x t → VwL L d xs ts → VwL L d (x :: xs) (t :: ts)
 | agg {d : Nat} {cs ds xs ts : List AV} : VwL L d cs ds → VwL L (d + 1) xs ts → VwL L (d + 1) (.agg cs :: xs) (.agg ds :: ts)
 | aggF {d : Nat} {cs xs ts : List AV} : cs.all Ix = true → VwL L (d + 2) xs ts → VwL L (d + 2) (.agg cs :: xs) (.agg cs :: ts)
 | sl {d i k w : Nat} {cs ds xs ts : List AV} {a : Bool} {L' : List Ck} : Pk L (.blk i cs a) L' → cs.length = k * w → VwL L d cs ds → VwL L (d + 1) xs ts → VwL L (d + 1) (.sl i 0 k w :: xs) (.ro k ds :: ts)
 | slA {d i o k w : Nat} {cs ds xs ts : List AV} {a : Bool} {L' : List Ck} : Pk L (.blk i cs a) L' → o + k * w ≤ cs.length → VwL L d ((cs.drop o).take (k * w)) ds → VwL L (d + 1) xs ts → VwL L (d + 1) (.sl i o k w :: xs) (.ro k ds :: ts)
 | ptr {d i : Nat} {cs ds xs ts : List AV} {a : Bool} {L' : List Ck} : Pk L (.blk i cs a) L' → VwL L d cs ds → VwL L (d + 1) xs ts → VwL L (d + 1) (.ptr i 0 :: xs) (.rp ds :: ts)
 | fn {d f : Nat} {ps cs ps' cs' xs ts : List AV} : VwL L d ps ps' → VwL L d cs cs' → VwL L (d + 1) xs ts → VwL L (d + 1) (.fn f ps cs :: xs) (.fn f ps' cs' :: ts)
section
variable {β : Type} {n : Nat} {H : Ac} {L L' L1 L2 : List Ck} {G : Option β → Prop} {K : AV → Option β} {KH : KO β}
theorem VwC.sound (hs : Sep H L) {d : Nat} {x t : AV} (h : VwC L d x t) : Ds H d x = some t := by
 cases h with
 | sc => rfl
 | nl => rfl
 | ro => rfl
 | rp => rfl
 | own hd hp =>
  obtain ⟨_, h1, I, h2, _⟩ := hs.own hp
  exact M3 d _ _ _ I (Hy 6 d _ _ _ _ h2 (Bp h1 hd))
 | shr hd hp =>
  obtain ⟨h1, I, h2⟩ := hs.seen hp
  exact M3 d _ _ _ I (Hy 6 d _ _ _ _ h2 (Bp h1 hd))
 | shsE hd hp hk =>
  obtain ⟨h1, I, h2⟩ := hs.seenS hp hk
  exact M3 d _ _ _ I (Hy 6 d _ _ _ _ h2 (Bp h1 hd))
 | shsO hd hp =>
  obtain ⟨_, h1, I, h2, _⟩ := (hs.ofShs hp).own .here
  exact M3 d _ _ _ I (Hy 6 d _ _ _ _ h2 (Bp h1 hd))
theorem Im {d : Nat} {x t : AV} {xs ts : List AV} (h : Ds H d x = some t) (hs : xs.mapM (Ds H d) = some ts) : (x :: xs).mapM (Ds H d) = some (t :: ts) := by
 simp only [List.mapM_cons, h, hs, Option.pure_def, Option.bind_eq_bind, Option.bind_some]
theorem VwL.sound (hs : Sep H L) : ∀ {d : Nat} {xs ts : List AV}, VwL L d xs ts → xs.mapM (Ds H d) = some ts
 | _, _, _, .nil => rfl
 | _, _, _, .cons h q => Im (h.sound hs) (q.sound hs)
 | _, _, _, .agg h q => Im (by rw [Na, h.sound hs]; rfl) (q.sound hs)
 | _, _, _, .aggF h q => Im (by rw [Na, Uz h]; rfl) (q.sound hs)
 | _, _, _, .sl (i := i) (k := k) (w := w) (cs := cs) hp hl h q => Im (by
   rw [Oh]
   have hb := hs.blk hp
   have e : Ba H i 0 (k * w) = some cs := by
    simp only [Ba, hb, if_true, List.drop_zero, Nat.zero_add, ← hl, Nat.le_refl, List.take_length]
   rw [e, Option.bind_some, h.sound hs]
   rfl) (q.sound hs)
 | _, _, _, .slA (i := i) (o := o) (k := k) (w := w) (cs := cs) hp hl h q => Im (by
   rw [Oh]
   have hb := hs.blk hp
   have e : Ba H i o (k * w) = some ((cs.drop o).take (k * w)) := by
    simp only [Ba, hb, if_true, hl]
   rw [e, Option.bind_some, h.sound hs]
   rfl) (q.sound hs)
 | _, _, _, .ptr (i := i) (cs := cs) hp h q => Im (by
   have hb := hs.blk hp
   show ((H[i]?).bind fun b => (Ba H i 0 (b.cells.length - 0)).bind fun cs => (cs.mapM (Ds H _)).bind fun vs => some (AV.rp vs)) = _
   rw [hb, Option.bind_some]
   have e : Ba H i 0 (cs.length - 0) = some cs := by
    simp only [Ba, hb, if_true, List.drop_zero, Nat.zero_add, Nat.sub_zero, Nat.le_refl, List.take_length]
   show (Ba H i 0 (cs.length - 0)).bind _ = _
   rw [e, Option.bind_some, h.sound hs]
   rfl) (q.sound hs)
 | _, _, _, .fn (d := d) (ps := ps) (cs := cs) h1 h2 q => Im (by
   show ((ps.mapM (Ds H d)).bind fun us => (cs.mapM (Ds H d)).bind fun ws => some (AV.fn _ us ws)) = _
   rw [h1.sound hs, Option.bind_some, h2.sound hs]
   rfl) (q.sound hs)
theorem Vg {ty : Nat} {f : FuncId} {caps args vs : List AV} {t : AV} (hs : Sep H L) (hh : F4 f = false) (hv : VwL L 8 (args ++ caps) vs) (ht : Di E0 n ty f vs = some t) (h : Gd G (KH (Bo At E0.tp H.length ty t).1 (H ++ (Bo At E0.tp H.length ty t).2))) : Gd G ((PR n β).call ty (.fn f [] caps) args H fun x H => KH x H) := Dv (Acx hh (hv.sound hs) ht) h
theorem F6 {ty : Nat} {f : FuncId} {args vs : List AV} {v : Value} (hs : Sep H L) (hh : F4 f = false) (hv : VwL L 8 args vs) (ht : Di E0 n ty f vs = some (.sc v)) (h : Gd G (KH (.sc v) H)) : Gd G ((PR n β).call ty (.fn f [] []) args H fun x H => KH x H) := by
 refine Vg hs hh (by rw [List.append_nil]; exact hv) ht ?_
 rw [G8, List.append_nil]
 exact h
theorem Ac8 {ty m : Nat} {cells : List AV} (hs : Sep H L) (hok : Gx At E0.tp 6 ty (.ro m cells)) : Aq (Bo At E0.tp H.length ty (.ro m cells)).1 = true ∧ Sep (H ++ (Bo At E0.tp H.length ty (.ro m cells)).2) (.own (Bo At E0.tp H.length ty (.ro m cells)).1 ty (.ro m cells) :: L) := by
 have hl : Aq (Bo At E0.tp H.length ty (.ro m cells)).1 = true := rfl
 refine ⟨hl, hs.new (J := List.range' H.length (Bo At E0.tp H.length ty (.ro m cells)).2.length) ⟨hl, hok, F1 6 ty _ H.length hok (Li _ _)⟩ List.nodup_range' fun i hi => ?_⟩
 rw [List.mem_range'_1] at hi
 exact hi.1
def InsL (ts : List Nat) (cs : List AV) (Φ : List AV → List Ck → Prop) : Prop := ∀ (H : Ac) (L : List Ck), Sep H L → ∃ xs Lx, xs = (Bw At E0.tp H.length ts cs).1 ∧ Sep (H ++ (Bw At E0.tp H.length ts cs).2) (Lx ++ L) ∧ Φ xs Lx
theorem Cp {ts : List Nat} : InsL ts [] fun xs Lx => xs = [] ∧ Lx = [] := fun H L hs => ⟨[], [], rfl, by simpa [Bw] using hs, rfl, rfl⟩
theorem Bz {ts : List Nat} {v : Value} {cs : List AV} {Φ : List AV → List Ck → Prop} (h : InsL ts.tail cs Φ) : InsL ts (.sc v :: cs) fun xs Lx => ∃ ys, xs = .sc v :: ys ∧ Φ ys Lx := fun H L hs => by
 obtain ⟨ys, Ly, e1, e2, e3⟩ := h H L hs
 refine ⟨.sc v :: ys, Ly, ?_, ?_, ys, rfl, e3⟩
 ·simp only [Bw, G8, List.length_nil, Nat.add_zero]
  rw [e1]
 ·simpa only [Bw, G8, List.length_nil, Nat.add_zero, List.nil_append] using e2
theorem D3 {ts : List Nat} {m ty : Nat} {cells cs : List AV} {Φ : List AV → List Ck → Prop} (hty : ts.headD 0 = ty) (hok : Gx At E0.tp 6 ty (.ro m cells)) (h : InsL ts.tail cs Φ) : InsL ts (.ro m cells :: cs) fun xs Lx => ∃ x ys Ly, Aq x = true ∧ xs = x :: ys ∧ Lx = Ly ++ [.own x ty (.ro m cells)] ∧ Φ ys Ly := fun H L hs => by
 subst hty
 obtain ⟨h1, h2⟩ := Ac8 hs hok
 obtain ⟨ys, Ly, e1, e2, e3⟩ := h _ _ h2
 refine ⟨_ :: ys, Ly ++ [.own _ (ts.headD 0) (.ro m cells)], ?_, ?_, _, ys, Ly, h1, rfl, rfl, e3⟩
 ·simp only [Bw]
  rw [e1, List.length_append]
 ·simp only [Bw]
  rw [List.length_append, List.append_assoc] at e2
  rw [List.append_assoc]
  exact e2
theorem Ek {ts cty : List Nat} {cs rest : List AV} {Φ Ψ : List AV → List Ck → Prop} (hty : ∃ i, At (ts.headD 0) = some i ∧ i.cty = cty) (h1 : InsL cty cs Ψ) (h : InsL ts.tail rest Φ) : InsL ts (.agg cs :: rest) fun xs Lx => ∃ ys zs Ly Lz, xs = .agg ys :: zs ∧ Lx = Lz ++ Ly ∧ Ψ ys Ly ∧ Φ zs Lz := fun H L hs => by
 obtain ⟨i, hi, rfl⟩ := hty
 obtain ⟨ys, Ly, a1, a2, a3⟩ := h1 H L hs
 obtain ⟨zs, Lz, b1, b2, b3⟩ := h _ _ a2
 refine ⟨.agg ys :: zs, Lz ++ Ly, ?_, ?_, ys, zs, Ly, Lz, rfl, rfl, a3, b3⟩
 ·simp only [Bw, Fq, hi, Option.getD_some]
  rw [a1, b1, List.length_append]
 ·simp only [Bw, Fq, hi, Option.getD_some]
  rw [List.length_append, List.append_assoc] at b2
  rw [List.append_assoc]
  exact b2
theorem E9 {ty : Nat} {f : FuncId} {args vs cs : List AV} {cty : List Nat} {Φ : List AV → List Ck → Prop} (hs : Sep H L) (hh : F4 f = false) (hv : VwL L 8 args vs) (ht : Di E0 n ty f vs = some (.agg cs)) (hty : ∃ i, At ty = some i ∧ i.cty = cty) (hi : InsL cty cs Φ) (h : ∀ xs Lx H', Φ xs Lx → Sep H' (Lx ++ L) → Gd G (KH (.agg xs) H')) : Gd G ((PR n β).call ty (.fn f [] []) args H fun x H => KH x H) := by
 refine Vg hs hh (by rw [List.append_nil]; exact hv) ht ?_
 obtain ⟨i, e1, rfl⟩ := hty
 obtain ⟨xs, Lx, a1, a2, a3⟩ := hi H L hs
 rw [Fq, e1, Option.getD_some, ← a1]
 exact h _ _ _ a3 a2
theorem Es {ty : Nat} {f : FuncId} {args vs cs : List AV} {tys : List Nat} {Φ : List AV → List Ck → Prop} (hs : Sep H L) (hh : F4 f = false) (hv : VwL L 8 args vs) (ht : Di E0 n ty f vs = some (.tup cs)) (hty : E0.tp ty = some tys) (hi : InsL tys cs Φ) (h : ∀ xs Lx H', Φ xs Lx → Sep H' (Lx ++ L) → Gd G (KH (.tup xs) H')) : Gd G ((PR n β).call ty (.fn f [] []) args H fun x H => KH x H) := by
 refine Vg hs hh (by rw [List.append_nil]; exact hv) ht ?_
 obtain ⟨xs, Lx, a1, a2, a3⟩ := hi H L hs
 rw [P7, hty, Option.getD_some, ← a1]
 exact h _ _ _ a3 a2
theorem Gc {ty : Nat} {f : FuncId} {caps args : List AV} (hh : E0.hm f = true) (he : E0.ext f = none) (h : Gd G (Dc E0 n β f (args ++ caps) H fun x H => KH x H)) : Gd G ((PR n β).call ty (.fn f [] caps) args H fun x H => KH x H) := by
 refine Dv ?_ h
 show Mh E0 (Dc E0 n) ty f ([] ++ args ++ caps) H _ = _
 simp only [Mh, he, hh, List.nil_append, if_true]
def Src (H : Ac) (L : List Ck) (sz : Nat) (cty : List Nat) (y : AV) (m : Nat) (cb : List AV) (L' : List Ck) : Prop :=
 ∀ I, SepI H L I → ∃ raw J R X, G2 y = some m ∧ C5 H sz y = some raw ∧ raw.all Aq = true ∧ raw.length = m * sz ∧ Cm (B6 At E0.tp H 5) (List.replicate m cty).flatten raw = some (cb, J) ∧ SepI H L' R ∧ I.Perm (J ++ (R ++ X))
def R7 : AV → Bool
 | .sc v => Mf v
 | _ => false
theorem Ach {l : List AV} (h : l.all R7 = true) : l.all Aq = true := by
 rw [List.all_eq_true] at h ⊢
 intro x hx
 have := h x hx
 cases x <;> simp_all [R7, Aq]
theorem Ua {d : Nat} : ∀ {ts : List Nat} {l : List AV}, ts.length = l.length → l.all R7 = true → Cm (B6 At E0.tp H (d + 1)) ts l = some (l, [])
 | [], [], _, _ => rfl
 | t :: ts, x :: l, h, hl => by
  rw [List.all_cons, Bool.and_eq_true] at hl
  cases x with
  | sc v =>
   rw [Cm, Gt, Option.bind_some, Ua (ts := ts) (l := l) (by simpa using h) hl.2]
   rfl
  | _ => simp [R7] at hl
 | [], _ :: _, h, _ => by simp at h
 | _ :: _, [], h, _ => by simp at h
theorem AgU {sz m : Nat} {cty : List Nat} {cells : List AV} (hc : cty.length = sz) (hl : cells.length = m * sz) (hf : cells.all R7 = true) : Src H L sz cty (.ro m cells) m cells L := fun I h => by
 refine ⟨cells, [], I, [], rfl, ?_, Ach hf, hl, Ua (by simp [hc, hl]) hf, h, by simp⟩
 show (if cells.length = m * sz then some cells else none) = _
 rw [if_pos hl]
theorem Pd {sz m i : Nat} {cty : List Nat} {raw cb : List AV} {a : Bool} (hp : Pk L (.blk i raw a) L1) (hl : raw.length = m * sz) (hf : raw.all Aq = true) (hr : OwnR L1 raw (List.replicate m cty).flatten cb L2) (hok : Eh (Gx At E0.tp 5) (List.replicate m cty).flatten cb) : Src H L sz cty (.sl i 0 m sz) m cb L2 := fun I h => by
 obtain ⟨J, R, ⟨rfl, h1⟩, h2, h3⟩ := hp.sepI h
 obtain ⟨J', R', g1, g2, g3⟩ := hr.sound h2 5 hok
 refine ⟨raw, J', R', [i], rfl, ?_, hf, hl, g1, g2, ?_⟩
 ·show (if sz = sz then Ba H i 0 (m * sz) else none) = _
  simp only [if_true, Ba, h1, Nat.zero_add, List.drop_zero, ← hl, Nat.le_refl, List.take_length]
 ·refine h3.trans (List.perm_append_comm.trans ?_)
  rw [← List.append_assoc]
  exact List.Perm.append_right [i] g3
theorem Lw {d ty m : Nat} {x : AV} {cells : List AV} {I : List Nat} {i j : TI} (h1 : At ty = some i) (h2 : At i.elem = some j) (h : B6 At E0.tp H (d + 1) ty x = some (.ro m cells, I)) :
  (x = .nl ∧ m = 0 ∧ cells = [] ∧ I = []) ∨ ∃ id off raw J b, x = .sl id off m j.size ∧ I = id :: J ∧ H[id]? = some b ∧ b.live = true ∧ b.app = true ∧ Ba H id off (m * j.size) = some raw ∧ Cm (B6 At E0.tp H d) (List.replicate m j.cty).flatten raw = some (cells, J) := by
 cases x with
 | sc v => simp [B6] at h
 | nl =>
  have := (Option.some.inj h)
  simp only [Prod.mk.injEq, AV.ro.injEq] at this
  obtain ⟨⟨rfl, rfl⟩, rfl⟩ := this
  exact .inl ⟨rfl, rfl, rfl, rfl⟩
 | sl id off n z =>
  rw [Fz] at h
  simp only [h1, h2, Option.bind_some] at h
  split at h
  case isFalse => cases h
  rename_i hz
  split at h
  case isFalse => cases h
  rename_i ha
  simp only [Option.bind_eq_some_iff] at h
  obtain ⟨cs, h4, q, h5, h6⟩ := h
  simp only [Option.some.injEq, Prod.mk.injEq, AV.ro.injEq] at h6
  obtain ⟨⟨rfl, rfl⟩, rfl⟩ := h6
  subst hz
  obtain ⟨hl, b, hb, hlv, _, _⟩ := Hj h4
  have ha' : b.app = true := by simpa only [Fx, hb] using ha
  exact .inr ⟨id, off, cs, q.2, b, rfl, rfl, hb, hlv, ha', h4, h5⟩
 | agg cs =>
  rw [D4] at h
  simp only [Option.bind_eq_some_iff] at h
  obtain ⟨i, h1, q, h2, h3⟩ := h
  simp at h3
 | tup cs =>
  rw [Ft] at h
  simp only [Option.bind_eq_some_iff] at h
  obtain ⟨i, h1, q, h2, h3⟩ := h
  simp at h3
 | _ => simp [B6] at h
theorem Qe {f : Nat → AV → Option (AV × List Nat)} : ∀ {ts : List Nat} {xs : List AV} {p : List AV × List Nat}, (∀ t x a I, f t x = some (a, I) → Ix a = true → Aq x = true) → Cm f ts xs = some p → p.1.all Ix = true → xs.all Aq = true
 | ts, [], p, _, h, _ => rfl
 | [], _ :: _, p, _, h, _ => by simp [Cm] at h
 | t :: ts, x :: xs, p, hf, h, hl => by
  obtain ⟨a, b, h1, h2, rfl⟩ := Fd h
  rw [List.all_cons, Bool.and_eq_true] at hl
  rw [List.all_cons, Bool.and_eq_true]
  exact ⟨hf t x a.1 a.2 h1 hl.1, Qe hf h2 hl.2⟩
theorem Xk {d ty : Nat} {x a : AV} {I : List Nat} (h : B6 At E0.tp H d ty x = some (a, I)) (hl : Ix a = true) : Aq x = true := by
 cases d with
 | zero => simp [B6] at h
 | succ d =>
  cases x with
  | sc v =>
   obtain ⟨rfl, _⟩ : AV.sc v = a ∧ [] = I := by simpa [B6] using h
   exact hl
  | nl => rfl
  | sl id off n z => rfl
  | agg cs =>
   rw [D4] at h
   simp only [Option.bind_eq_some_iff] at h
   obtain ⟨i, h1, q, h2, h3⟩ := h
   obtain ⟨rfl, _⟩ : AV.agg q.1 = a ∧ q.2 = I := by simpa using h3
   cases hl
  | tup cs =>
   rw [Ft] at h
   simp only [Option.bind_eq_some_iff] at h
   obtain ⟨i, h1, q, h2, h3⟩ := h
   obtain ⟨rfl, _⟩ : AV.tup q.1 = a ∧ q.2 = I := by simpa using h3
   cases hl
  | _ => simp [B6] at h
theorem AcH {sz bytes k m ty : Nat} {cty : List Nat} {x y : AV} {ca cb : List AV} (hs : Sep H L) (hty : ∃ i j, At ty = some i ∧ At i.elem = some j ∧ j.size = sz ∧ j.cty = cty) (hx : Pk L (.own x ty (.ro k ca)) L1) (hy : Src H L1 sz cty y m cb L2) (hok : Eh (Gx At E0.tp 5) (List.replicate m cty).flatten cb) (hb : (k + m) * bytes ≤ 140737488355328)
  (h : ∀ x' H', Aq x' = true → Sep H' (.own x' ty (.ro (k + m) (ca ++ cb)) :: L2) → (∃ id cx cy, x' = .sl id 0 (k + m) sz ∧ H'[id]? = some ⟨cx ++ cy, true, true⟩ ∧ C5 H sz y = some cy ∧ cx.length = k * sz) → Gd G (KH x' H')) : Gd G (Hh sz bytes x y H fun x H => KH x H) := by
 obtain ⟨i, j, e1, e2, rfl, rfl⟩ := hty
 obtain ⟨I, hI, hn⟩ := hs
 obtain ⟨J, R, ⟨hlx, hox, h1⟩, h2, h3⟩ := hx.sepI hI
 obtain ⟨raw, Jy, Ry, X, q1, q2, q3, q4, q5, q6, q7⟩ := hy R h2
 have hn' : (J ++ (Jy ++ (Ry ++ X))).Nodup := (h3.trans (List.Perm.append_left J q7)).nodup_iff.1 hn
 have hRlt : ∀ i ∈ Jy ++ Ry, i < H.length := fun z hz => by
  refine h2.lt z ?_
  refine q7.symm.mem_iff.1 ?_
  rw [← List.append_assoc]
  exact List.mem_append_left _ hz
 have hok' : Gx At E0.tp 6 ty (.ro (k + m) (ca ++ cb)) := by
  obtain ⟨i', j', g1, g2, g3, g4⟩ := hox
  rw [e1] at g1
  cases g1
  rw [e2] at g2
  cases g2
  refine ⟨i, j, e1, e2, ?_, ?_⟩
  ·have := Xb hok
   have hq := Ro q5
   rw [List.length_append, g3, hq.2, q4, Nat.add_mul]
  ·rw [← List.replicate_append_replicate, List.flatten_append]
   exact Gj g4 hok
 have fin : ∀ (H1 : Ac) (cx : List AV) (Jx : List Nat), H1.length = H.length → cx.all Aq = true ∨ True → Cm (B6 At E0.tp H1 5) (List.replicate k j.cty).flatten cx = some (ca, Jx) → Cm (B6 At E0.tp H1 5) (List.replicate m j.cty).flatten raw = some (cb, Jy) → SepI H1 L2 Ry → (Jx ++ (Jy ++ (Ry ++ X))).Nodup → (∀ i ∈ Jx, i < H1.length) → cx.length = k * j.size →
   Sep (H1 ++ [⟨cx ++ raw, true, true⟩]) (.own (.sl H1.length 0 (k + m) j.size) ty (.ro (k + m) (ca ++ cb)) :: L2) := by
  intro H1 cx Jx hl1 _ a1 a2 a3 a4 a5 a6
  have hg : (H1 ++ [(⟨cx ++ raw, true, true⟩ : Gl)])[H1.length]? = some ⟨cx ++ raw, true, true⟩ := by
   rw [List.getElem?_append_right (Nat.le_refl _), Nat.sub_self]
   rfl
  have fr : ∀ z, z < H1.length → (H1 ++ [(⟨cx ++ raw, true, true⟩ : Gl)])[z]? = H1[z]? := fun z hz => List.getElem?_append_left hz
  have b1 := Eb (f' := B6 At E0.tp (H1 ++ [⟨cx ++ raw, true, true⟩]) 5) (fun t x a h hi => Dd 5 t x a h fun z hz => fr z (a5 z (hi z hz))) a1
  have b2 := Eb (f' := B6 At E0.tp (H1 ++ [⟨cx ++ raw, true, true⟩]) 5) (fun t x a h hi => Dd 5 t x a h fun z hz => fr z (by rw [hl1]; exact hRlt z (List.mem_append_left _ (hi z hz)))) a2
  have b3 := a3.grow [⟨cx ++ raw, true, true⟩]
  have b4 := Gi b1 b2
  rw [← List.flatten_append, List.replicate_append_replicate] at b4
  refine ⟨(H1.length :: (Jx ++ Jy)) ++ Ry, ⟨H1.length :: (Jx ++ Jy), Ry, rfl, ⟨rfl, hok', ?_⟩, b3⟩, ?_⟩
  ·rw [Fz]
   have ha : Fx (H1 ++ [⟨cx ++ raw, true, true⟩]) H1.length = true := by simp only [Fx, hg]
   have hrd : Ba (H1 ++ [⟨cx ++ raw, true, true⟩]) H1.length 0 ((k + m) * j.size) = some (cx ++ raw) := by
    have : (cx ++ raw).length = (k + m) * j.size := by rw [List.length_append, a6, q4, Nat.add_mul]
    simp only [Ba, hg, if_true, Nat.zero_add, List.drop_zero, ← this, Nat.le_refl, List.take_length]
   simp only [e1, e2, Option.bind_some, if_true, ha, hrd, b4]
  ·rw [List.cons_append, List.nodup_cons]
   have hn3 : (Jx ++ Jy ++ Ry).Nodup := by
    rw [List.append_assoc]
    have : (Jx ++ (Jy ++ Ry) ++ X).Nodup := by simpa only [List.append_assoc] using a4
    exact (List.nodup_append.1 this).1
   refine ⟨fun hm => ?_, hn3⟩
   rcases List.mem_append.1 hm with hm | hm
   ·rcases List.mem_append.1 hm with hm | hm
    ·exact Nat.lt_irrefl _ (a5 _ hm)
    ·have := hRlt _ (List.mem_append_left _ hm)
     omega
   ·have := hRlt _ (List.mem_append_right _ hm)
    omega
 rcases Lw e1 e2 h1 with ⟨rfl, rfl, rfl, rfl⟩ | ⟨id, off, cx, J', b, rfl, rfl, hb1, hlv, hap, h4, h5⟩
 ·have hc : C5 H j.size .nl = some [] := rfl
  refine Dv (b := KH (.sl H.length 0 (0 + m) j.size) (H ++ [⟨[] ++ raw, true, true⟩])) ?_ (h _ _ rfl (fin H [] [] rfl (.inr trivial) (by simp [Cm]) q5 q6 (by simpa using hn') (by simp) (by simp)) ⟨_, [], raw, rfl, by rw [List.getElem?_append_right (Nat.le_refl _), Nat.sub_self]; rfl, q2, by simp⟩)
  have hl0 : G2 .nl = some 0 := rfl
  have hk0 : Mn H .nl = some H := rfl
  simp only [Hh, hl0, Option.bind_some, q1, q2, hc, hk0]
  rw [if_pos hb, if_pos q3]
  rfl
 ·have hc : C5 H j.size (.sl id off k j.size) = some cx := by
   show (if j.size = j.size then Ba H id off (k * j.size) else none) = _
   rw [if_pos rfl, h4]
  have hk : Mn H (.sl id off k j.size) = some (H.set id { b with live := false }) := by
   show (H[id]?).bind (fun b => if b.app then some (H.set id { b with live := false }) else none) = _
   rw [hb1, Option.bind_some, if_pos hap]
  have hn2 : (id :: (J' ++ (Jy ++ (Ry ++ X)))).Nodup := hn'
  have hnid := (List.nodup_cons.1 hn2).1
  have hset : ∀ z, z ≠ id → (H.set id { b with live := false })[z]? = H[z]? := fun z hz => List.getElem?_set_ne (fun e => hz e.symm)
  have c1 := Eb (f' := B6 At E0.tp (H.set id { b with live := false }) 5) (fun t x a h hi => Dd 5 t x a h fun z hz => hset z (fun e => hnid (e ▸ List.mem_append_left _ (hi z hz)))) h5
  have c2 := Eb (f' := B6 At E0.tp (H.set id { b with live := false }) 5) (fun t x a h hi => Dd 5 t x a h fun z hz => hset z (fun e => hnid (e ▸ List.mem_append_right _ (List.mem_append_left _ (hi z hz))))) q5
  have c3 := q6.frame (H' := H.set id { b with live := false }) fun z hz => hset z (fun e => hnid (e ▸ List.mem_append_right _ (List.mem_append_right _ (List.mem_append_left _ hz))))
  have hJlt : ∀ z ∈ J', z < H.length := fun z hz => Kw 6 ty _ _ h1 z (List.mem_cons_of_mem _ hz)
  refine Dv (b := KH (.sl (H.set id { b with live := false }).length 0 (k + m) j.size) (H.set id { b with live := false } ++ [⟨cx ++ raw, true, true⟩])) ?_ (h _ _ rfl (fin _ cx J' (by simp) (.inr trivial) c1 c2 c3 (List.nodup_cons.1 hn2).2 (fun z hz => by rw [List.length_set]; exact hJlt z hz) (Hj h4).1) ⟨_, cx, raw, rfl, by rw [List.getElem?_append_right (Nat.le_refl _), Nat.sub_self]; rfl, q2, (Hj h4).1⟩)
  have hl0 : G2 (.sl id off k j.size) = some k := rfl
  simp only [Hh, hl0, Option.bind_some, q1, q2, hc, hk]
  rw [if_pos hb, if_pos q3]
  rfl
theorem W9 {sz bytes k m ty : Nat} {cty : List Nat} {x y : AV} {ca cb : List AV} (hs : Sep H L) (hty : ∃ i j, At ty = some i ∧ At i.elem = some j ∧ j.size = sz ∧ j.cty = cty) (hx : Pk L (.own x ty (.ro k ca)) L1) (hy : Src H L1 sz cty y m cb L2) (hok : Eh (Gx At E0.tp 5) (List.replicate m cty).flatten cb) (hb : (k + m) * bytes ≤ 140737488355328)
  (h : ∀ x' H', Aq x' = true → Sep H' (.own x' ty (.ro (k + m) (ca ++ cb)) :: L2) → Gd G (KH x' H')) : Gd G (Hh sz bytes x y H fun x H => KH x H) := AcH hs hty hx hy hok hb fun x' H' h1 h2 _ => h x' H' h1 h2
theorem Iu {G : Option AV → Prop} {o : Option AV} (h : Gd G o) : G o := h
theorem Fw {ty : Nat} {tys : List Nat} {raw cells : List AV} (hs : Sep H L) (hts : E0.tp ty = some tys) (hr : OwnR L raw tys cells L') (hok : Eh (Gx At E0.tp 7) tys cells) : Bc At E0.tp ty H (.tup raw) = some (.tup cells) := by
 obtain ⟨I, h1, h2⟩ := hs
 obtain ⟨J, R, g1, g2, g3⟩ := hr.sound h1 7 hok
 have hn := (List.nodup_append.1 (g3.nodup_iff.1 h2)).1
 rw [Bc, Ft, hts, Option.bind_some, g1, Option.bind_some, Option.bind_some, if_pos hn]
theorem Nq {ty : Nat} {cty : List Nat} {raw cells : List AV} (hs : Sep H L) (hty : ∃ i, At ty = some i ∧ i.cty = cty) (hr : OwnR L raw cty cells L') (hok : Eh (Gx At E0.tp 7) cty cells) : Bc At E0.tp ty H (.agg raw) = some (.agg cells) := by
 obtain ⟨i, e1, rfl⟩ := hty
 obtain ⟨I, h1, h2⟩ := hs
 obtain ⟨J, R, g1, g2, g3⟩ := hr.sound h1 7 hok
 have hn := (List.nodup_append.1 (g3.nodup_iff.1 h2)).1
 rw [Bc, D4, e1, Option.bind_some, g1, Option.bind_some, Option.bind_some, if_pos hn]
theorem Dr {G : Option AV → Prop} {ty : Nat} {x t : AV} (e : Bc At E0.tp ty H x = some t) (h : G (some t)) : Gd G (Bc At E0.tp ty H x) := by
 rw [e]
 exact h
end
end
section
open Go
variable {β : Type}
theorem Hx {d ty : Nat} {cty : List Nat} {cs : List AV} (hty : ∃ i, At ty = some i ∧ i.cty = cty) (h : Eh (Gx At E0.tp d) cty cs) : Gx At E0.tp (d + 1) ty (.agg cs) := by
 obtain ⟨i, hi, rfl⟩ := hty
 exact ⟨i, hi, h⟩
theorem Ej {d ty : Nat} (h : ∃ i j, At ty = some i ∧ At i.elem = some j) : Gx At E0.tp (d + 1) ty (.ro 0 []) := by
 obtain ⟨i, j, h1, h2⟩ := h
 exact ⟨i, j, h1, h2, by simp, by simp [Eh]⟩
theorem Gd.both {G : Option β → Prop} {a b : Option β} (h1 : Gd G a) (h2 : a = b) : Gd G (Nt a b) := by
 rw [Og rfl h2.symm]
 exact h1
theorem Jf (s : ByteArray) : Gx At E0.tp 6 22 (Bj s) := Pu (d := 4) Nk s
theorem AcP (s : ByteArray) : Gx At E0.tp 5 22 (Bj s) := Pu (d := 3) Nk s
theorem S8 (l : List Int) : Gx At E0.tp 6 53 (Dn l) := M2 (d := 4) (fun z : Int => .int .i64 z) Rx l
theorem Sk (l : List Int) : Gx At E0.tp 5 53 (Dn l) := M2 (d := 3) (fun z : Int => .int .i64 z) Rx l
theorem Xt (l : List ByteArray) : Gx At E0.tp 6 32 (Mj l) := M2 (d := 4) (fun z : ByteArray => .string z) Aby l
theorem Gy (l : List Da) : Gx At E0.tp 6 79 (Al Au l) := Fk (d := 5) Eu ⟨_, _, rfl, rfl, rfl, rfl⟩ (H7 3) l
theorem Hv (l : List Da) : Gx At E0.tp 5 79 (Al Au l) := Fk (d := 4) Eu ⟨_, _, rfl, rfl, rfl, rfl⟩ (H7 2) l
theorem D5 (l : List Ao) : Gx At E0.tp 6 113 (Al Az l) := Fk (d := 5) Br ⟨_, _, rfl, rfl, rfl, rfl⟩ (K6 3) l
theorem Ff (l : List Ao) : Gx At E0.tp 5 113 (Al Az l) := Fk (d := 4) Br ⟨_, _, rfl, rfl, rfl, rfl⟩ (K6 2) l
theorem L9 (l : List Rv) : Gx At E0.tp 6 76 (Al Ez l) := Fk (d := 5) Ut ⟨_, _, rfl, rfl, rfl, rfl⟩ (Aej 4) l
theorem Ec (l : List Cs) : Gx At E0.tp 6 24 (Al A2 l) := Fk (d := 5) Fl ⟨_, _, rfl, rfl, rfl, rfl⟩ (Ra 2) l
theorem InsL.mono {ts : List Nat} {cs : List AV} {Φ Ψ : List AV → List Ck → Prop} (h : InsL ts cs Φ) (m : ∀ xs Lx, Φ xs Lx → Ψ xs Lx) : InsL ts cs Ψ := fun H L hs => by
 obtain ⟨xs, Lx, a, b, c⟩ := h H L hs
 exact ⟨xs, Lx, a, b, m _ _ c⟩
theorem AgD (p : Da) : InsL Hf (Au p) fun xs Lx => ∃ x1 : AV, Aq x1 = true ∧ xs = [.sc (.string p.fTopic), x1, .sc (.int .i64 p.fQos), .sc (.bool p.fRetain)] ∧ Lx = [.own x1 22 (Bj p.fBody)] :=
 InsL.mono (Bz (D3 (ty := 22) rfl (Jf p.fBody) (Bz (Bz Cp)))) (by
  rintro _ _ ⟨_, rfl, ⟨x1, _, _, l1, rfl, rfl, ⟨_, rfl, ⟨_, rfl, ⟨rfl, rfl⟩⟩⟩⟩⟩
  exact ⟨x1, l1, rfl, rfl⟩)
theorem P5 (p : B5) : InsL Gp (Bg p) fun xs Lx => ∃ x1 x2 : AV, Aq x1 = true ∧ Aq x2 = true ∧ xs = [.sc (.int .i64 p.fLast), x1, x2] ∧ Lx = [.own x2 79 (Al Au p.fQ), .own x1 113 (Al Az p.fFl)] :=
 InsL.mono (Bz (D3 (ty := 113) rfl (D5 p.fFl) (D3 (ty := 79) rfl (Gy p.fQ) Cp))) (by
  rintro _ _ ⟨_, rfl, ⟨x1, _, _, l1, rfl, rfl, ⟨x2, _, _, l2, rfl, rfl, ⟨rfl, rfl⟩⟩⟩⟩
  exact ⟨x1, x2, l1, l2, rfl, rfl⟩)
theorem Hr (p : B8) : InsL Abh (C7 p) fun xs Lx => ∃ x6 x13 x19 x22 x23 x24 : AV, Aq x6 = true ∧ Aq x13 = true ∧ Aq x19 = true ∧ Aq x22 = true ∧ Aq x23 = true ∧ Aq x24 = true ∧ xs = [.sc (.int .i64 p.fType), .sc (.bool p.fDup), .sc (.int .i64 p.fQos), .sc (.bool p.fRetain), .sc (.int .i64 p.fId), .sc (.string p.fTopic), x6, .sc (.string p.fClient), .sc (.int .i64 p.fLevel), .sc (.bool p.fClean), .sc (.int .i64 p.fKeep), .sc (.bool p.fHasWill), .sc (.string p.fWTopic), x13, .sc (.int .i64 p.fWQos), .sc (.bool p.fWRetain), .sc (.bool p.fHasUser), .sc (.string p.fUser), .sc (.bool p.fHasPass), x19, .sc (.int .i64 p.fCode), .sc (.bool p.fPresent), x22, x23, x24] ∧ Lx = [.own x24 53 (Dn p.fCodes), .own x23 32 (Mj p.fNames), .own x22 76 (Al Ez p.fWants), .own x19 22 (Bj p.fPass), .own x13 22 (Bj p.fWBody), .own x6 22 (Bj p.fBody)] :=
 InsL.mono (Bz (Bz (Bz (Bz (Bz (Bz (D3 (ty := 22) rfl (Jf p.fBody) (Bz (Bz (Bz (Bz (Bz (Bz (D3 (ty := 22) rfl (Jf p.fWBody) (Bz (Bz (Bz (Bz (Bz (D3 (ty := 22) rfl (Jf p.fPass) (Bz (Bz (D3 (ty := 76) rfl (L9 p.fWants) (D3 (ty := 32) rfl (Xt p.fNames) (D3 (ty := 53) rfl (S8 p.fCodes) Cp))))))))))))))))))))))))) (by
  rintro _ _ ⟨_, rfl, ⟨_, rfl, ⟨_, rfl, ⟨_, rfl, ⟨_, rfl, ⟨_, rfl, ⟨x6, _, _, l6, rfl, rfl, ⟨_, rfl, ⟨_, rfl, ⟨_, rfl, ⟨_, rfl, ⟨_, rfl, ⟨_, rfl, ⟨x13, _, _, l13, rfl, rfl, ⟨_, rfl, ⟨_, rfl, ⟨_, rfl, ⟨_, rfl, ⟨_, rfl, ⟨x19, _, _, l19, rfl, rfl, ⟨_, rfl, ⟨_, rfl, ⟨x22, _, _, l22, rfl, rfl, ⟨x23, _, _, l23, rfl, rfl, ⟨x24, _, _, l24, rfl, rfl, ⟨rfl, rfl⟩⟩⟩⟩⟩⟩⟩⟩⟩⟩⟩⟩⟩⟩⟩⟩⟩⟩⟩⟩⟩⟩⟩⟩⟩⟩
  exact ⟨x6, x13, x19, x22, x23, x24, l6, l13, l19, l22, l23, l24, rfl, rfl⟩)
theorem Kl (p : Cs) : InsL Lm (A2 p) fun xs Lx => ∃ x6 x7 x8 : AV, Aq x6 = true ∧ Aq x7 = true ∧ Aq x8 = true ∧ xs = [.sc (.string p.fClient), .sc (.int .i64 p.fBorn), .sc (.bool p.fClean), .sc (.int .i64 p.fConn), .sc (.int .i64 p.fGen), .sc (.int .i64 p.fO.fLast), x6, x7, x8] ∧ Lx = [.own x8 53 (Dn p.fIn), .own x7 79 (Al Au p.fO.fQ), .own x6 113 (Al Az p.fO.fFl)] :=
 InsL.mono (Bz (Bz (Bz (Bz (Bz (Bz (D3 (ty := 113) rfl (D5 p.fO.fFl) (D3 (ty := 79) rfl (Gy p.fO.fQ) (D3 (ty := 53) rfl (S8 p.fIn) Cp))))))))) (by
  rintro _ _ ⟨_, rfl, ⟨_, rfl, ⟨_, rfl, ⟨_, rfl, ⟨_, rfl, ⟨_, rfl, ⟨x6, _, _, l6, rfl, rfl, ⟨x7, _, _, l7, rfl, rfl, ⟨x8, _, _, l8, rfl, rfl, ⟨rfl, rfl⟩⟩⟩⟩⟩⟩⟩⟩⟩⟩
  exact ⟨x6, x7, x8, l6, l7, l8, rfl, rfl⟩)
theorem K3 {raw : List AV} {y : Ao} (hl : raw.length = 6) (hlf : raw.all Aq = true) (hs : ∀ (k : Nat) (v : Value), (Az y)[k]? = some (AV.sc v) → raw[k]? = some (AV.sc v)) : ∃ r2 : AV, Aq r2 = true ∧ raw = [.sc (.int .i64 y.fId), .sc (.string y.fM.fTopic), r2, .sc (.int .i64 y.fM.fQos), .sc (.bool y.fM.fRetain), .sc (.int .i64 y.fSt)] := by
 match raw, hl with
 | [r0, r1, r2, r3, r4, r5], _ =>
  obtain rfl : r0 = _ := Option.some.inj (hs 0 _ rfl)
  obtain rfl : r1 = _ := Option.some.inj (hs 1 _ rfl)
  obtain rfl : r3 = _ := Option.some.inj (hs 3 _ rfl)
  obtain rfl : r4 = _ := Option.some.inj (hs 4 _ rfl)
  obtain rfl : r5 = _ := Option.some.inj (hs 5 _ rfl)
  simp only [List.all_cons, Bool.and_eq_true] at hlf
  exact ⟨r2, hlf.2.2.1, rfl⟩
end
end Go.Proofs.Ytjiahcekpohehaa.Abs
