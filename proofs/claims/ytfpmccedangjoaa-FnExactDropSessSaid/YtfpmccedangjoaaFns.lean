/- The program's functions as plain functions over abstract values, part 2 (written by gen.py). -/
import Derived.Test.YtfpmccedangjoaaFnsA
set_option linter.unusedVariables false
set_option linter.unusedSimpArgs false
set_option maxRecDepth 100000
namespace Go.Proofs.Ytfpmccedangjoaa.Abs
open Go
variable {β : Type}

/-! 5 loop.example/g00480/laws.FnExactDropSess -/
noncomputable def f5 (p : Pr β) (n : Nat) (a0 a1 : AV) (H : Heap) (k : AV → Heap → Option β) : Option β :=
  p.box a0 H fun t2 H =>
  p.lenS a1 fun t14 =>
  p.bin .gtr t14 (.sc (.int .i64 1048576)) fun t15 =>
  p.cond t15
  (k (.sc (.bool true)) H)
  (p.load true 2 t2 H fun t16 =>
  p.call 3 (.fn 6 [] []) [t16, (.sc (.int .i64 1048576))] H fun t18 H =>
  p.bin .lss t18 (.sc (.int .i64 0)) fun t20 =>
  p.cond t20
  (k (.sc (.bool true)) H)
  (p.load true 2 t2 H fun t21 =>
  p.call 28 (.fn 8 [] []) [t21] H fun t22 H =>
  p.call 28 (.fn 15 [] []) [t22, a1] H fun t24 H =>
  p.new [(.sc (.int .i64 0)), .nl] H fun t6 H =>
  p.store 2 t6 t24 H fun H =>
  p.load true 2 t2 H fun t25 =>
  p.call 28 (.fn 8 [] []) [t25] H fun t26 H =>
  p.new [(.sc (.int .i64 0)), .nl] H fun t7 H =>
  p.store 2 t7 t26 H fun H =>
  p.load true 2 t7 H fun t27 =>
  p.call 28 (.fn 16 [] []) [t27, a1] H fun t29 H =>
  p.new [(.sc (.int .i64 0)), .nl] H fun t8 H =>
  p.store 2 t8 t29 H fun H =>
  p.load true 2 t8 H fun t30 =>
  p.load true 2 t6 H fun t31 =>
  p.call 4 (.fn 10 [] []) [t30, t31] H fun t32 H =>
  p.un .not t32 fun t33 =>
  p.cond t33
  (k (.sc (.bool false)) H)
  (p.load true 2 t7 H fun t34 =>
  p.load true 2 t2 H fun t35 =>
  p.call 28 (.fn 8 [] []) [t35] H fun t36 H =>
  p.call 4 (.fn 10 [] []) [t34, t36] H fun t37 H =>
  p.un .not t37 fun t38 =>
  p.cond t38
  (k (.sc (.bool false)) H)
  (p.load true 2 t7 H fun t39 =>
  p.call 3 (.fn 11 [] []) [t39, (.sc (.int .i64 1))] H fun t41 H =>
  p.bin .lss t41 (.sc (.int .i64 0)) fun t43 =>
  p.guard t43 false H (fun k' => p.load true 2 t8 H fun t' => k' t' H) fun t45 H =>
  p.guard t43 false H (fun k' => p.load true 2 t6 H fun t' => k' t' H) fun t46 H =>
  p.guard t43 false H (fun k' => p.call 4 (.fn 10 [] []) [t45, t46] H fun t' H => k' t' H) fun t47 H =>
  p.guard t43 false H (fun k' => p.un .not t47 fun t' => k' t' H) fun t48 H =>
  p.pick t43 (.sc (.bool true)) t48 fun t49 =>
  p.cond t49
  (k (.sc (.bool false)) H)
  (p.load true 2 t8 H fun t50 =>
  p.call 3 (.fn 11 [] []) [t50, (.sc (.int .i64 1))] H fun t52 H =>
  p.load true 2 t8 H fun t53 =>
  p.call 3 (.fn 12 [] []) [t53, (.sc (.int .i64 1))] H fun t55 H =>
  p.bin .lss t55 (.sc (.int .i64 0)) fun t57 =>
  p.cond t57
  (k (.sc (.bool false)) H)
  (p.bin .neq t55 t52 fun t60 =>
  p.cond t60
  (k (.sc (.bool false)) H)
  (p.load true 2 t2 H fun t61 =>
  p.call 28 (.fn 8 [] []) [t61] H fun t62 H =>
  p.call 28 (.fn 16 [] []) [t62, a1] H fun t64 H =>
  p.new [(.sc (.int .i64 0)), .nl] H fun t12 H =>
  p.store 2 t12 t64 H fun H =>
  p.load true 2 t12 H fun t65 =>
  p.load true 2 t6 H fun t66 =>
  p.call 4 (.fn 10 [] []) [t65, t66] H fun t67 H =>
  p.un .not t67 fun t68 =>
  p.cond t68
  (k (.sc (.bool false)) H)
  (p.load true 2 t8 H fun t69 =>
  p.call 3 (.fn 12 [] []) [t69, (.sc (.int .i64 1))] H fun t71 H =>
  p.bin .lss t71 (.sc (.int .i64 0)) fun t73 =>
  p.cond t73
  (k (.sc (.bool false)) H)
  (p.bin .neq t71 t52 fun t76 =>
  p.cond t76
  (k (.sc (.bool false)) H)
  (k (.sc (.bool true)) H))))))))))
theorem f5_body (p : Pr β) (n : Nat) (a0 a1 : AV) (H : Heap) (k : AV → Heap → Option β) : evalBody ti0 p n ⟨c5, 77, Go.Proofs.Try.f5.results.toList, o5⟩ [a0, a1] H k = f5 p n a0 a1 H k := by kernel_rfl

/-! 18 loop.example/g00480/spec.l16Copy -/
noncomputable def f18_l0 (p : Pr β) (n : Nat)  (k : AV → Heap → Option β) : Nat → AV → AV → AV → AV → Heap → Option β
  | 0, _, _, _, _, _ => none
  | m + 1, t1, t2, t3, t4, H => p.fadr 1 t1 fun t9 =>
      p.load false 1 t9 H fun t10 =>
      p.len t10 fun t11 =>
      p.bin .lss t4 t11 fun t12 =>
      p.cond t12
      (p.fadr 1 t3 fun t15 =>
      p.load false 1 t15 H fun t16 =>
      p.fadr 1 t1 fun t17 =>
      p.load false 1 t17 H fun t18 =>
      p.iadr 9 t18 t4 fun t20 =>
      p.load true 9 t20 H fun t21 =>
      p.call 49 (.fn 26 [] []) [t21] H fun t22 H =>
      p.fill [(.sc (.string ⟨#[]⟩)), (.sc (.int .i64 0)), (.sc (.bool false)), (.sc (.int .i64 0)), (.sc (.int .i64 0)), (.sc (.int .i64 0)), .nl, .nl, .nl] [(0, 9, t22)] fun ct23 => p.newSl 1 9 ct23 true H fun t23 H =>
      p.app 9 128 t16 t23 H fun t24 H =>
      p.fadr 1 t3 fun t25 =>
      p.store 1 t25 t24 H fun H =>
      p.bin .add t4 (.sc (.int .i64 1)) fun t14 =>
      f18_l0 p n  k m t1 t2 t3 t14 H)
      (p.load true 2 t3 H fun t26 =>
      p.store 2 t2 t26 H fun H =>
      p.load true 2 t2 H fun r0 =>
      k r0 H)
noncomputable def f18 (p : Pr β) (n : Nat) (a0 : AV) (H : Heap) (k : AV → Heap → Option β) : Option β :=
  p.box a0 H fun t1 H =>
  p.new [(.sc (.int .i64 0)), .nl] H fun t2 H =>
  p.fadr 0 t1 fun t5 =>
  p.load false 1 t5 H fun t6 =>
  p.fill [(.sc (.int .i64 0)), .nl] [(0, 1, t6)] fun ct7 =>
  p.new [(.sc (.int .i64 0)), .nl] H fun t3 H =>
  p.store 2 t3 (.agg ct7) H fun H =>
  f18_l0 p n  k n t1 t2 t3 (.sc (.int .i64 0)) H
noncomputable def f18_L0 (p : Pr β) (n : Nat)  (k : AV → Heap → Option β) (m : Nat) (tm : Tm) (H : Heap) : Option β :=
  iterC 27 (fun tm H k => evalCode ti0 p o18 27 n (cd c18 [1, 1, 0, 1, 0, 0]) tm H k) (blkK 0 (seqK (fun tm H => evalCode ti0 p o18 27 n (cd c18 [1, 1, 1]) tm H (endK ti0 p Go.Proofs.Try.f18.results.toList k)) (endK ti0 p Go.Proofs.Try.f18.results.toList k))) m tm H
theorem f18_L0_step (p : Pr β) (n : Nat)  (k : AV → Heap → Option β) (m0 : Nat) (t0 t1 t2 t3 t4 t5 t6 t7 t8 t9 t10 t11 t12 t13 t14 t15 t16 t17 t18 t19 t20 t21 t22 t23 t24 t25 t26 : AV) (H : Heap) : f18_L0 p n  k (m0 + 1) [(0, t0), (1, t1), (2, t2), (3, t3), (4, t4), (5, t5), (6, t6), (7, t7), (8, t8), (9, t9), (10, t10), (11, t11), (12, t12), (13, t13), (14, t14), (15, t15), (16, t16), (17, t17), (18, t18), (19, t19), (20, t20), (21, t21), (22, t22), (23, t23), (24, t24), (25, t25), (26, t26)] H =
  p.fadr 1 t1 fun t9 =>
  p.load false 1 t9 H fun t10 =>
  p.len t10 fun t11 =>
  p.bin .lss t4 t11 fun t12 =>
  p.cond t12
  (p.fadr 1 t3 fun t15 =>
  p.load false 1 t15 H fun t16 =>
  p.fadr 1 t1 fun t17 =>
  p.load false 1 t17 H fun t18 =>
  p.iadr 9 t18 t4 fun t20 =>
  p.load true 9 t20 H fun t21 =>
  p.call 49 (.fn 26 [] []) [t21] H fun t22 H =>
  p.fill [(.sc (.string ⟨#[]⟩)), (.sc (.int .i64 0)), (.sc (.bool false)), (.sc (.int .i64 0)), (.sc (.int .i64 0)), (.sc (.int .i64 0)), .nl, .nl, .nl] [(0, 9, t22)] fun ct23 => p.newSl 1 9 ct23 true H fun t23 H =>
  p.app 9 128 t16 t23 H fun t24 H =>
  p.fadr 1 t3 fun t25 =>
  p.store 1 t25 t24 H fun H =>
  p.bin .add t4 (.sc (.int .i64 1)) fun t14 =>
  f18_L0 p n  k m0 [(0, t0), (1, t1), (2, t2), (3, t3), (4, t14), (5, t5), (6, t6), (7, t7), (8, t4), (9, t9), (10, t10), (11, t11), (12, t12), (13, t4), (14, t14), (15, t15), (16, t16), (17, t17), (18, t18), (19, t4), (20, t20), (21, t21), (22, t22), (23, t23), (24, t24), (25, t25), (26, t26)] H)
  (p.load true 2 t3 H fun t26 =>
  p.store 2 t2 t26 H fun H =>
  p.load true 2 t2 H fun r0 =>
  k r0 H) := by kernel_rfl
theorem f18_l0_eq (p : Pr β) (n : Nat)  (k : AV → Heap → Option β)   (m0 : Nat) : ∀ (t0 t1 t2 t3 t4 t5 t6 t7 t8 t9 t10 t11 t12 t13 t14 t15 t16 t17 t18 t19 t20 t21 t22 t23 t24 t25 t26 : AV) (H : Heap), f18_L0 p n  k m0 [(0, t0), (1, t1), (2, t2), (3, t3), (4, t4), (5, t5), (6, t6), (7, t7), (8, t8), (9, t9), (10, t10), (11, t11), (12, t12), (13, t13), (14, t14), (15, t15), (16, t16), (17, t17), (18, t18), (19, t19), (20, t20), (21, t21), (22, t22), (23, t23), (24, t24), (25, t25), (26, t26)] H = f18_l0 p n  k m0 t1 t2 t3 t4 H := by
  induction m0 with
  | zero => intros; rfl
  | succ m0 ih =>
    intro t0 t1 t2 t3 t4 t5 t6 t7 t8 t9 t10 t11 t12 t13 t14 t15 t16 t17 t18 t19 t20 t21 t22 t23 t24 t25 t26 H
    rw [f18_L0_step]
    simp only [ih]
    rfl
theorem f18_raw (p : Pr β) (n : Nat) (a0 : AV) (H : Heap) (k : AV → Heap → Option β) : evalBody ti0 p n ⟨c18, 27, Go.Proofs.Try.f18.results.toList, o18⟩ [a0] H k =
  p.box a0 H fun t1 H =>
  p.new [(.sc (.int .i64 0)), .nl] H fun t2 H =>
  p.fadr 0 t1 fun t5 =>
  p.load false 1 t5 H fun t6 =>
  p.fill [(.sc (.int .i64 0)), .nl] [(0, 1, t6)] fun ct7 =>
  p.new [(.sc (.int .i64 0)), .nl] H fun t3 H =>
  p.store 2 t3 (.agg ct7) H fun H =>
  f18_L0 p n  k n [(0, a0), (1, t1), (2, t2), (3, t3), (4, (.sc (.int .i64 0))), (5, t5), (6, t6), (7, (.agg ct7)), (8, (.sc undef)), (9, (.sc undef)), (10, (.sc undef)), (11, (.sc undef)), (12, (.sc undef)), (13, (.sc undef)), (14, (.sc undef)), (15, (.sc undef)), (16, (.sc undef)), (17, (.sc undef)), (18, (.sc undef)), (19, (.sc undef)), (20, (.sc undef)), (21, (.sc undef)), (22, (.sc undef)), (23, (.sc undef)), (24, (.sc undef)), (25, (.sc undef)), (26, (.sc undef))] H := by kernel_rfl
theorem f18_body (p : Pr β) (n : Nat) (a0 : AV) (H : Heap) (k : AV → Heap → Option β) : evalBody ti0 p n ⟨c18, 27, Go.Proofs.Try.f18.results.toList, o18⟩ [a0] H k = f18 p n a0 H k := by
  rw [f18_raw]
  simp only [f18_l0_eq]
  rfl

/-! 19 loop.example/g00480/spec.l1In -/
noncomputable def f19 (p : Pr β) (n : Nat) (a0 a1 a2 : AV) (H : Heap) (k : AV → Heap → Option β) : Option β :=
  p.bin .geq a0 a1 fun t9 =>
  p.guard t9 true H (fun k' => k' a0 H) fun t11 H =>
  p.guard t9 true H (fun k' => k' a2 H) fun t12 H =>
  p.guard t9 true H (fun k' => p.bin .leq t11 t12 fun t' => k' t' H) fun t13 H =>
  p.pick t9 t13 (.sc (.bool false)) fun t14 =>
  k t14 H
theorem f19_body (p : Pr β) (n : Nat) (a0 a1 a2 : AV) (H : Heap) (k : AV → Heap → Option β) : evalBody ti0 p n ⟨c19, 15, Go.Proofs.Try.f19.results.toList, o19⟩ [a0, a1, a2] H k = f19 p n a0 a1 a2 H k := by kernel_rfl

/-! 7 loop.example/g00480/spec.Lock -/
noncomputable def f7 (p : Pr β) (n : Nat) (a0 a1 : AV) (H : Heap) (k : AV → Heap → Option β) : Option β :=
  p.box a0 H fun t2 H =>
  p.new [(.sc (.int .i64 0)), .nl] H fun t4 H =>
  p.load true 2 t2 H fun t7 =>
  p.call 28 (.fn 18 [] []) [t7] H fun t8 H =>
  p.new [(.sc (.int .i64 0)), .nl] H fun t6 H =>
  p.store 2 t6 t8 H fun H =>
  p.fadr 0 t2 fun t9 =>
  p.load false 1 t9 H fun t10 =>
  p.bin .neq t10 (.sc (.int .i64 (-1))) fun t11 =>
  p.guard t11 false H (fun k' => k' a1 H) fun t13 H =>
  p.guard t11 false H (fun k' => p.call 4 (.fn 19 [] []) [t13, (.sc (.int .i64 0)), (.sc (.int .i64 7))] H fun t' H => k' t' H) fun t14 H =>
  p.guard t11 false H (fun k' => p.un .not t14 fun t' => k' t' H) fun t15 H =>
  p.pick t11 (.sc (.bool true)) t15 fun t16 =>
  p.cond t16
  (p.load true 2 t6 H fun t17 =>
  p.store 2 t4 t17 H fun H =>
  p.load true 2 t4 H fun r0 =>
  k (packA [r0, (.sc (.bool false))]) H)
  (p.fadr 0 t6 fun t19 =>
  p.store 1 t19 a1 H fun H =>
  p.load true 2 t6 H fun t20 =>
  p.store 2 t4 t20 H fun H =>
  p.load true 2 t4 H fun r0 =>
  k (packA [r0, (.sc (.bool true))]) H)
theorem f7_body (p : Pr β) (n : Nat) (a0 a1 : AV) (H : Heap) (k : AV → Heap → Option β) : evalBody ti0 p n ⟨c7, 21, Go.Proofs.Try.f7.results.toList, o7⟩ [a0, a1] H k = f7 p n a0 a1 H k := by kernel_rfl

/-! 22 loop.example/g00480/impl.within -/
noncomputable def f22 (p : Pr β) (n : Nat) (a0 a1 a2 : AV) (H : Heap) (k : AV → Heap → Option β) : Option β :=
  p.bin .geq a0 a1 fun t9 =>
  p.guard t9 true H (fun k' => k' a0 H) fun t11 H =>
  p.guard t9 true H (fun k' => k' a2 H) fun t12 H =>
  p.guard t9 true H (fun k' => p.bin .leq t11 t12 fun t' => k' t' H) fun t13 H =>
  p.pick t9 t13 (.sc (.bool false)) fun t14 =>
  k t14 H
theorem f22_body (p : Pr β) (n : Nat) (a0 a1 a2 : AV) (H : Heap) (k : AV → Heap → Option β) : evalBody ti0 p n ⟨c22, 15, Go.Proofs.Try.f22.results.toList, o22⟩ [a0, a1, a2] H k = f22 p n a0 a1 a2 H k := by kernel_rfl

/-! 9 loop.example/g00480/impl.Lock -/
noncomputable def f9 (p : Pr β) (n : Nat) (a0 a1 : AV) (H : Heap) (k : AV → Heap → Option β) : Option β :=
  p.box a0 H fun t2 H =>
  p.new [(.sc (.int .i64 0)), .nl] H fun t4 H =>
  p.load true 2 t2 H fun t7 =>
  p.call 28 (.fn 21 [] []) [t7] H fun t8 H =>
  p.new [(.sc (.int .i64 0)), .nl] H fun t6 H =>
  p.store 2 t6 t8 H fun H =>
  p.call 4 (.fn 22 [] []) [a1, (.sc (.int .i64 0)), (.sc (.int .i64 7))] H fun t10 H =>
  p.un .not t10 fun t11 =>
  p.guard t11 false H (fun k' => p.fadr 0 t2 fun t' => k' t' H) fun t13 H =>
  p.guard t11 false H (fun k' => p.load false 1 t13 H fun t' => k' t' H) fun t14 H =>
  p.guard t11 false H (fun k' => p.bin .neq t14 (.sc (.int .i64 (-1))) fun t' => k' t' H) fun t15 H =>
  p.pick t11 (.sc (.bool true)) t15 fun t16 =>
  p.cond t16
  (p.load true 2 t6 H fun t17 =>
  p.store 2 t4 t17 H fun H =>
  p.load true 2 t4 H fun r0 =>
  k (packA [r0, (.sc (.bool false))]) H)
  (p.fadr 0 t6 fun t19 =>
  p.store 1 t19 a1 H fun H =>
  p.load true 2 t6 H fun t20 =>
  p.store 2 t4 t20 H fun H =>
  p.load true 2 t4 H fun r0 =>
  k (packA [r0, (.sc (.bool true))]) H)
theorem f9_body (p : Pr β) (n : Nat) (a0 a1 : AV) (H : Heap) (k : AV → Heap → Option β) : evalBody ti0 p n ⟨c9, 21, Go.Proofs.Try.f9.results.toList, o9⟩ [a0, a1] H k = f9 p n a0 a1 H k := by kernel_rfl

/-! 3 loop.example/g00480/laws.FnExactLock -/
noncomputable def f3 (p : Pr β) (n : Nat) (a0 a1 : AV) (H : Heap) (k : AV → Heap → Option β) : Option β :=
  p.box a0 H fun t2 H =>
  p.load true 2 t2 H fun t16 =>
  p.call 3 (.fn 6 [] []) [t16, (.sc (.int .i64 1048576))] H fun t18 H =>
  p.bin .lss t18 (.sc (.int .i64 0)) fun t20 =>
  p.cond t20
  (k (.sc (.bool true)) H)
  (p.load true 2 t2 H fun t22 =>
  p.call 28 (.fn 8 [] []) [t22] H fun t23 H =>
  p.call 29 (.fn 7 [] []) [t23, a1] H fun t25 H =>
  p.extr t25 0 fun t26 =>
  p.extr t25 1 fun t27 =>
  p.new [(.sc (.int .i64 0)), .nl] H fun t6 H =>
  p.store 2 t6 t26 H fun H =>
  p.load true 2 t2 H fun t28 =>
  p.call 28 (.fn 8 [] []) [t28] H fun t29 H =>
  p.new [(.sc (.int .i64 0)), .nl] H fun t8 H =>
  p.store 2 t8 t29 H fun H =>
  p.load true 2 t8 H fun t31 =>
  p.call 29 (.fn 9 [] []) [t31, a1] H fun t33 H =>
  p.extr t33 0 fun t34 =>
  p.extr t33 1 fun t35 =>
  p.new [(.sc (.int .i64 0)), .nl] H fun t9 H =>
  p.store 2 t9 t34 H fun H =>
  p.load true 2 t9 H fun t36 =>
  p.load true 2 t6 H fun t37 =>
  p.call 4 (.fn 10 [] []) [t36, t37] H fun t38 H =>
  p.un .not t38 fun t39 =>
  p.guard t39 false H (fun k' => k' t35 H) fun t41 H =>
  p.guard t39 false H (fun k' => k' t27 H) fun t42 H =>
  p.guard t39 false H (fun k' => p.binB .neq t41 t42 fun t' => k' t' H) fun t43 H =>
  p.pick t39 (.sc (.bool true)) t43 fun t44 =>
  p.cond t44
  (k (.sc (.bool false)) H)
  (p.load true 2 t8 H fun t45 =>
  p.load true 2 t2 H fun t46 =>
  p.call 28 (.fn 8 [] []) [t46] H fun t47 H =>
  p.call 4 (.fn 10 [] []) [t45, t47] H fun t48 H =>
  p.un .not t48 fun t49 =>
  p.cond t49
  (k (.sc (.bool false)) H)
  (p.load true 2 t8 H fun t50 =>
  p.call 3 (.fn 11 [] []) [t50, (.sc (.int .i64 1))] H fun t52 H =>
  p.bin .lss t52 (.sc (.int .i64 0)) fun t54 =>
  p.guard t54 false H (fun k' => p.load true 2 t9 H fun t' => k' t' H) fun t56 H =>
  p.guard t54 false H (fun k' => p.load true 2 t6 H fun t' => k' t' H) fun t57 H =>
  p.guard t54 false H (fun k' => p.call 4 (.fn 10 [] []) [t56, t57] H fun t' H => k' t' H) fun t58 H =>
  p.guard t54 false H (fun k' => p.un .not t58 fun t' => k' t' H) fun t59 H =>
  p.pick t54 (.sc (.bool true)) t59 fun t60 =>
  p.guard t60 false H (fun k' => k' t35 H) fun t62 H =>
  p.guard t60 false H (fun k' => k' t27 H) fun t63 H =>
  p.guard t60 false H (fun k' => p.binB .neq t62 t63 fun t' => k' t' H) fun t64 H =>
  p.pick t60 (.sc (.bool true)) t64 fun t65 =>
  p.cond t65
  (k (.sc (.bool false)) H)
  (p.load true 2 t9 H fun t66 =>
  p.call 3 (.fn 11 [] []) [t66, (.sc (.int .i64 1))] H fun t68 H =>
  p.load true 2 t9 H fun t69 =>
  p.call 3 (.fn 12 [] []) [t69, (.sc (.int .i64 1))] H fun t71 H =>
  p.bin .lss t71 (.sc (.int .i64 0)) fun t73 =>
  p.cond t73
  (k (.sc (.bool false)) H)
  (p.bin .neq t71 t68 fun t76 =>
  p.cond t76
  (k (.sc (.bool false)) H)
  (p.load true 2 t2 H fun t78 =>
  p.call 28 (.fn 8 [] []) [t78] H fun t79 H =>
  p.call 29 (.fn 9 [] []) [t79, a1] H fun t81 H =>
  p.extr t81 0 fun t82 =>
  p.extr t81 1 fun t83 =>
  p.new [(.sc (.int .i64 0)), .nl] H fun t14 H =>
  p.store 2 t14 t82 H fun H =>
  p.load true 2 t14 H fun t84 =>
  p.load true 2 t6 H fun t85 =>
  p.call 4 (.fn 10 [] []) [t84, t85] H fun t86 H =>
  p.un .not t86 fun t87 =>
  p.guard t87 false H (fun k' => k' t83 H) fun t89 H =>
  p.guard t87 false H (fun k' => k' t27 H) fun t90 H =>
  p.guard t87 false H (fun k' => p.binB .neq t89 t90 fun t' => k' t' H) fun t91 H =>
  p.pick t87 (.sc (.bool true)) t91 fun t92 =>
  p.cond t92
  (k (.sc (.bool false)) H)
  (p.load true 2 t9 H fun t93 =>
  p.call 3 (.fn 12 [] []) [t93, (.sc (.int .i64 1))] H fun t95 H =>
  p.bin .lss t95 (.sc (.int .i64 0)) fun t97 =>
  p.cond t97
  (k (.sc (.bool false)) H)
  (p.bin .neq t95 t68 fun t100 =>
  p.cond t100
  (k (.sc (.bool false)) H)
  (k (.sc (.bool true)) H)))))))))
theorem f3_body (p : Pr β) (n : Nat) (a0 a1 : AV) (H : Heap) (k : AV → Heap → Option β) : evalBody ti0 p n ⟨c3, 101, Go.Proofs.Try.f3.results.toList, o3⟩ [a0, a1] H k = f3 p n a0 a1 H k := by kernel_rfl

noncomputable def fss : List (Option FnI) := [none, none, none, some ⟨c3, 101, Go.Proofs.Try.f3.results.toList, o3⟩, none, some ⟨c5, 77, Go.Proofs.Try.f5.results.toList, o5⟩, some ⟨c6, 12, Go.Proofs.Try.f6.results.toList, o6⟩, some ⟨c7, 21, Go.Proofs.Try.f7.results.toList, o7⟩, some ⟨c8, 12, Go.Proofs.Try.f8.results.toList, o8⟩, some ⟨c9, 21, Go.Proofs.Try.f9.results.toList, o9⟩, some ⟨c10, 16, Go.Proofs.Try.f10.results.toList, o10⟩, some ⟨c11, 10, Go.Proofs.Try.f11.results.toList, o11⟩, some ⟨c12, 12, Go.Proofs.Try.f12.results.toList, o12⟩, none, none, some ⟨c15, 37, Go.Proofs.Try.f15.results.toList, o15⟩, some ⟨c16, 14, Go.Proofs.Try.f16.results.toList, o16⟩, some ⟨c17, 27, Go.Proofs.Try.f17.results.toList, o17⟩, some ⟨c18, 27, Go.Proofs.Try.f18.results.toList, o18⟩, some ⟨c19, 15, Go.Proofs.Try.f19.results.toList, o19⟩, some ⟨c20, 23, Go.Proofs.Try.f20.results.toList, o20⟩, some ⟨c21, 25, Go.Proofs.Try.f21.results.toList, o21⟩, some ⟨c22, 15, Go.Proofs.Try.f22.results.toList, o22⟩, some ⟨c23, 27, Go.Proofs.Try.f23.results.toList, o23⟩, some ⟨c24, 82, Go.Proofs.Try.f24.results.toList, o24⟩, some ⟨c25, 100, Go.Proofs.Try.f25.results.toList, o25⟩, some ⟨c26, 15, Go.Proofs.Try.f26.results.toList, o26⟩, some ⟨c27, 42, Go.Proofs.Try.f27.results.toList, o27⟩, some ⟨c28, 8, Go.Proofs.Try.f28.results.toList, o28⟩, some ⟨c29, 25, Go.Proofs.Try.f29.results.toList, o29⟩, some ⟨c30, 28, Go.Proofs.Try.f30.results.toList, o30⟩, some ⟨c31, 12, Go.Proofs.Try.f31.results.toList, o31⟩, some ⟨c32, 42, Go.Proofs.Try.f32.results.toList, o32⟩, some ⟨c33, 20, Go.Proofs.Try.f33.results.toList, o33⟩, some ⟨c34, 62, Go.Proofs.Try.f34.results.toList, o34⟩, some ⟨c35, 44, Go.Proofs.Try.f35.results.toList, o35⟩, some ⟨c36, 19, Go.Proofs.Try.f36.results.toList, o36⟩, some ⟨c37, 74, Go.Proofs.Try.f37.results.toList, o37⟩, some ⟨c38, 52, Go.Proofs.Try.f38.results.toList, o38⟩, some ⟨c39, 21, Go.Proofs.Try.f39.results.toList, o39⟩, some ⟨c40, 44, Go.Proofs.Try.f40.results.toList, o40⟩, some ⟨c41, 19, Go.Proofs.Try.f41.results.toList, o41⟩, some ⟨c42, 18, Go.Proofs.Try.f42.results.toList, o42⟩, some ⟨c43, 12, Go.Proofs.Try.f43.results.toList, o43⟩, some ⟨c44, 16, Go.Proofs.Try.f44.results.toList, o44⟩, some ⟨c45, 22, Go.Proofs.Try.f45.results.toList, o45⟩, some ⟨c46, 34, Go.Proofs.Try.f46.results.toList, o46⟩, some ⟨c47, 6, Go.Proofs.Try.f47.results.toList, o47⟩, some ⟨c48, 22, Go.Proofs.Try.f48.results.toList, o48⟩, some ⟨c49, 26, Go.Proofs.Try.f49.results.toList, o49⟩, some ⟨c50, 20, Go.Proofs.Try.f50.results.toList, o50⟩, some ⟨c51, 22, Go.Proofs.Try.f51.results.toList, o51⟩, some ⟨c52, 21, Go.Proofs.Try.f52.results.toList, o52⟩, some ⟨c53, 14, Go.Proofs.Try.f53.results.toList, o53⟩, some ⟨c54, 27, Go.Proofs.Try.f54.results.toList, o54⟩, some ⟨c55, 27, Go.Proofs.Try.f55.results.toList, o55⟩, some ⟨c56, 23, Go.Proofs.Try.f56.results.toList, o56⟩, some ⟨c57, 23, Go.Proofs.Try.f57.results.toList, o57⟩, some ⟨c58, 20, Go.Proofs.Try.f58.results.toList, o58⟩, some ⟨c59, 9, Go.Proofs.Try.f59.results.toList, o59⟩, some ⟨c60, 27, Go.Proofs.Try.f60.results.toList, o60⟩, some ⟨c61, 27, Go.Proofs.Try.f61.results.toList, o61⟩, some ⟨c62, 12, Go.Proofs.Try.f62.results.toList, o62⟩, some ⟨c63, 19, Go.Proofs.Try.f63.results.toList, o63⟩, some ⟨c64, 15, Go.Proofs.Try.f64.results.toList, o64⟩, some ⟨c65, 18, Go.Proofs.Try.f65.results.toList, o65⟩, some ⟨c66, 18, Go.Proofs.Try.f66.results.toList, o66⟩, some ⟨c67, 21, Go.Proofs.Try.f67.results.toList, o67⟩, some ⟨c68, 26, Go.Proofs.Try.f68.results.toList, o68⟩, some ⟨c69, 12, Go.Proofs.Try.f69.results.toList, o69⟩, some ⟨c70, 22, Go.Proofs.Try.f70.results.toList, o70⟩, some ⟨c71, 26, Go.Proofs.Try.f71.results.toList, o71⟩]
noncomputable def tps : List (Nat × List Nat) := [(29, [28, 4])]
noncomputable def E0 : Env := { ti := ti0, tp := fun t => ordOf tps t, fs := fun f => (fss[f]?).getD none, ext := fun _ => none, hm := fun f => [11, 24, 27, 34, 35, 36, 50, 80, 81, 82, 83, 84].contains f }
noncomputable def PR (n : Nat) (β : Type) : Pr β := prims E0 (evalFn E0 n) β
theorem f69_eq (n : Nat) (a0 a1 : AV) (H : Heap) (k : AV → Heap → Option β) : evalFn E0 (n + 1) β 69 [a0, a1] H k = f69 (PR n β) n a0 a1 H k := f69_body (PR n β) n a0 a1 H k
theorem f63_eq (n : Nat) (a0 a1 : AV) (H : Heap) (k : AV → Heap → Option β) : evalFn E0 (n + 1) β 63 [a0, a1] H k = f63 (PR n β) n a0 a1 H k := f63_body (PR n β) n a0 a1 H k
theorem f62_eq (n : Nat) (a0 a1 : AV) (H : Heap) (k : AV → Heap → Option β) : evalFn E0 (n + 1) β 62 [a0, a1] H k = f62 (PR n β) n a0 a1 H k := f62_body (PR n β) n a0 a1 H k
theorem f54_eq (n : Nat) (a0 a1 : AV) (H : Heap) (k : AV → Heap → Option β) : evalFn E0 (n + 1) β 54 [a0, a1] H k = f54 (PR n β) n a0 a1 H k := f54_body (PR n β) n a0 a1 H k
theorem f55_eq (n : Nat) (a0 a1 : AV) (H : Heap) (k : AV → Heap → Option β) : evalFn E0 (n + 1) β 55 [a0, a1] H k = f55 (PR n β) n a0 a1 H k := f55_body (PR n β) n a0 a1 H k
theorem f42_eq (n : Nat) (a0 a1 : AV) (H : Heap) (k : AV → Heap → Option β) : evalFn E0 (n + 1) β 42 [a0, a1] H k = f42 (PR n β) n a0 a1 H k := f42_body (PR n β) n a0 a1 H k
theorem f43_eq (n : Nat) (a0 a1 : AV) (H : Heap) (k : AV → Heap → Option β) : evalFn E0 (n + 1) β 43 [a0, a1] H k = f43 (PR n β) n a0 a1 H k := f43_body (PR n β) n a0 a1 H k
theorem f29_eq (n : Nat) (a0 a1 : AV) (H : Heap) (k : AV → Heap → Option β) : evalFn E0 (n + 1) β 29 [a0, a1] H k = f29 (PR n β) n a0 a1 H k := f29_body (PR n β) n a0 a1 H k
theorem f17_eq (n : Nat) (a0 a1 : AV) (H : Heap) (k : AV → Heap → Option β) : evalFn E0 (n + 1) β 17 [a0, a1] H k = f17 (PR n β) n a0 a1 H k := f17_body (PR n β) n a0 a1 H k
theorem f6_eq (n : Nat) (a0 a1 : AV) (H : Heap) (k : AV → Heap → Option β) : evalFn E0 (n + 1) β 6 [a0, a1] H k = f6 (PR n β) n a0 a1 H k := f6_body (PR n β) n a0 a1 H k
theorem f70_eq (n : Nat) (a0 : AV) (H : Heap) (k : AV → Heap → Option β) : evalFn E0 (n + 1) β 70 [a0] H k = f70 (PR n β) n a0 H k := f70_body (PR n β) n a0 H k
theorem f65_eq (n : Nat) (a0 : AV) (H : Heap) (k : AV → Heap → Option β) : evalFn E0 (n + 1) β 65 [a0] H k = f65 (PR n β) n a0 H k := f65_body (PR n β) n a0 H k
theorem f64_eq (n : Nat) (a0 : AV) (H : Heap) (k : AV → Heap → Option β) : evalFn E0 (n + 1) β 64 [a0] H k = f64 (PR n β) n a0 H k := f64_body (PR n β) n a0 H k
theorem f56_eq (n : Nat) (a0 : AV) (H : Heap) (k : AV → Heap → Option β) : evalFn E0 (n + 1) β 56 [a0] H k = f56 (PR n β) n a0 H k := f56_body (PR n β) n a0 H k
theorem f57_eq (n : Nat) (a0 : AV) (H : Heap) (k : AV → Heap → Option β) : evalFn E0 (n + 1) β 57 [a0] H k = f57 (PR n β) n a0 H k := f57_body (PR n β) n a0 H k
theorem f44_eq (n : Nat) (a0 : AV) (H : Heap) (k : AV → Heap → Option β) : evalFn E0 (n + 1) β 44 [a0] H k = f44 (PR n β) n a0 H k := f44_body (PR n β) n a0 H k
theorem f45_eq (n : Nat) (a0 : AV) (H : Heap) (k : AV → Heap → Option β) : evalFn E0 (n + 1) β 45 [a0] H k = f45 (PR n β) n a0 H k := f45_body (PR n β) n a0 H k
theorem f30_eq (n : Nat) (a0 : AV) (H : Heap) (k : AV → Heap → Option β) : evalFn E0 (n + 1) β 30 [a0] H k = f30 (PR n β) n a0 H k := f30_body (PR n β) n a0 H k
theorem f20_eq (n : Nat) (a0 : AV) (H : Heap) (k : AV → Heap → Option β) : evalFn E0 (n + 1) β 20 [a0] H k = f20 (PR n β) n a0 H k := f20_body (PR n β) n a0 H k
theorem f8_eq (n : Nat) (a0 : AV) (H : Heap) (k : AV → Heap → Option β) : evalFn E0 (n + 1) β 8 [a0] H k = f8 (PR n β) n a0 H k := f8_body (PR n β) n a0 H k
theorem f53_eq (n : Nat) (a0 : AV) (H : Heap) (k : AV → Heap → Option β) : evalFn E0 (n + 1) β 53 [a0] H k = f53 (PR n β) n a0 H k := f53_body (PR n β) n a0 H k
theorem f52_eq (n : Nat) (a0 : AV) (H : Heap) (k : AV → Heap → Option β) : evalFn E0 (n + 1) β 52 [a0] H k = f52 (PR n β) n a0 H k := f52_body (PR n β) n a0 H k
theorem f40_eq (n : Nat) (a0 : AV) (H : Heap) (k : AV → Heap → Option β) : evalFn E0 (n + 1) β 40 [a0] H k = f40 (PR n β) n a0 H k := f40_body (PR n β) n a0 H k
theorem f26_eq (n : Nat) (a0 : AV) (H : Heap) (k : AV → Heap → Option β) : evalFn E0 (n + 1) β 26 [a0] H k = f26 (PR n β) n a0 H k := f26_body (PR n β) n a0 H k
theorem f15_eq (n : Nat) (a0 a1 : AV) (H : Heap) (k : AV → Heap → Option β) : evalFn E0 (n + 1) β 15 [a0, a1] H k = f15 (PR n β) n a0 a1 H k := f15_body (PR n β) n a0 a1 H k
theorem f66_eq (n : Nat) (a0 : AV) (H : Heap) (k : AV → Heap → Option β) : evalFn E0 (n + 1) β 66 [a0] H k = f66 (PR n β) n a0 H k := f66_body (PR n β) n a0 H k
theorem f59_eq (n : Nat) (a0 : AV) (H : Heap) (k : AV → Heap → Option β) : evalFn E0 (n + 1) β 59 [a0] H k = f59 (PR n β) n a0 H k := f59_body (PR n β) n a0 H k
theorem f58_eq (n : Nat) (a0 : AV) (H : Heap) (k : AV → Heap → Option β) : evalFn E0 (n + 1) β 58 [a0] H k = f58 (PR n β) n a0 H k := f58_body (PR n β) n a0 H k
theorem f46_eq (n : Nat) (a0 : AV) (H : Heap) (k : AV → Heap → Option β) : evalFn E0 (n + 1) β 46 [a0] H k = f46 (PR n β) n a0 H k := f46_body (PR n β) n a0 H k
theorem f47_eq (n : Nat) (a0 : AV) (H : Heap) (k : AV → Heap → Option β) : evalFn E0 (n + 1) β 47 [a0] H k = f47 (PR n β) n a0 H k := f47_body (PR n β) n a0 H k
theorem f31_eq (n : Nat) (a0 : AV) (H : Heap) (k : AV → Heap → Option β) : evalFn E0 (n + 1) β 31 [a0] H k = f31 (PR n β) n a0 H k := f31_body (PR n β) n a0 H k
theorem f21_eq (n : Nat) (a0 : AV) (H : Heap) (k : AV → Heap → Option β) : evalFn E0 (n + 1) β 21 [a0] H k = f21 (PR n β) n a0 H k := f21_body (PR n β) n a0 H k
theorem f28_eq (n : Nat) (a0 a1 : AV) (H : Heap) (k : AV → Heap → Option β) : evalFn E0 (n + 1) β 28 [a0, a1] H k = f28 (PR n β) n a0 a1 H k := f28_body (PR n β) n a0 a1 H k
theorem f41_eq (n : Nat) (a0 a1 : AV) (H : Heap) (k : AV → Heap → Option β) : evalFn E0 (n + 1) β 41 [a0, a1] H k = f41 (PR n β) n a0 a1 H k := f41_body (PR n β) n a0 a1 H k
theorem f27_eq (n : Nat) (a0 a1 : AV) (H : Heap) (k : AV → Heap → Option β) : evalFn E0 (n + 1) β 27 [a0, a1] H k = f27 (PR n β) n a0 a1 H k := f27_body (PR n β) n a0 a1 H k
theorem f16_eq (n : Nat) (a0 a1 : AV) (H : Heap) (k : AV → Heap → Option β) : evalFn E0 (n + 1) β 16 [a0, a1] H k = f16 (PR n β) n a0 a1 H k := f16_body (PR n β) n a0 a1 H k
theorem f71_eq (n : Nat) (a0 a1 : AV) (H : Heap) (k : AV → Heap → Option β) : evalFn E0 (n + 1) β 71 [a0, a1] H k = f71 (PR n β) n a0 a1 H k := f71_body (PR n β) n a0 a1 H k
theorem f68_eq (n : Nat) (a0 a1 : AV) (H : Heap) (k : AV → Heap → Option β) : evalFn E0 (n + 1) β 68 [a0, a1] H k = f68 (PR n β) n a0 a1 H k := f68_body (PR n β) n a0 a1 H k
theorem f67_eq (n : Nat) (a0 a1 : AV) (H : Heap) (k : AV → Heap → Option β) : evalFn E0 (n + 1) β 67 [a0, a1] H k = f67 (PR n β) n a0 a1 H k := f67_body (PR n β) n a0 a1 H k
theorem f60_eq (n : Nat) (a0 a1 : AV) (H : Heap) (k : AV → Heap → Option β) : evalFn E0 (n + 1) β 60 [a0, a1] H k = f60 (PR n β) n a0 a1 H k := f60_body (PR n β) n a0 a1 H k
theorem f61_eq (n : Nat) (a0 a1 : AV) (H : Heap) (k : AV → Heap → Option β) : evalFn E0 (n + 1) β 61 [a0, a1] H k = f61 (PR n β) n a0 a1 H k := f61_body (PR n β) n a0 a1 H k
theorem f48_eq (n : Nat) (a0 a1 : AV) (H : Heap) (k : AV → Heap → Option β) : evalFn E0 (n + 1) β 48 [a0, a1] H k = f48 (PR n β) n a0 a1 H k := f48_body (PR n β) n a0 a1 H k
theorem f49_eq (n : Nat) (a0 a1 : AV) (H : Heap) (k : AV → Heap → Option β) : evalFn E0 (n + 1) β 49 [a0, a1] H k = f49 (PR n β) n a0 a1 H k := f49_body (PR n β) n a0 a1 H k
theorem f32_eq (n : Nat) (a0 a1 : AV) (H : Heap) (k : AV → Heap → Option β) : evalFn E0 (n + 1) β 32 [a0, a1] H k = f32 (PR n β) n a0 a1 H k := f32_body (PR n β) n a0 a1 H k
theorem f23_eq (n : Nat) (a0 a1 : AV) (H : Heap) (k : AV → Heap → Option β) : evalFn E0 (n + 1) β 23 [a0, a1] H k = f23 (PR n β) n a0 a1 H k := f23_body (PR n β) n a0 a1 H k
theorem f10_eq (n : Nat) (a0 a1 : AV) (H : Heap) (k : AV → Heap → Option β) : evalFn E0 (n + 1) β 10 [a0, a1] H k = f10 (PR n β) n a0 a1 H k := f10_body (PR n β) n a0 a1 H k
theorem f33_eq (n : Nat) (a0 : AV) (H : Heap) (k : AV → Heap → Option β) : evalFn E0 (n + 1) β 33 [a0] H k = f33 (PR n β) n a0 H k := f33_body (PR n β) n a0 H k
theorem f50_eq (n : Nat) (a0 a1 : AV) (H : Heap) (k : AV → Heap → Option β) : evalFn E0 (n + 1) β 50 [a0, a1] H k = f50 (PR n β) n a0 a1 H k := f50_body (PR n β) n a0 a1 H k
theorem f34_eq (n : Nat) (a0 a1 : AV) (H : Heap) (k : AV → Heap → Option β) : evalFn E0 (n + 1) β 34 [a0, a1] H k = f34 (PR n β) n a0 a1 H k := f34_body (PR n β) n a0 a1 H k
theorem f35_eq (n : Nat) (a0 a1 : AV) (H : Heap) (k : AV → Heap → Option β) : evalFn E0 (n + 1) β 35 [a0, a1] H k = f35 (PR n β) n a0 a1 H k := f35_body (PR n β) n a0 a1 H k
theorem f36_eq (n : Nat) (a0 a1 : AV) (H : Heap) (k : AV → Heap → Option β) : evalFn E0 (n + 1) β 36 [a0, a1] H k = f36 (PR n β) n a0 a1 H k := f36_body (PR n β) n a0 a1 H k
theorem f24_eq (n : Nat) (a0 a1 : AV) (H : Heap) (k : AV → Heap → Option β) : evalFn E0 (n + 1) β 24 [a0, a1] H k = f24 (PR n β) n a0 a1 H k := f24_body (PR n β) n a0 a1 H k
theorem f11_eq (n : Nat) (a0 a1 : AV) (H : Heap) (k : AV → Heap → Option β) : evalFn E0 (n + 1) β 11 [a0, a1] H k = f11 (PR n β) n a0 a1 H k := f11_body (PR n β) n a0 a1 H k
theorem f51_eq (n : Nat) (a0 a1 : AV) (H : Heap) (k : AV → Heap → Option β) : evalFn E0 (n + 1) β 51 [a0, a1] H k = f51 (PR n β) n a0 a1 H k := f51_body (PR n β) n a0 a1 H k
theorem f37_eq (n : Nat) (a0 a1 : AV) (H : Heap) (k : AV → Heap → Option β) : evalFn E0 (n + 1) β 37 [a0, a1] H k = f37 (PR n β) n a0 a1 H k := f37_body (PR n β) n a0 a1 H k
theorem f38_eq (n : Nat) (a0 a1 : AV) (H : Heap) (k : AV → Heap → Option β) : evalFn E0 (n + 1) β 38 [a0, a1] H k = f38 (PR n β) n a0 a1 H k := f38_body (PR n β) n a0 a1 H k
theorem f39_eq (n : Nat) (a0 a1 : AV) (H : Heap) (k : AV → Heap → Option β) : evalFn E0 (n + 1) β 39 [a0, a1] H k = f39 (PR n β) n a0 a1 H k := f39_body (PR n β) n a0 a1 H k
theorem f25_eq (n : Nat) (a0 a1 : AV) (H : Heap) (k : AV → Heap → Option β) : evalFn E0 (n + 1) β 25 [a0, a1] H k = f25 (PR n β) n a0 a1 H k := f25_body (PR n β) n a0 a1 H k
theorem f12_eq (n : Nat) (a0 a1 : AV) (H : Heap) (k : AV → Heap → Option β) : evalFn E0 (n + 1) β 12 [a0, a1] H k = f12 (PR n β) n a0 a1 H k := f12_body (PR n β) n a0 a1 H k
theorem f5_eq (n : Nat) (a0 a1 : AV) (H : Heap) (k : AV → Heap → Option β) : evalFn E0 (n + 1) β 5 [a0, a1] H k = f5 (PR n β) n a0 a1 H k := f5_body (PR n β) n a0 a1 H k
theorem f18_eq (n : Nat) (a0 : AV) (H : Heap) (k : AV → Heap → Option β) : evalFn E0 (n + 1) β 18 [a0] H k = f18 (PR n β) n a0 H k := f18_body (PR n β) n a0 H k
theorem f19_eq (n : Nat) (a0 a1 a2 : AV) (H : Heap) (k : AV → Heap → Option β) : evalFn E0 (n + 1) β 19 [a0, a1, a2] H k = f19 (PR n β) n a0 a1 a2 H k := f19_body (PR n β) n a0 a1 a2 H k
theorem f7_eq (n : Nat) (a0 a1 : AV) (H : Heap) (k : AV → Heap → Option β) : evalFn E0 (n + 1) β 7 [a0, a1] H k = f7 (PR n β) n a0 a1 H k := f7_body (PR n β) n a0 a1 H k
theorem f22_eq (n : Nat) (a0 a1 a2 : AV) (H : Heap) (k : AV → Heap → Option β) : evalFn E0 (n + 1) β 22 [a0, a1, a2] H k = f22 (PR n β) n a0 a1 a2 H k := f22_body (PR n β) n a0 a1 a2 H k
theorem f9_eq (n : Nat) (a0 a1 : AV) (H : Heap) (k : AV → Heap → Option β) : evalFn E0 (n + 1) β 9 [a0, a1] H k = f9 (PR n β) n a0 a1 H k := f9_body (PR n β) n a0 a1 H k
theorem f3_eq (n : Nat) (a0 a1 : AV) (H : Heap) (k : AV → Heap → Option β) : evalFn E0 (n + 1) β 3 [a0, a1] H k = f3 (PR n β) n a0 a1 H k := f3_body (PR n β) n a0 a1 H k
end Go.Proofs.Ytfpmccedangjoaa.Abs
