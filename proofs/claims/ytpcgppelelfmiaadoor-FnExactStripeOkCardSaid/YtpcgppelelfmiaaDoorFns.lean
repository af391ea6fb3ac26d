/- The program's functions as plain functions over abstract values, part 2 (written by gen.py). -/
import Derived.Test.YtpcgppelelfmiaaDoorFnsA
set_option linter.unusedVariables false
set_option linter.unusedSimpArgs false
set_option maxRecDepth 100000
namespace Go.Proofs.YtpcgppelelfmiaaDoor.Abs
open Go
variable {β : Type}

/-! 37 loop.example/g00480/impl.StripeOk -/
noncomputable def f37_l0 (p : Pr β) (n : Nat)  (k : AV → Heap → Option β) : Nat → AV → AV → AV → AV → AV → Heap → Option β
  | 0, _, _, _, _, _, _ => none
  | m + 1, t1, t2, t8, t9, t10, H => p.bin .lss t10 t9 fun t11 =>
      p.cond t11
      (p.iadr 9 t8 t10 fun t13 =>
      p.load true 9 t13 H fun t14 =>
      p.new [(.sc (.string ⟨#[]⟩)), (.sc (.int .i64 0)), (.sc (.bool false)), (.sc (.int .i64 0)), (.sc (.int .i64 0)), (.sc (.int .i64 0)), .nl, .nl, .nl] H fun t6 H =>
      p.store 9 t6 t14 H fun H =>
      p.load true 9 t6 H fun t15 =>
      p.call 4 (.fn 32 [] []) [t15] H fun t16 H =>
      p.un .not t16 fun t17 =>
      p.guard t17 false H (fun k' => p.fadr 0 t6 fun t' => k' t' H) fun t19 H =>
      p.guard t17 false H (fun k' => p.load false 1 t19 H fun t' => k' t' H) fun t20 H =>
      p.guard t17 false H (fun k' => k' t1 H) fun t22 H =>
      p.guard t17 false H (fun k' => p.call 3 (.fn 79 [] []) [t20] H fun t' H => k' t' H) fun t21 H =>
      p.guard t17 false H (fun k' => p.bin .neq t21 t22 fun t' => k' t' H) fun t23 H =>
      p.pick t17 (.sc (.bool true)) t23 fun t24 =>
      p.guard t24 false H (fun k' => k' t10 H) fun t26 H =>
      p.guard t24 false H (fun k' => p.bin .gtr t26 (.sc (.int .i64 0)) fun t' => k' t' H) fun t27 H =>
      p.guard t24 false H (fun k' => k' t27 H) fun t28 H =>
      p.guard t28 true H (fun k' => p.fadr 1 t2 fun t' => k' t' H) fun t29 H =>
      p.guard t28 true H (fun k' => p.load false 1 t29 H fun t' => k' t' H) fun t30 H =>
      p.guard t28 true H (fun k' => k' t10 H) fun t31 H =>
      p.guard t28 true H (fun k' => p.bin .sub t31 (.sc (.int .i64 1)) fun t' => k' t' H) fun t32 H =>
      p.guard t28 true H (fun k' => p.iadr 9 t30 t32 fun t' => k' t' H) fun t33 H =>
      p.guard t28 true H (fun k' => p.fadr 0 t33 fun t' => k' t' H) fun t34 H =>
      p.guard t28 true H (fun k' => p.load false 1 t34 H fun t' => k' t' H) fun t35 H =>
      p.guard t28 true H (fun k' => p.fadr 0 t6 fun t' => k' t' H) fun t36 H =>
      p.guard t28 true H (fun k' => p.load false 1 t36 H fun t' => k' t' H) fun t37 H =>
      p.guard t28 true H (fun k' => p.bin .geq t35 t37 fun t' => k' t' H) fun t38 H =>
      p.guard t24 false H (fun k' => p.pick t28 t38 (.sc (.bool false)) fun t' => k' t' H) fun t39 H =>
      p.pick t24 (.sc (.bool true)) t39 fun t40 =>
      p.cond t40
      (k (.sc (.bool false)) H)
      (p.bin .add t10 (.sc (.int .i64 1)) fun t41 =>
      f37_l0 p n  k m t1 t2 t8 t9 t41 H))
      (p.fadr 0 t2 fun t42 =>
      p.load false 1 t42 H fun t43 =>
      p.call 4 (.fn 65 [] []) [t43, (.sc (.int .i64 (-1))), (.sc (.int .i64 7))] H fun t44 H =>
      p.guard t44 true H (fun k' => p.fadr 1 t2 fun t' => k' t' H) fun t46 H =>
      p.guard t44 true H (fun k' => p.load false 1 t46 H fun t' => k' t' H) fun t47 H =>
      p.guard t44 true H (fun k' => p.len t47 fun t' => k' t' H) fun t48 H =>
      p.guard t44 true H (fun k' => p.bin .leq t48 (.sc (.int .i64 3)) fun t' => k' t' H) fun t49 H =>
      p.pick t44 t49 (.sc (.bool false)) fun t50 =>
      k t50 H)
noncomputable def f37 (p : Pr β) (n : Nat) (a0 a1 : AV) (H : Heap) (k : AV → Heap → Option β) : Option β :=
  p.box a0 H fun t2 H =>
  p.fadr 1 t2 fun t7 =>
  p.load false 1 t7 H fun t8 =>
  p.len t8 fun t9 =>
  f37_l0 p n  k n a1 t2 t8 t9 (.sc (.int .i64 0)) H
noncomputable def f37_L0 (p : Pr β) (n : Nat)  (k : AV → Heap → Option β) (m : Nat) (tm : Tm) (H : Heap) : Option β :=
  iterC 51 (fun tm H k => evalCode ti0 p o37 51 n (cd c37 [1, 0, 1, 0, 0]) tm H k) (blkK 0 (seqK (fun tm H => evalCode ti0 p o37 51 n (cd c37 [1, 1]) tm H (endK ti0 p Go.Proofs.Tryd.f37.results.toList k)) (endK ti0 p Go.Proofs.Tryd.f37.results.toList k))) m tm H
theorem f37_L0_step (p : Pr β) (n : Nat)  (k : AV → Heap → Option β) (m0 : Nat) (t0 t1 t2 t3 t4 t5 t6 t7 t8 t9 t10 t11 t12 t13 t14 t15 t16 t17 t18 t19 t20 t21 t22 t23 t24 t25 t26 t27 t28 t29 t30 t31 t32 t33 t34 t35 t36 t37 t38 t39 t40 t41 t42 t43 t44 t45 t46 t47 t48 t49 t50 : AV) (H : Heap) : f37_L0 p n  k (m0 + 1) [(0, t0), (1, t1), (2, t2), (3, t3), (4, t4), (5, t5), (6, t6), (7, t7), (8, t8), (9, t9), (10, t10), (11, t11), (12, t12), (13, t13), (14, t14), (15, t15), (16, t16), (17, t17), (18, t18), (19, t19), (20, t20), (21, t21), (22, t22), (23, t23), (24, t24), (25, t25), (26, t26), (27, t27), (28, t28), (29, t29), (30, t30), (31, t31), (32, t32), (33, t33), (34, t34), (35, t35), (36, t36), (37, t37), (38, t38), (39, t39), (40, t40), (41, t41), (42, t42), (43, t43), (44, t44), (45, t45), (46, t46), (47, t47), (48, t48), (49, t49), (50, t50)] H =
  p.bin .lss t10 t9 fun t11 =>
  p.cond t11
  (p.iadr 9 t8 t10 fun t13 =>
  p.load true 9 t13 H fun t14 =>
  p.new [(.sc (.string ⟨#[]⟩)), (.sc (.int .i64 0)), (.sc (.bool false)), (.sc (.int .i64 0)), (.sc (.int .i64 0)), (.sc (.int .i64 0)), .nl, .nl, .nl] H fun t6 H =>
  p.store 9 t6 t14 H fun H =>
  p.load true 9 t6 H fun t15 =>
  p.call 4 (.fn 32 [] []) [t15] H fun t16 H =>
  p.un .not t16 fun t17 =>
  p.guard t17 false H (fun k' => p.fadr 0 t6 fun t' => k' t' H) fun t19 H =>
  p.guard t17 false H (fun k' => p.load false 1 t19 H fun t' => k' t' H) fun t20 H =>
  p.guard t17 false H (fun k' => k' t1 H) fun t22 H =>
  p.guard t17 false H (fun k' => p.call 3 (.fn 79 [] []) [t20] H fun t' H => k' t' H) fun t21 H =>
  p.guard t17 false H (fun k' => p.bin .neq t21 t22 fun t' => k' t' H) fun t23 H =>
  p.pick t17 (.sc (.bool true)) t23 fun t24 =>
  p.guard t24 false H (fun k' => k' t10 H) fun t26 H =>
  p.guard t24 false H (fun k' => p.bin .gtr t26 (.sc (.int .i64 0)) fun t' => k' t' H) fun t27 H =>
  p.guard t24 false H (fun k' => k' t27 H) fun t28 H =>
  p.guard t28 true H (fun k' => p.fadr 1 t2 fun t' => k' t' H) fun t29 H =>
  p.guard t28 true H (fun k' => p.load false 1 t29 H fun t' => k' t' H) fun t30 H =>
  p.guard t28 true H (fun k' => k' t10 H) fun t31 H =>
  p.guard t28 true H (fun k' => p.bin .sub t31 (.sc (.int .i64 1)) fun t' => k' t' H) fun t32 H =>
  p.guard t28 true H (fun k' => p.iadr 9 t30 t32 fun t' => k' t' H) fun t33 H =>
  p.guard t28 true H (fun k' => p.fadr 0 t33 fun t' => k' t' H) fun t34 H =>
  p.guard t28 true H (fun k' => p.load false 1 t34 H fun t' => k' t' H) fun t35 H =>
  p.guard t28 true H (fun k' => p.fadr 0 t6 fun t' => k' t' H) fun t36 H =>
  p.guard t28 true H (fun k' => p.load false 1 t36 H fun t' => k' t' H) fun t37 H =>
  p.guard t28 true H (fun k' => p.bin .geq t35 t37 fun t' => k' t' H) fun t38 H =>
  p.guard t24 false H (fun k' => p.pick t28 t38 (.sc (.bool false)) fun t' => k' t' H) fun t39 H =>
  p.pick t24 (.sc (.bool true)) t39 fun t40 =>
  p.cond t40
  (k (.sc (.bool false)) H)
  (p.bin .add t10 (.sc (.int .i64 1)) fun t41 =>
  f37_L0 p n  k m0 [(0, t0), (1, t1), (2, t2), (3, t3), (4, t4), (5, t10), (6, t6), (7, t7), (8, t8), (9, t9), (10, t41), (11, t11), (12, t10), (13, t13), (14, t14), (15, t15), (16, t16), (17, t17), (18, t17), (19, t19), (20, t20), (21, t21), (22, t22), (23, t23), (24, t24), (25, t24), (26, t26), (27, t27), (28, t28), (29, t29), (30, t30), (31, t31), (32, t32), (33, t33), (34, t34), (35, t35), (36, t36), (37, t37), (38, t38), (39, t39), (40, t40), (41, t41), (42, t42), (43, t43), (44, t44), (45, t45), (46, t46), (47, t47), (48, t48), (49, t49), (50, t50)] H))
  (p.fadr 0 t2 fun t42 =>
  p.load false 1 t42 H fun t43 =>
  p.call 4 (.fn 65 [] []) [t43, (.sc (.int .i64 (-1))), (.sc (.int .i64 7))] H fun t44 H =>
  p.guard t44 true H (fun k' => p.fadr 1 t2 fun t' => k' t' H) fun t46 H =>
  p.guard t44 true H (fun k' => p.load false 1 t46 H fun t' => k' t' H) fun t47 H =>
  p.guard t44 true H (fun k' => p.len t47 fun t' => k' t' H) fun t48 H =>
  p.guard t44 true H (fun k' => p.bin .leq t48 (.sc (.int .i64 3)) fun t' => k' t' H) fun t49 H =>
  p.pick t44 t49 (.sc (.bool false)) fun t50 =>
  k t50 H) := by kernel_rfl
theorem f37_l0_eq (p : Pr β) (n : Nat)  (k : AV → Heap → Option β)   (m0 : Nat) : ∀ (t0 t1 t2 t3 t4 t5 t6 t7 t8 t9 t10 t11 t12 t13 t14 t15 t16 t17 t18 t19 t20 t21 t22 t23 t24 t25 t26 t27 t28 t29 t30 t31 t32 t33 t34 t35 t36 t37 t38 t39 t40 t41 t42 t43 t44 t45 t46 t47 t48 t49 t50 : AV) (H : Heap), f37_L0 p n  k m0 [(0, t0), (1, t1), (2, t2), (3, t3), (4, t4), (5, t5), (6, t6), (7, t7), (8, t8), (9, t9), (10, t10), (11, t11), (12, t12), (13, t13), (14, t14), (15, t15), (16, t16), (17, t17), (18, t18), (19, t19), (20, t20), (21, t21), (22, t22), (23, t23), (24, t24), (25, t25), (26, t26), (27, t27), (28, t28), (29, t29), (30, t30), (31, t31), (32, t32), (33, t33), (34, t34), (35, t35), (36, t36), (37, t37), (38, t38), (39, t39), (40, t40), (41, t41), (42, t42), (43, t43), (44, t44), (45, t45), (46, t46), (47, t47), (48, t48), (49, t49), (50, t50)] H = f37_l0 p n  k m0 t1 t2 t8 t9 t10 H := by
  induction m0 with
  | zero => intros; rfl
  | succ m0 ih =>
    intro t0 t1 t2 t3 t4 t5 t6 t7 t8 t9 t10 t11 t12 t13 t14 t15 t16 t17 t18 t19 t20 t21 t22 t23 t24 t25 t26 t27 t28 t29 t30 t31 t32 t33 t34 t35 t36 t37 t38 t39 t40 t41 t42 t43 t44 t45 t46 t47 t48 t49 t50 H
    rw [f37_L0_step]
    simp only [ih]
    rfl
theorem f37_raw (p : Pr β) (n : Nat) (a0 a1 : AV) (H : Heap) (k : AV → Heap → Option β) : evalBody ti0 p n ⟨c37, 51, Go.Proofs.Tryd.f37.results.toList, o37⟩ [a0, a1] H k =
  p.box a0 H fun t2 H =>
  p.fadr 1 t2 fun t7 =>
  p.load false 1 t7 H fun t8 =>
  p.len t8 fun t9 =>
  f37_L0 p n  k n [(0, a0), (1, a1), (2, t2), (3, (.sc undef)), (4, (.sc (.bool false))), (5, (.sc undef)), (6, (.sc undef)), (7, t7), (8, t8), (9, t9), (10, (.sc (.int .i64 0))), (11, (.sc undef)), (12, (.sc undef)), (13, (.sc undef)), (14, (.sc undef)), (15, (.sc undef)), (16, (.sc undef)), (17, (.sc undef)), (18, (.sc undef)), (19, (.sc undef)), (20, (.sc undef)), (21, (.sc undef)), (22, (.sc undef)), (23, (.sc undef)), (24, (.sc undef)), (25, (.sc undef)), (26, (.sc undef)), (27, (.sc undef)), (28, (.sc undef)), (29, (.sc undef)), (30, (.sc undef)), (31, (.sc undef)), (32, (.sc undef)), (33, (.sc undef)), (34, (.sc undef)), (35, (.sc undef)), (36, (.sc undef)), (37, (.sc undef)), (38, (.sc undef)), (39, (.sc undef)), (40, (.sc undef)), (41, (.sc undef)), (42, (.sc undef)), (43, (.sc undef)), (44, (.sc undef)), (45, (.sc undef)), (46, (.sc undef)), (47, (.sc undef)), (48, (.sc undef)), (49, (.sc undef)), (50, (.sc undef))] H := by kernel_rfl
theorem f37_body (p : Pr β) (n : Nat) (a0 a1 : AV) (H : Heap) (k : AV → Heap → Option β) : evalBody ti0 p n ⟨c37, 51, Go.Proofs.Tryd.f37.results.toList, o37⟩ [a0, a1] H k = f37 p n a0 a1 H k := by
  rw [f37_raw]
  simp only [f37_l0_eq]
  rfl

/-! 80 loop.example/g00480/laws.eqSessS -/
noncomputable def f80_l0 (p : Pr β) (n : Nat)  (k : AV → Heap → Option β) : Nat → AV → AV → AV → Heap → Option β
  | 0, _, _, _, _ => none
  | m + 1, t0, t1, t5, H => p.len t0 fun t13 =>
      p.bin .lss t5 t13 fun t14 =>
      p.cond t14
      (p.iadr 9 t0 t5 fun t19 =>
      p.load true 9 t19 H fun t20 =>
      p.iadr 9 t1 t5 fun t23 =>
      p.load true 9 t23 H fun t24 =>
      p.call 4 (.fn 33 [] []) [t20, t24] H fun t25 H =>
      p.un .not t25 fun t26 =>
      p.cond t26
      (k (.sc (.bool false)) H)
      (p.bin .add t5 (.sc (.int .i64 1)) fun t16 =>
      f80_l0 p n  k m t0 t1 t16 H))
      (k (.sc (.bool true)) H)
noncomputable def f80 (p : Pr β) (n : Nat) (a0 a1 : AV) (H : Heap) (k : AV → Heap → Option β) : Option β :=
  p.len a0 fun t7 =>
  p.len a1 fun t9 =>
  p.bin .neq t7 t9 fun t10 =>
  p.cond t10
  (k (.sc (.bool false)) H)
  (f80_l0 p n  k n a0 a1 (.sc (.int .i64 0)) H)
noncomputable def f80_L0 (p : Pr β) (n : Nat)  (k : AV → Heap → Option β) (m : Nat) (tm : Tm) (H : Heap) : Option β :=
  iterC 27 (fun tm H k => evalCode ti0 p o80 27 n (cd c80 [1, 1, 0, 1, 0, 0]) tm H k) (blkK 0 (seqK (fun tm H => evalCode ti0 p o80 27 n (cd c80 [1, 1, 1]) tm H (endK ti0 p Go.Proofs.Tryd.f80.results.toList k)) (endK ti0 p Go.Proofs.Tryd.f80.results.toList k))) m tm H
theorem f80_L0_step (p : Pr β) (n : Nat)  (k : AV → Heap → Option β) (m0 : Nat) (t0 t1 t2 t3 t4 t5 t6 t7 t8 t9 t10 t11 t12 t13 t14 t15 t16 t17 t18 t19 t20 t21 t22 t23 t24 t25 t26 : AV) (H : Heap) : f80_L0 p n  k (m0 + 1) [(0, t0), (1, t1), (2, t2), (3, t3), (4, t4), (5, t5), (6, t6), (7, t7), (8, t8), (9, t9), (10, t10), (11, t11), (12, t12), (13, t13), (14, t14), (15, t15), (16, t16), (17, t17), (18, t18), (19, t19), (20, t20), (21, t21), (22, t22), (23, t23), (24, t24), (25, t25), (26, t26)] H =
  p.len t0 fun t13 =>
  p.bin .lss t5 t13 fun t14 =>
  p.cond t14
  (p.iadr 9 t0 t5 fun t19 =>
  p.load true 9 t19 H fun t20 =>
  p.iadr 9 t1 t5 fun t23 =>
  p.load true 9 t23 H fun t24 =>
  p.call 4 (.fn 33 [] []) [t20, t24] H fun t25 H =>
  p.un .not t25 fun t26 =>
  p.cond t26
  (k (.sc (.bool false)) H)
  (p.bin .add t5 (.sc (.int .i64 1)) fun t16 =>
  f80_L0 p n  k m0 [(0, t0), (1, t1), (2, t2), (3, t3), (4, t4), (5, t16), (6, t6), (7, t7), (8, t8), (9, t9), (10, t10), (11, t5), (12, t0), (13, t13), (14, t14), (15, t5), (16, t16), (17, t0), (18, t5), (19, t19), (20, t20), (21, t1), (22, t5), (23, t23), (24, t24), (25, t25), (26, t26)] H))
  (k (.sc (.bool true)) H) := by kernel_rfl
theorem f80_l0_eq (p : Pr β) (n : Nat)  (k : AV → Heap → Option β)   (m0 : Nat) : ∀ (t0 t1 t2 t3 t4 t5 t6 t7 t8 t9 t10 t11 t12 t13 t14 t15 t16 t17 t18 t19 t20 t21 t22 t23 t24 t25 t26 : AV) (H : Heap), f80_L0 p n  k m0 [(0, t0), (1, t1), (2, t2), (3, t3), (4, t4), (5, t5), (6, t6), (7, t7), (8, t8), (9, t9), (10, t10), (11, t11), (12, t12), (13, t13), (14, t14), (15, t15), (16, t16), (17, t17), (18, t18), (19, t19), (20, t20), (21, t21), (22, t22), (23, t23), (24, t24), (25, t25), (26, t26)] H = f80_l0 p n  k m0 t0 t1 t5 H := by
  induction m0 with
  | zero => intros; rfl
  | succ m0 ih =>
    intro t0 t1 t2 t3 t4 t5 t6 t7 t8 t9 t10 t11 t12 t13 t14 t15 t16 t17 t18 t19 t20 t21 t22 t23 t24 t25 t26 H
    rw [f80_L0_step]
    simp only [ih]
    rfl
theorem f80_raw (p : Pr β) (n : Nat) (a0 a1 : AV) (H : Heap) (k : AV → Heap → Option β) : evalBody ti0 p n ⟨c80, 27, Go.Proofs.Tryd.f80.results.toList, o80⟩ [a0, a1] H k =
  p.len a0 fun t7 =>
  p.len a1 fun t9 =>
  p.bin .neq t7 t9 fun t10 =>
  p.cond t10
  (k (.sc (.bool false)) H)
  (f80_L0 p n  k n [(0, a0), (1, a1), (2, (.sc undef)), (3, (.sc undef)), (4, (.sc (.bool false))), (5, (.sc (.int .i64 0))), (6, a0), (7, t7), (8, a1), (9, t9), (10, t10), (11, (.sc undef)), (12, (.sc undef)), (13, (.sc undef)), (14, (.sc undef)), (15, (.sc undef)), (16, (.sc undef)), (17, (.sc undef)), (18, (.sc undef)), (19, (.sc undef)), (20, (.sc undef)), (21, (.sc undef)), (22, (.sc undef)), (23, (.sc undef)), (24, (.sc undef)), (25, (.sc undef)), (26, (.sc undef))] H) := by kernel_rfl
theorem f80_body (p : Pr β) (n : Nat) (a0 a1 : AV) (H : Heap) (k : AV → Heap → Option β) : evalBody ti0 p n ⟨c80, 27, Go.Proofs.Tryd.f80.results.toList, o80⟩ [a0, a1] H k = f80 p n a0 a1 H k := by
  rw [f80_raw]
  simp only [f80_l0_eq]
  rfl

/-! 38 loop.example/g00480/laws.eqStripe -/
noncomputable def f38 (p : Pr β) (n : Nat) (a0 a1 : AV) (H : Heap) (k : AV → Heap → Option β) : Option β :=
  p.box a0 H fun t2 H =>
  p.box a1 H fun t3 H =>
  p.fadr 0 t2 fun t5 =>
  p.load false 1 t5 H fun t6 =>
  p.fadr 0 t3 fun t7 =>
  p.load false 1 t7 H fun t8 =>
  p.bin .neq t6 t8 fun t9 =>
  p.cond t9
  (k (.sc (.bool false)) H)
  (p.fadr 1 t2 fun t10 =>
  p.load false 1 t10 H fun t11 =>
  p.fadr 1 t3 fun t12 =>
  p.load false 1 t12 H fun t13 =>
  p.call 4 (.fn 80 [] []) [t11, t13] H fun t14 H =>
  p.un .not t14 fun t15 =>
  p.cond t15
  (k (.sc (.bool false)) H)
  (k (.sc (.bool true)) H))
theorem f38_body (p : Pr β) (n : Nat) (a0 a1 : AV) (H : Heap) (k : AV → Heap → Option β) : evalBody ti0 p n ⟨c38, 16, Go.Proofs.Tryd.f38.results.toList, o38⟩ [a0, a1] H k = f38 p n a0 a1 H k := by kernel_rfl

/-! 8 loop.example/g00480/laws.FnExactStripeOk -/
noncomputable def f8 (p : Pr β) (n : Nat) (a0 a1 : AV) (H : Heap) (k : AV → Heap → Option β) : Option β :=
  p.box a0 H fun t2 H =>
  p.load true 2 t2 H fun t9 =>
  p.call 3 (.fn 34 [] []) [t9, (.sc (.int .i64 1048576))] H fun t11 H =>
  p.bin .lss t11 (.sc (.int .i64 0)) fun t13 =>
  p.cond t13
  (k (.sc (.bool true)) H)
  (p.load true 2 t2 H fun t14 =>
  p.call 66 (.fn 36 [] []) [t14] H fun t15 H =>
  p.call 4 (.fn 35 [] []) [t15, a1] H fun t17 H =>
  p.load true 2 t2 H fun t18 =>
  p.call 66 (.fn 36 [] []) [t18] H fun t19 H =>
  p.new [(.sc (.int .i64 0)), .nl] H fun t7 H =>
  p.store 2 t7 t19 H fun H =>
  p.load true 2 t7 H fun t20 =>
  p.call 4 (.fn 37 [] []) [t20, a1] H fun t22 H =>
  p.binB .neq t22 t17 fun t25 =>
  p.cond t25
  (k (.sc (.bool false)) H)
  (p.load true 2 t7 H fun t26 =>
  p.load true 2 t2 H fun t27 =>
  p.call 66 (.fn 36 [] []) [t27] H fun t28 H =>
  p.call 4 (.fn 38 [] []) [t26, t28] H fun t29 H =>
  p.un .not t29 fun t30 =>
  p.cond t30
  (k (.sc (.bool false)) H)
  (k (.sc (.bool true)) H)))
theorem f8_body (p : Pr β) (n : Nat) (a0 a1 : AV) (H : Heap) (k : AV → Heap → Option β) : evalBody ti0 p n ⟨c8, 31, Go.Proofs.Tryd.f8.results.toList, o8⟩ [a0, a1] H k = f8 p n a0 a1 H k := by kernel_rfl

noncomputable def fss : List (Option FnI) := [none, none, none, some ⟨c3, 27, Go.Proofs.Tryd.f3.results.toList, o3⟩, some ⟨c4, 27, Go.Proofs.Tryd.f4.results.toList, o4⟩, some ⟨c5, 27, Go.Proofs.Tryd.f5.results.toList, o5⟩, some ⟨c6, 27, Go.Proofs.Tryd.f6.results.toList, o6⟩, some ⟨c7, 27, Go.Proofs.Tryd.f7.results.toList, o7⟩, some ⟨c8, 31, Go.Proofs.Tryd.f8.results.toList, o8⟩, none, none, none, some ⟨c12, 19, Go.Proofs.Tryd.f12.results.toList, o12⟩, some ⟨c13, 17, Go.Proofs.Tryd.f13.results.toList, o13⟩, some ⟨c14, 18, Go.Proofs.Tryd.f14.results.toList, o14⟩, some ⟨c15, 17, Go.Proofs.Tryd.f15.results.toList, o15⟩, some ⟨c16, 26, Go.Proofs.Tryd.f16.results.toList, o16⟩, some ⟨c17, 27, Go.Proofs.Tryd.f17.results.toList, o17⟩, some ⟨c18, 19, Go.Proofs.Tryd.f18.results.toList, o18⟩, some ⟨c19, 23, Go.Proofs.Tryd.f19.results.toList, o19⟩, some ⟨c20, 10, Go.Proofs.Tryd.f20.results.toList, o20⟩, some ⟨c21, 27, Go.Proofs.Tryd.f21.results.toList, o21⟩, some ⟨c22, 18, Go.Proofs.Tryd.f22.results.toList, o22⟩, some ⟨c23, 71, Go.Proofs.Tryd.f23.results.toList, o23⟩, some ⟨c24, 16, Go.Proofs.Tryd.f24.results.toList, o24⟩, some ⟨c25, 67, Go.Proofs.Tryd.f25.results.toList, o25⟩, some ⟨c26, 22, Go.Proofs.Tryd.f26.results.toList, o26⟩, some ⟨c27, 25, Go.Proofs.Tryd.f27.results.toList, o27⟩, some ⟨c28, 25, Go.Proofs.Tryd.f28.results.toList, o28⟩, some ⟨c29, 25, Go.Proofs.Tryd.f29.results.toList, o29⟩, some ⟨c30, 48, Go.Proofs.Tryd.f30.results.toList, o30⟩, some ⟨c31, 28, Go.Proofs.Tryd.f31.results.toList, o31⟩, some ⟨c32, 30, Go.Proofs.Tryd.f32.results.toList, o32⟩, some ⟨c33, 42, Go.Proofs.Tryd.f33.results.toList, o33⟩, some ⟨c34, 12, Go.Proofs.Tryd.f34.results.toList, o34⟩, some ⟨c35, 60, Go.Proofs.Tryd.f35.results.toList, o35⟩, some ⟨c36, 12, Go.Proofs.Tryd.f36.results.toList, o36⟩, some ⟨c37, 51, Go.Proofs.Tryd.f37.results.toList, o37⟩, some ⟨c38, 16, Go.Proofs.Tryd.f38.results.toList, o38⟩, none, none, none, none, none, none, none, none, none, none, none, none, none, some ⟨c52, 12, Go.Proofs.Tryd.f52.results.toList, o52⟩, some ⟨c53, 25, Go.Proofs.Tryd.f53.results.toList, o53⟩, some ⟨c54, 15, Go.Proofs.Tryd.f54.results.toList, o54⟩, some ⟨c55, 22, Go.Proofs.Tryd.f55.results.toList, o55⟩, some ⟨c56, 20, Go.Proofs.Tryd.f56.results.toList, o56⟩, some ⟨c57, 5, Go.Proofs.Tryd.f57.results.toList, o57⟩, some ⟨c58, 26, Go.Proofs.Tryd.f58.results.toList, o58⟩, some ⟨c59, 15, Go.Proofs.Tryd.f59.results.toList, o59⟩, some ⟨c60, 27, Go.Proofs.Tryd.f60.results.toList, o60⟩, some ⟨c61, 24, Go.Proofs.Tryd.f61.results.toList, o61⟩, some ⟨c62, 23, Go.Proofs.Tryd.f62.results.toList, o62⟩, some ⟨c63, 5, Go.Proofs.Tryd.f63.results.toList, o63⟩, some ⟨c64, 8, Go.Proofs.Tryd.f64.results.toList, o64⟩, some ⟨c65, 15, Go.Proofs.Tryd.f65.results.toList, o65⟩, some ⟨c66, 5, Go.Proofs.Tryd.f66.results.toList, o66⟩, some ⟨c67, 27, Go.Proofs.Tryd.f67.results.toList, o67⟩, some ⟨c68, 12, Go.Proofs.Tryd.f68.results.toList, o68⟩, some ⟨c69, 6, Go.Proofs.Tryd.f69.results.toList, o69⟩, some ⟨c70, 35, Go.Proofs.Tryd.f70.results.toList, o70⟩, some ⟨c71, 22, Go.Proofs.Tryd.f71.results.toList, o71⟩, some ⟨c72, 9, Go.Proofs.Tryd.f72.results.toList, o72⟩, some ⟨c73, 21, Go.Proofs.Tryd.f73.results.toList, o73⟩, some ⟨c74, 32, Go.Proofs.Tryd.f74.results.toList, o74⟩, some ⟨c75, 26, Go.Proofs.Tryd.f75.results.toList, o75⟩, some ⟨c76, 27, Go.Proofs.Tryd.f76.results.toList, o76⟩, some ⟨c77, 19, Go.Proofs.Tryd.f77.results.toList, o77⟩, some ⟨c78, 23, Go.Proofs.Tryd.f78.results.toList, o78⟩, some ⟨c79, 19, Go.Proofs.Tryd.f79.results.toList, o79⟩, some ⟨c80, 27, Go.Proofs.Tryd.f80.results.toList, o80⟩, none, none, none, none, none, none, none, none, none, none, none, none, none, some ⟨c94, 17, Go.Proofs.Tryd.f94.results.toList, o94⟩, some ⟨c95, 33, Go.Proofs.Tryd.f95.results.toList, o95⟩, none, none, some ⟨c98, 5, Go.Proofs.Tryd.f98.results.toList, o98⟩, some ⟨c99, 12, Go.Proofs.Tryd.f99.results.toList, o99⟩, some ⟨c100, 15, Go.Proofs.Tryd.f100.results.toList, o100⟩, some ⟨c101, 19, Go.Proofs.Tryd.f101.results.toList, o101⟩, some ⟨c102, 8, Go.Proofs.Tryd.f102.results.toList, o102⟩, some ⟨c103, 21, Go.Proofs.Tryd.f103.results.toList, o103⟩, some ⟨c104, 35, Go.Proofs.Tryd.f104.results.toList, o104⟩, none, none, none, none, some ⟨c109, 104, Go.Proofs.Tryd.f109.results.toList, o109⟩]
noncomputable def tps : List (Nat × List Nat) := [(70, [34, 3]), (75, [45, 3]), (121, [3, 3, 4]), (133, [132, 4]), (143, [21, 3]), (146, [145, 145])]
noncomputable def E0 : Env := { ti := ti0, tp := fun t => ordOf tps t, fs := fun f => (fss[f]?).getD none, ext := fun f => if Nat.beq f 96 then some ext96 else if Nat.beq f 97 then some ext97 else if Nat.beq f 108 then some ext108 else none, hm := fun f => [41, 42, 46, 50, 86, 90, 92, 114, 140, 141, 142, 143, 144].contains f }
noncomputable def PR (n : Nat) (β : Type) : Pr β := prims E0 (evalFn E0 n) β
theorem f52_eq (n : Nat) (a0 a1 : AV) (H : Heap) (k : AV → Heap → Option β) : evalFn E0 (n + 1) β 52 [a0, a1] H k = f52 (PR n β) n a0 a1 H k := f52_body (PR n β) n a0 a1 H k
theorem f12_eq (n : Nat) (a0 a1 : AV) (H : Heap) (k : AV → Heap → Option β) : evalFn E0 (n + 1) β 12 [a0, a1] H k = f12 (PR n β) n a0 a1 H k := f12_body (PR n β) n a0 a1 H k
theorem f55_eq (n : Nat) (a0 : AV) (H : Heap) (k : AV → Heap → Option β) : evalFn E0 (n + 1) β 55 [a0] H k = f55 (PR n β) n a0 H k := f55_body (PR n β) n a0 H k
theorem f14_eq (n : Nat) (a0 : AV) (H : Heap) (k : AV → Heap → Option β) : evalFn E0 (n + 1) β 14 [a0] H k = f14 (PR n β) n a0 H k := f14_body (PR n β) n a0 H k
theorem f54_eq (n : Nat) (a0 a1 a2 : AV) (H : Heap) (k : AV → Heap → Option β) : evalFn E0 (n + 1) β 54 [a0, a1, a2] H k = f54 (PR n β) n a0 a1 a2 H k := f54_body (PR n β) n a0 a1 a2 H k
theorem f109_eq (n : Nat) (a0 a1 : AV) (H : Heap) (k : AV → Heap → Option β) : evalFn E0 (n + 1) β 109 [a0, a1] H k = f109 (PR n β) n a0 a1 H k := f109_body (PR n β) n a0 a1 H k
theorem f104_eq (n : Nat) (a0 : AV) (H : Heap) (k : AV → Heap → Option β) : evalFn E0 (n + 1) β 104 [a0] H k = f104 (PR n β) n a0 H k := f104_body (PR n β) n a0 H k
theorem f69_eq (n : Nat) (a0 : AV) (H : Heap) (k : AV → Heap → Option β) : evalFn E0 (n + 1) β 69 [a0] H k = f69 (PR n β) n a0 H k := f69_body (PR n β) n a0 H k
theorem f94_eq (n : Nat) (a0 a1 : AV) (H : Heap) (k : AV → Heap → Option β) : evalFn E0 (n + 1) β 94 [a0, a1] H k = f94 (PR n β) n a0 a1 H k := f94_body (PR n β) n a0 a1 H k
theorem f95_eq (n : Nat) (a0 : AV) (H : Heap) (k : AV → Heap → Option β) : evalFn E0 (n + 1) β 95 [a0] H k = f95 (PR n β) n a0 H k := f95_body (PR n β) n a0 H k
theorem f53_eq (n : Nat) (a0 : AV) (H : Heap) (k : AV → Heap → Option β) : evalFn E0 (n + 1) β 53 [a0] H k = f53 (PR n β) n a0 H k := f53_body (PR n β) n a0 H k
theorem f13_eq (n : Nat) (a0 : AV) (H : Heap) (k : AV → Heap → Option β) : evalFn E0 (n + 1) β 13 [a0] H k = f13 (PR n β) n a0 H k := f13_body (PR n β) n a0 H k
theorem f98_eq (n : Nat) (a0 : AV) (H : Heap) (k : AV → Heap → Option β) : evalFn E0 (n + 1) β 98 [a0] H k = f98 (PR n β) n a0 H k := f98_body (PR n β) n a0 H k
theorem f56_eq (n : Nat) (a0 : AV) (H : Heap) (k : AV → Heap → Option β) : evalFn E0 (n + 1) β 56 [a0] H k = f56 (PR n β) n a0 H k := f56_body (PR n β) n a0 H k
theorem f65_eq (n : Nat) (a0 a1 a2 : AV) (H : Heap) (k : AV → Heap → Option β) : evalFn E0 (n + 1) β 65 [a0, a1, a2] H k = f65 (PR n β) n a0 a1 a2 H k := f65_body (PR n β) n a0 a1 a2 H k
theorem f57_eq (n : Nat) (a0 : AV) (H : Heap) (k : AV → Heap → Option β) : evalFn E0 (n + 1) β 57 [a0] H k = f57 (PR n β) n a0 H k := f57_body (PR n β) n a0 H k
theorem f15_eq (n : Nat) (a0 : AV) (H : Heap) (k : AV → Heap → Option β) : evalFn E0 (n + 1) β 15 [a0] H k = f15 (PR n β) n a0 H k := f15_body (PR n β) n a0 H k
theorem f58_eq (n : Nat) (a0 a1 : AV) (H : Heap) (k : AV → Heap → Option β) : evalFn E0 (n + 1) β 58 [a0, a1] H k = f58 (PR n β) n a0 a1 H k := f58_body (PR n β) n a0 a1 H k
theorem f16_eq (n : Nat) (a0 a1 : AV) (H : Heap) (k : AV → Heap → Option β) : evalFn E0 (n + 1) β 16 [a0, a1] H k = f16 (PR n β) n a0 a1 H k := f16_body (PR n β) n a0 a1 H k
theorem f3_eq (n : Nat) (a0 : AV) (H : Heap) (k : AV → Heap → Option β) : evalFn E0 (n + 1) β 3 [a0] H k = f3 (PR n β) n a0 H k := f3_body (PR n β) n a0 H k
theorem f17_eq (n : Nat) (a0 a1 : AV) (H : Heap) (k : AV → Heap → Option β) : evalFn E0 (n + 1) β 17 [a0, a1] H k = f17 (PR n β) n a0 a1 H k := f17_body (PR n β) n a0 a1 H k
theorem f19_eq (n : Nat) (a0 : AV) (H : Heap) (k : AV → Heap → Option β) : evalFn E0 (n + 1) β 19 [a0] H k = f19 (PR n β) n a0 H k := f19_body (PR n β) n a0 H k
theorem f18_eq (n : Nat) (a0 : AV) (H : Heap) (k : AV → Heap → Option β) : evalFn E0 (n + 1) β 18 [a0] H k = f18 (PR n β) n a0 H k := f18_body (PR n β) n a0 H k
theorem f59_eq (n : Nat) (a0 : AV) (H : Heap) (k : AV → Heap → Option β) : evalFn E0 (n + 1) β 59 [a0] H k = f59 (PR n β) n a0 H k := f59_body (PR n β) n a0 H k
theorem f20_eq (n : Nat) (a0 : AV) (H : Heap) (k : AV → Heap → Option β) : evalFn E0 (n + 1) β 20 [a0] H k = f20 (PR n β) n a0 H k := f20_body (PR n β) n a0 H k
theorem f21_eq (n : Nat) (a0 a1 : AV) (H : Heap) (k : AV → Heap → Option β) : evalFn E0 (n + 1) β 21 [a0, a1] H k = f21 (PR n β) n a0 a1 H k := f21_body (PR n β) n a0 a1 H k
theorem f4_eq (n : Nat) (a0 : AV) (H : Heap) (k : AV → Heap → Option β) : evalFn E0 (n + 1) β 4 [a0] H k = f4 (PR n β) n a0 H k := f4_body (PR n β) n a0 H k
theorem f99_eq (n : Nat) (a0 a1 : AV) (H : Heap) (k : AV → Heap → Option β) : evalFn E0 (n + 1) β 99 [a0, a1] H k = f99 (PR n β) n a0 a1 H k := f99_body (PR n β) n a0 a1 H k
theorem f60_eq (n : Nat) (a0 a1 : AV) (H : Heap) (k : AV → Heap → Option β) : evalFn E0 (n + 1) β 60 [a0, a1] H k = f60 (PR n β) n a0 a1 H k := f60_body (PR n β) n a0 a1 H k
theorem f22_eq (n : Nat) (a0 a1 : AV) (H : Heap) (k : AV → Heap → Option β) : evalFn E0 (n + 1) β 22 [a0, a1] H k = f22 (PR n β) n a0 a1 H k := f22_body (PR n β) n a0 a1 H k
theorem f100_eq (n : Nat) (a0 : AV) (H : Heap) (k : AV → Heap → Option β) : evalFn E0 (n + 1) β 100 [a0] H k = f100 (PR n β) n a0 H k := f100_body (PR n β) n a0 H k
theorem f62_eq (n : Nat) (a0 : AV) (H : Heap) (k : AV → Heap → Option β) : evalFn E0 (n + 1) β 62 [a0] H k = f62 (PR n β) n a0 H k := f62_body (PR n β) n a0 H k
theorem f24_eq (n : Nat) (a0 : AV) (H : Heap) (k : AV → Heap → Option β) : evalFn E0 (n + 1) β 24 [a0] H k = f24 (PR n β) n a0 H k := f24_body (PR n β) n a0 H k
theorem f61_eq (n : Nat) (a0 : AV) (H : Heap) (k : AV → Heap → Option β) : evalFn E0 (n + 1) β 61 [a0] H k = f61 (PR n β) n a0 H k := f61_body (PR n β) n a0 H k
theorem f23_eq (n : Nat) (a0 : AV) (H : Heap) (k : AV → Heap → Option β) : evalFn E0 (n + 1) β 23 [a0] H k = f23 (PR n β) n a0 H k := f23_body (PR n β) n a0 H k
theorem f63_eq (n : Nat) (a0 : AV) (H : Heap) (k : AV → Heap → Option β) : evalFn E0 (n + 1) β 63 [a0] H k = f63 (PR n β) n a0 H k := f63_body (PR n β) n a0 H k
theorem f102_eq (n : Nat) (a0 a1 : AV) (H : Heap) (k : AV → Heap → Option β) : evalFn E0 (n + 1) β 102 [a0, a1] H k = f102 (PR n β) n a0 a1 H k := f102_body (PR n β) n a0 a1 H k
theorem f101_eq (n : Nat) (a0 a1 : AV) (H : Heap) (k : AV → Heap → Option β) : evalFn E0 (n + 1) β 101 [a0, a1] H k = f101 (PR n β) n a0 a1 H k := f101_body (PR n β) n a0 a1 H k
theorem f64_eq (n : Nat) (a0 a1 : AV) (H : Heap) (k : AV → Heap → Option β) : evalFn E0 (n + 1) β 64 [a0, a1] H k = f64 (PR n β) n a0 a1 H k := f64_body (PR n β) n a0 a1 H k
theorem f66_eq (n : Nat) (a0 : AV) (H : Heap) (k : AV → Heap → Option β) : evalFn E0 (n + 1) β 66 [a0] H k = f66 (PR n β) n a0 H k := f66_body (PR n β) n a0 H k
theorem f25_eq (n : Nat) (a0 : AV) (H : Heap) (k : AV → Heap → Option β) : evalFn E0 (n + 1) β 25 [a0] H k = f25 (PR n β) n a0 H k := f25_body (PR n β) n a0 H k
theorem f103_eq (n : Nat) (a0 a1 : AV) (H : Heap) (k : AV → Heap → Option β) : evalFn E0 (n + 1) β 103 [a0, a1] H k = f103 (PR n β) n a0 a1 H k := f103_body (PR n β) n a0 a1 H k
theorem f67_eq (n : Nat) (a0 a1 : AV) (H : Heap) (k : AV → Heap → Option β) : evalFn E0 (n + 1) β 67 [a0, a1] H k = f67 (PR n β) n a0 a1 H k := f67_body (PR n β) n a0 a1 H k
theorem f26_eq (n : Nat) (a0 a1 : AV) (H : Heap) (k : AV → Heap → Option β) : evalFn E0 (n + 1) β 26 [a0, a1] H k = f26 (PR n β) n a0 a1 H k := f26_body (PR n β) n a0 a1 H k
theorem f5_eq (n : Nat) (a0 : AV) (H : Heap) (k : AV → Heap → Option β) : evalFn E0 (n + 1) β 5 [a0] H k = f5 (PR n β) n a0 H k := f5_body (PR n β) n a0 H k
theorem f27_eq (n : Nat) (a0 : AV) (H : Heap) (k : AV → Heap → Option β) : evalFn E0 (n + 1) β 27 [a0] H k = f27 (PR n β) n a0 H k := f27_body (PR n β) n a0 H k
theorem f28_eq (n : Nat) (a0 : AV) (H : Heap) (k : AV → Heap → Option β) : evalFn E0 (n + 1) β 28 [a0] H k = f28 (PR n β) n a0 H k := f28_body (PR n β) n a0 H k
theorem f6_eq (n : Nat) (a0 : AV) (H : Heap) (k : AV → Heap → Option β) : evalFn E0 (n + 1) β 6 [a0] H k = f6 (PR n β) n a0 H k := f6_body (PR n β) n a0 H k
theorem f68_eq (n : Nat) (a0 a1 : AV) (H : Heap) (k : AV → Heap → Option β) : evalFn E0 (n + 1) β 68 [a0, a1] H k = f68 (PR n β) n a0 a1 H k := f68_body (PR n β) n a0 a1 H k
theorem f29_eq (n : Nat) (a0 a1 : AV) (H : Heap) (k : AV → Heap → Option β) : evalFn E0 (n + 1) β 29 [a0, a1] H k = f29 (PR n β) n a0 a1 H k := f29_body (PR n β) n a0 a1 H k
theorem f71_eq (n : Nat) (a0 : AV) (H : Heap) (k : AV → Heap → Option β) : evalFn E0 (n + 1) β 71 [a0] H k = f71 (PR n β) n a0 H k := f71_body (PR n β) n a0 H k
theorem f31_eq (n : Nat) (a0 : AV) (H : Heap) (k : AV → Heap → Option β) : evalFn E0 (n + 1) β 31 [a0] H k = f31 (PR n β) n a0 H k := f31_body (PR n β) n a0 H k
theorem f70_eq (n : Nat) (a0 : AV) (H : Heap) (k : AV → Heap → Option β) : evalFn E0 (n + 1) β 70 [a0] H k = f70 (PR n β) n a0 H k := f70_body (PR n β) n a0 H k
theorem f30_eq (n : Nat) (a0 : AV) (H : Heap) (k : AV → Heap → Option β) : evalFn E0 (n + 1) β 30 [a0] H k = f30 (PR n β) n a0 H k := f30_body (PR n β) n a0 H k
theorem f72_eq (n : Nat) (a0 : AV) (H : Heap) (k : AV → Heap → Option β) : evalFn E0 (n + 1) β 72 [a0] H k = f72 (PR n β) n a0 H k := f72_body (PR n β) n a0 H k
theorem f73_eq (n : Nat) (a0 a1 a2 : AV) (H : Heap) (k : AV → Heap → Option β) : evalFn E0 (n + 1) β 73 [a0, a1, a2] H k = f73 (PR n β) n a0 a1 a2 H k := f73_body (PR n β) n a0 a1 a2 H k
theorem f74_eq (n : Nat) (a0 : AV) (H : Heap) (k : AV → Heap → Option β) : evalFn E0 (n + 1) β 74 [a0] H k = f74 (PR n β) n a0 H k := f74_body (PR n β) n a0 H k
theorem f32_eq (n : Nat) (a0 : AV) (H : Heap) (k : AV → Heap → Option β) : evalFn E0 (n + 1) β 32 [a0] H k = f32 (PR n β) n a0 H k := f32_body (PR n β) n a0 H k
theorem f75_eq (n : Nat) (a0 a1 : AV) (H : Heap) (k : AV → Heap → Option β) : evalFn E0 (n + 1) β 75 [a0, a1] H k = f75 (PR n β) n a0 a1 H k := f75_body (PR n β) n a0 a1 H k
theorem f33_eq (n : Nat) (a0 a1 : AV) (H : Heap) (k : AV → Heap → Option β) : evalFn E0 (n + 1) β 33 [a0, a1] H k = f33 (PR n β) n a0 a1 H k := f33_body (PR n β) n a0 a1 H k
theorem f7_eq (n : Nat) (a0 : AV) (H : Heap) (k : AV → Heap → Option β) : evalFn E0 (n + 1) β 7 [a0] H k = f7 (PR n β) n a0 H k := f7_body (PR n β) n a0 H k
theorem f76_eq (n : Nat) (a0 a1 : AV) (H : Heap) (k : AV → Heap → Option β) : evalFn E0 (n + 1) β 76 [a0, a1] H k = f76 (PR n β) n a0 a1 H k := f76_body (PR n β) n a0 a1 H k
theorem f34_eq (n : Nat) (a0 a1 : AV) (H : Heap) (k : AV → Heap → Option β) : evalFn E0 (n + 1) β 34 [a0, a1] H k = f34 (PR n β) n a0 a1 H k := f34_body (PR n β) n a0 a1 H k
theorem f78_eq (n : Nat) (a0 : AV) (H : Heap) (k : AV → Heap → Option β) : evalFn E0 (n + 1) β 78 [a0] H k = f78 (PR n β) n a0 H k := f78_body (PR n β) n a0 H k
theorem f36_eq (n : Nat) (a0 : AV) (H : Heap) (k : AV → Heap → Option β) : evalFn E0 (n + 1) β 36 [a0] H k = f36 (PR n β) n a0 H k := f36_body (PR n β) n a0 H k
theorem f77_eq (n : Nat) (a0 : AV) (H : Heap) (k : AV → Heap → Option β) : evalFn E0 (n + 1) β 77 [a0] H k = f77 (PR n β) n a0 H k := f77_body (PR n β) n a0 H k
theorem f35_eq (n : Nat) (a0 a1 : AV) (H : Heap) (k : AV → Heap → Option β) : evalFn E0 (n + 1) β 35 [a0, a1] H k = f35 (PR n β) n a0 a1 H k := f35_body (PR n β) n a0 a1 H k
theorem f79_eq (n : Nat) (a0 : AV) (H : Heap) (k : AV → Heap → Option β) : evalFn E0 (n + 1) β 79 [a0] H k = f79 (PR n β) n a0 H k := f79_body (PR n β) n a0 H k
theorem f37_eq (n : Nat) (a0 a1 : AV) (H : Heap) (k : AV → Heap → Option β) : evalFn E0 (n + 1) β 37 [a0, a1] H k = f37 (PR n β) n a0 a1 H k := f37_body (PR n β) n a0 a1 H k
theorem f80_eq (n : Nat) (a0 a1 : AV) (H : Heap) (k : AV → Heap → Option β) : evalFn E0 (n + 1) β 80 [a0, a1] H k = f80 (PR n β) n a0 a1 H k := f80_body (PR n β) n a0 a1 H k
theorem f38_eq (n : Nat) (a0 a1 : AV) (H : Heap) (k : AV → Heap → Option β) : evalFn E0 (n + 1) β 38 [a0, a1] H k = f38 (PR n β) n a0 a1 H k := f38_body (PR n β) n a0 a1 H k
theorem f8_eq (n : Nat) (a0 a1 : AV) (H : Heap) (k : AV → Heap → Option β) : evalFn E0 (n + 1) β 8 [a0, a1] H k = f8 (PR n β) n a0 a1 H k := f8_body (PR n β) n a0 a1 H k
end Go.Proofs.YtpcgppelelfmiaaDoor.Abs
