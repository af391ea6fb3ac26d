/- The program's functions as plain functions over abstract values, part 2 (written by gen.py). -/
import Derived.Test.YtgidofkechabbaaFnsA
set_option linter.unusedVariables false
set_option linter.unusedSimpArgs false
set_option maxRecDepth 100000
namespace Go.Proofs.Ytgidofkechabbaa.Abs
open Go
variable {β : Type}

/-! 42 loop.example/g00480/spec.Mine -/
noncomputable def f42 (p : Pr β) (n : Nat) (a0 a1 a2 : AV) (H : Heap) (k : AV → Heap → Option β) : Option β :=
  p.box a0 H fun t3 H =>
  p.fadr 3 t3 fun t7 =>
  p.load false 1 t7 H fun t8 =>
  p.bin .eql t8 a1 fun t10 =>
  p.guard t10 true H (fun k' => p.fadr 4 t3 fun t' => k' t' H) fun t12 H =>
  p.guard t10 true H (fun k' => p.load false 1 t12 H fun t' => k' t' H) fun t13 H =>
  p.guard t10 true H (fun k' => k' a2 H) fun t14 H =>
  p.guard t10 true H (fun k' => p.bin .eql t13 t14 fun t' => k' t' H) fun t15 H =>
  p.pick t10 t15 (.sc (.bool false)) fun t16 =>
  k t16 H
theorem f42_body (p : Pr β) (n : Nat) (a0 a1 a2 : AV) (H : Heap) (k : AV → Heap → Option β) : evalBody ti0 p n ⟨c42, 17, Go.Proofs.Try.f42.results.toList, o42⟩ [a0, a1, a2] H k = f42 p n a0 a1 a2 H k := by kernel_rfl

/-! 44 loop.example/g00480/impl.Mine -/
noncomputable def f44 (p : Pr β) (n : Nat) (a0 a1 a2 : AV) (H : Heap) (k : AV → Heap → Option β) : Option β :=
  p.box a0 H fun t3 H =>
  p.fadr 3 t3 fun t7 =>
  p.load false 1 t7 H fun t8 =>
  p.bin .eql t8 a1 fun t10 =>
  p.guard t10 true H (fun k' => p.fadr 4 t3 fun t' => k' t' H) fun t12 H =>
  p.guard t10 true H (fun k' => p.load false 1 t12 H fun t' => k' t' H) fun t13 H =>
  p.guard t10 true H (fun k' => k' a2 H) fun t14 H =>
  p.guard t10 true H (fun k' => p.bin .eql t13 t14 fun t' => k' t' H) fun t15 H =>
  p.pick t10 t15 (.sc (.bool false)) fun t16 =>
  k t16 H
theorem f44_body (p : Pr β) (n : Nat) (a0 a1 a2 : AV) (H : Heap) (k : AV → Heap → Option β) : evalBody ti0 p n ⟨c44, 17, Go.Proofs.Try.f44.results.toList, o44⟩ [a0, a1, a2] H k = f44 p n a0 a1 a2 H k := by kernel_rfl

/-! 79 loop.example/g00480/laws.eqFlight -/
noncomputable def f79 (p : Pr β) (n : Nat) (a0 a1 : AV) (H : Heap) (k : AV → Heap → Option β) : Option β :=
  p.box a0 H fun t2 H =>
  p.box a1 H fun t3 H =>
  p.fadr 0 t2 fun t5 =>
  p.load false 1 t5 H fun t6 =>
  p.fadr 0 t3 fun t7 =>
  p.load false 1 t7 H fun t8 =>
  p.bin .neq t6 t8 fun t9 =>
  p.cond t9
  (k (.sc (.bool false)) H)
  (p.fadr 1 t2 fun t10 =>
  p.load true 4 t10 H fun t11 =>
  p.fadr 1 t3 fun t12 =>
  p.load true 4 t12 H fun t13 =>
  p.call 4 (.fn 23 [] []) [t11, t13] H fun t14 H =>
  p.un .not t14 fun t15 =>
  p.cond t15
  (k (.sc (.bool false)) H)
  (p.fadr 5 t2 fun t16 =>
  p.load false 1 t16 H fun t17 =>
  p.fadr 5 t3 fun t18 =>
  p.load false 1 t18 H fun t19 =>
  p.bin .neq t17 t19 fun t20 =>
  p.cond t20
  (k (.sc (.bool false)) H)
  (k (.sc (.bool true)) H)))
theorem f79_body (p : Pr β) (n : Nat) (a0 a1 : AV) (H : Heap) (k : AV → Heap → Option β) : evalBody ti0 p n ⟨c79, 21, Go.Proofs.Try.f79.results.toList, o79⟩ [a0, a1] H k = f79 p n a0 a1 H k := by kernel_rfl

/-! 74 loop.example/g00480/laws.eqFlightS -/
noncomputable def f74_l0 (p : Pr β) (n : Nat)  (k : AV → Heap → Option β) : Nat → AV → AV → AV → Heap → Option β
  | 0, _, _, _, _ => none
  | m + 1, t0, t1, t5, H => p.len t0 fun t13 =>
      p.bin .lss t5 t13 fun t14 =>
      p.cond t14
      (p.iadr 6 t0 t5 fun t19 =>
      p.load true 6 t19 H fun t20 =>
      p.iadr 6 t1 t5 fun t23 =>
      p.load true 6 t23 H fun t24 =>
      p.call 4 (.fn 79 [] []) [t20, t24] H fun t25 H =>
      p.un .not t25 fun t26 =>
      p.cond t26
      (k (.sc (.bool false)) H)
      (p.bin .add t5 (.sc (.int .i64 1)) fun t16 =>
      f74_l0 p n  k m t0 t1 t16 H))
      (k (.sc (.bool true)) H)
noncomputable def f74 (p : Pr β) (n : Nat) (a0 a1 : AV) (H : Heap) (k : AV → Heap → Option β) : Option β :=
  p.len a0 fun t7 =>
  p.len a1 fun t9 =>
  p.bin .neq t7 t9 fun t10 =>
  p.cond t10
  (k (.sc (.bool false)) H)
  (f74_l0 p n  k n a0 a1 (.sc (.int .i64 0)) H)
noncomputable def f74_L0 (p : Pr β) (n : Nat)  (k : AV → Heap → Option β) (m : Nat) (tm : Tm) (H : Heap) : Option β :=
  iterC 27 (fun tm H k => evalCode ti0 p o74 27 n (cd c74 [1, 1, 0, 1, 0, 0]) tm H k) (blkK 0 (seqK (fun tm H => evalCode ti0 p o74 27 n (cd c74 [1, 1, 1]) tm H (endK ti0 p Go.Proofs.Try.f74.results.toList k)) (endK ti0 p Go.Proofs.Try.f74.results.toList k))) m tm H
theorem f74_L0_step (p : Pr β) (n : Nat)  (k : AV → Heap → Option β) (m0 : Nat) (t0 t1 t2 t3 t4 t5 t6 t7 t8 t9 t10 t11 t12 t13 t14 t15 t16 t17 t18 t19 t20 t21 t22 t23 t24 t25 t26 : AV) (H : Heap) : f74_L0 p n  k (m0 + 1) [(0, t0), (1, t1), (2, t2), (3, t3), (4, t4), (5, t5), (6, t6), (7, t7), (8, t8), (9, t9), (10, t10), (11, t11), (12, t12), (13, t13), (14, t14), (15, t15), (16, t16), (17, t17), (18, t18), (19, t19), (20, t20), (21, t21), (22, t22), (23, t23), (24, t24), (25, t25), (26, t26)] H =
  p.len t0 fun t13 =>
  p.bin .lss t5 t13 fun t14 =>
  p.cond t14
  (p.iadr 6 t0 t5 fun t19 =>
  p.load true 6 t19 H fun t20 =>
  p.iadr 6 t1 t5 fun t23 =>
  p.load true 6 t23 H fun t24 =>
  p.call 4 (.fn 79 [] []) [t20, t24] H fun t25 H =>
  p.un .not t25 fun t26 =>
  p.cond t26
  (k (.sc (.bool false)) H)
  (p.bin .add t5 (.sc (.int .i64 1)) fun t16 =>
  f74_L0 p n  k m0 [(0, t0), (1, t1), (2, t2), (3, t3), (4, t4), (5, t16), (6, t6), (7, t7), (8, t8), (9, t9), (10, t10), (11, t5), (12, t0), (13, t13), (14, t14), (15, t5), (16, t16), (17, t0), (18, t5), (19, t19), (20, t20), (21, t1), (22, t5), (23, t23), (24, t24), (25, t25), (26, t26)] H))
  (k (.sc (.bool true)) H) := by kernel_rfl
theorem f74_l0_eq (p : Pr β) (n : Nat)  (k : AV → Heap → Option β)   (m0 : Nat) : ∀ (t0 t1 t2 t3 t4 t5 t6 t7 t8 t9 t10 t11 t12 t13 t14 t15 t16 t17 t18 t19 t20 t21 t22 t23 t24 t25 t26 : AV) (H : Heap), f74_L0 p n  k m0 [(0, t0), (1, t1), (2, t2), (3, t3), (4, t4), (5, t5), (6, t6), (7, t7), (8, t8), (9, t9), (10, t10), (11, t11), (12, t12), (13, t13), (14, t14), (15, t15), (16, t16), (17, t17), (18, t18), (19, t19), (20, t20), (21, t21), (22, t22), (23, t23), (24, t24), (25, t25), (26, t26)] H = f74_l0 p n  k m0 t0 t1 t5 H := by
  induction m0 with
  | zero => intros; rfl
  | succ m0 ih =>
    intro t0 t1 t2 t3 t4 t5 t6 t7 t8 t9 t10 t11 t12 t13 t14 t15 t16 t17 t18 t19 t20 t21 t22 t23 t24 t25 t26 H
    rw [f74_L0_step]
    simp only [ih]
    rfl
theorem f74_raw (p : Pr β) (n : Nat) (a0 a1 : AV) (H : Heap) (k : AV → Heap → Option β) : evalBody ti0 p n ⟨c74, 27, Go.Proofs.Try.f74.results.toList, o74⟩ [a0, a1] H k =
  p.len a0 fun t7 =>
  p.len a1 fun t9 =>
  p.bin .neq t7 t9 fun t10 =>
  p.cond t10
  (k (.sc (.bool false)) H)
  (f74_L0 p n  k n [(0, a0), (1, a1), (2, (.sc undef)), (3, (.sc undef)), (4, (.sc (.bool false))), (5, (.sc (.int .i64 0))), (6, a0), (7, t7), (8, a1), (9, t9), (10, t10), (11, (.sc undef)), (12, (.sc undef)), (13, (.sc undef)), (14, (.sc undef)), (15, (.sc undef)), (16, (.sc undef)), (17, (.sc undef)), (18, (.sc undef)), (19, (.sc undef)), (20, (.sc undef)), (21, (.sc undef)), (22, (.sc undef)), (23, (.sc undef)), (24, (.sc undef)), (25, (.sc undef)), (26, (.sc undef))] H) := by kernel_rfl
theorem f74_body (p : Pr β) (n : Nat) (a0 a1 : AV) (H : Heap) (k : AV → Heap → Option β) : evalBody ti0 p n ⟨c74, 27, Go.Proofs.Try.f74.results.toList, o74⟩ [a0, a1] H k = f74 p n a0 a1 H k := by
  rw [f74_raw]
  simp only [f74_l0_eq]
  rfl

/-! 68 loop.example/g00480/laws.eqOut -/
noncomputable def f68 (p : Pr β) (n : Nat) (a0 a1 : AV) (H : Heap) (k : AV → Heap → Option β) : Option β :=
  p.box a0 H fun t2 H =>
  p.box a1 H fun t3 H =>
  p.fadr 0 t2 fun t5 =>
  p.load false 1 t5 H fun t6 =>
  p.fadr 0 t3 fun t7 =>
  p.load false 1 t7 H fun t8 =>
  p.bin .neq t6 t8 fun t9 =>
  p.cond t9
  (k (.sc (.bool false)) H)
  (p.fadr 1 t2 fun t10 =>
  p.load false 1 t10 H fun t11 =>
  p.fadr 1 t3 fun t12 =>
  p.load false 1 t12 H fun t13 =>
  p.call 4 (.fn 74 [] []) [t11, t13] H fun t14 H =>
  p.un .not t14 fun t15 =>
  p.cond t15
  (k (.sc (.bool false)) H)
  (p.fadr 2 t2 fun t16 =>
  p.load false 1 t16 H fun t17 =>
  p.fadr 2 t3 fun t18 =>
  p.load false 1 t18 H fun t19 =>
  p.call 4 (.fn 34 [] []) [t17, t19] H fun t20 H =>
  p.un .not t20 fun t21 =>
  p.cond t21
  (k (.sc (.bool false)) H)
  (k (.sc (.bool true)) H)))
theorem f68_body (p : Pr β) (n : Nat) (a0 a1 : AV) (H : Heap) (k : AV → Heap → Option β) : evalBody ti0 p n ⟨c68, 22, Go.Proofs.Try.f68.results.toList, o68⟩ [a0, a1] H k = f68 p n a0 a1 H k := by kernel_rfl

/-! 45 loop.example/g00480/laws.eqSess -/
noncomputable def f45 (p : Pr β) (n : Nat) (a0 a1 : AV) (H : Heap) (k : AV → Heap → Option β) : Option β :=
  p.box a0 H fun t2 H =>
  p.box a1 H fun t3 H =>
  p.fadr 0 t2 fun t5 =>
  p.load false 1 t5 H fun t6 =>
  p.fadr 0 t3 fun t7 =>
  p.load false 1 t7 H fun t8 =>
  p.bin .neq t6 t8 fun t9 =>
  p.cond t9
  (k (.sc (.bool false)) H)
  (p.fadr 1 t2 fun t10 =>
  p.load false 1 t10 H fun t11 =>
  p.fadr 1 t3 fun t12 =>
  p.load false 1 t12 H fun t13 =>
  p.bin .neq t11 t13 fun t14 =>
  p.cond t14
  (k (.sc (.bool false)) H)
  (p.fadr 2 t2 fun t15 =>
  p.load false 1 t15 H fun t16 =>
  p.fadr 2 t3 fun t17 =>
  p.load false 1 t17 H fun t18 =>
  p.binB .neq t16 t18 fun t19 =>
  p.cond t19
  (k (.sc (.bool false)) H)
  (p.fadr 3 t2 fun t20 =>
  p.load false 1 t20 H fun t21 =>
  p.fadr 3 t3 fun t22 =>
  p.load false 1 t22 H fun t23 =>
  p.bin .neq t21 t23 fun t24 =>
  p.cond t24
  (k (.sc (.bool false)) H)
  (p.fadr 4 t2 fun t25 =>
  p.load false 1 t25 H fun t26 =>
  p.fadr 4 t3 fun t27 =>
  p.load false 1 t27 H fun t28 =>
  p.bin .neq t26 t28 fun t29 =>
  p.cond t29
  (k (.sc (.bool false)) H)
  (p.fadr 5 t2 fun t30 =>
  p.load true 3 t30 H fun t31 =>
  p.fadr 5 t3 fun t32 =>
  p.load true 3 t32 H fun t33 =>
  p.call 4 (.fn 68 [] []) [t31, t33] H fun t34 H =>
  p.un .not t34 fun t35 =>
  p.cond t35
  (k (.sc (.bool false)) H)
  (p.fadr 8 t2 fun t36 =>
  p.load false 1 t36 H fun t37 =>
  p.fadr 8 t3 fun t38 =>
  p.load false 1 t38 H fun t39 =>
  p.call 4 (.fn 18 [] []) [t37, t39] H fun t40 H =>
  p.un .not t40 fun t41 =>
  p.cond t41
  (k (.sc (.bool false)) H)
  (k (.sc (.bool true)) H)))))))
theorem f45_body (p : Pr β) (n : Nat) (a0 a1 : AV) (H : Heap) (k : AV → Heap → Option β) : evalBody ti0 p n ⟨c45, 42, Go.Proofs.Try.f45.results.toList, o45⟩ [a0, a1] H k = f45 p n a0 a1 H k := by kernel_rfl

/-! 10 loop.example/g00480/laws.FnExactMine -/
noncomputable def f10 (p : Pr β) (n : Nat) (a0 a1 a2 : AV) (H : Heap) (k : AV → Heap → Option β) : Option β :=
  p.box a0 H fun t3 H =>
  p.load true 9 t3 H fun t11 =>
  p.call 3 (.fn 41 [] []) [t11, (.sc (.int .i64 1048576))] H fun t13 H =>
  p.bin .lss t13 (.sc (.int .i64 0)) fun t15 =>
  p.cond t15
  (k (.sc (.bool true)) H)
  (p.load true 9 t3 H fun t16 =>
  p.call 67 (.fn 43 [] []) [t16] H fun t17 H =>
  p.call 4 (.fn 42 [] []) [t17, a1, a2] H fun t20 H =>
  p.load true 9 t3 H fun t21 =>
  p.call 67 (.fn 43 [] []) [t21] H fun t22 H =>
  p.new [(.sc (.string ⟨#[]⟩)), (.sc (.int .i64 0)), (.sc (.bool false)), (.sc (.int .i64 0)), (.sc (.int .i64 0)), (.sc (.int .i64 0)), .nl, .nl, .nl] H fun t9 H =>
  p.store 9 t9 t22 H fun H =>
  p.load true 9 t9 H fun t23 =>
  p.call 4 (.fn 44 [] []) [t23, a1, a2] H fun t26 H =>
  p.binB .neq t26 t20 fun t29 =>
  p.cond t29
  (k (.sc (.bool false)) H)
  (p.load true 9 t9 H fun t30 =>
  p.load true 9 t3 H fun t31 =>
  p.call 67 (.fn 43 [] []) [t31] H fun t32 H =>
  p.call 4 (.fn 45 [] []) [t30, t32] H fun t33 H =>
  p.un .not t33 fun t34 =>
  p.cond t34
  (k (.sc (.bool false)) H)
  (k (.sc (.bool true)) H)))
theorem f10_body (p : Pr β) (n : Nat) (a0 a1 a2 : AV) (H : Heap) (k : AV → Heap → Option β) : evalBody ti0 p n ⟨c10, 35, Go.Proofs.Try.f10.results.toList, o10⟩ [a0, a1, a2] H k = f10 p n a0 a1 a2 H k := by kernel_rfl

noncomputable def fss : List (Option FnI) := [none, none, some ⟨c2, 1, Go.Proofs.Try.f2.results.toList, o2⟩, some ⟨c3, 15, Go.Proofs.Try.f3.results.toList, o3⟩, some ⟨c4, 16, Go.Proofs.Try.f4.results.toList, o4⟩, some ⟨c5, 24, Go.Proofs.Try.f5.results.toList, o5⟩, some ⟨c6, 45, Go.Proofs.Try.f6.results.toList, o6⟩, some ⟨c7, 108, Go.Proofs.Try.f7.results.toList, o7⟩, some ⟨c8, 45, Go.Proofs.Try.f8.results.toList, o8⟩, some ⟨c9, 133, Go.Proofs.Try.f9.results.toList, o9⟩, some ⟨c10, 35, Go.Proofs.Try.f10.results.toList, o10⟩, some ⟨c11, 19, Go.Proofs.Try.f11.results.toList, o11⟩, some ⟨c12, 19, Go.Proofs.Try.f12.results.toList, o12⟩, some ⟨c13, 41, Go.Proofs.Try.f13.results.toList, o13⟩, some ⟨c14, 41, Go.Proofs.Try.f14.results.toList, o14⟩, some ⟨c15, 35, Go.Proofs.Try.f15.results.toList, o15⟩, some ⟨c16, 22, Go.Proofs.Try.f16.results.toList, o16⟩, some ⟨c17, 32, Go.Proofs.Try.f17.results.toList, o17⟩, some ⟨c18, 26, Go.Proofs.Try.f18.results.toList, o18⟩, some ⟨c19, 19, Go.Proofs.Try.f19.results.toList, o19⟩, some ⟨c20, 31, Go.Proofs.Try.f20.results.toList, o20⟩, some ⟨c21, 18, Go.Proofs.Try.f21.results.toList, o21⟩, some ⟨c22, 31, Go.Proofs.Try.f22.results.toList, o22⟩, some ⟨c23, 26, Go.Proofs.Try.f23.results.toList, o23⟩, some ⟨c24, 6, Go.Proofs.Try.f24.results.toList, o24⟩, some ⟨c25, 12, Go.Proofs.Try.f25.results.toList, o25⟩, some ⟨c26, 40, Go.Proofs.Try.f26.results.toList, o26⟩, some ⟨c27, 13, Go.Proofs.Try.f27.results.toList, o27⟩, some ⟨c28, 23, Go.Proofs.Try.f28.results.toList, o28⟩, some ⟨c29, 23, Go.Proofs.Try.f29.results.toList, o29⟩, some ⟨c30, 27, Go.Proofs.Try.f30.results.toList, o30⟩, some ⟨c31, 33, Go.Proofs.Try.f31.results.toList, o31⟩, some ⟨c32, 23, Go.Proofs.Try.f32.results.toList, o32⟩, some ⟨c33, 21, Go.Proofs.Try.f33.results.toList, o33⟩, some ⟨c34, 27, Go.Proofs.Try.f34.results.toList, o34⟩, some ⟨c35, 17, Go.Proofs.Try.f35.results.toList, o35⟩, some ⟨c36, 18, Go.Proofs.Try.f36.results.toList, o36⟩, some ⟨c37, 44, Go.Proofs.Try.f37.results.toList, o37⟩, some ⟨c38, 10, Go.Proofs.Try.f38.results.toList, o38⟩, some ⟨c39, 52, Go.Proofs.Try.f39.results.toList, o39⟩, some ⟨c40, 12, Go.Proofs.Try.f40.results.toList, o40⟩, some ⟨c41, 25, Go.Proofs.Try.f41.results.toList, o41⟩, some ⟨c42, 17, Go.Proofs.Try.f42.results.toList, o42⟩, some ⟨c43, 28, Go.Proofs.Try.f43.results.toList, o43⟩, some ⟨c44, 17, Go.Proofs.Try.f44.results.toList, o44⟩, some ⟨c45, 42, Go.Proofs.Try.f45.results.toList, o45⟩, some ⟨c46, 15, Go.Proofs.Try.f46.results.toList, o46⟩, some ⟨c47, 15, Go.Proofs.Try.f47.results.toList, o47⟩, some ⟨c48, 5, Go.Proofs.Try.f48.results.toList, o48⟩, some ⟨c49, 12, Go.Proofs.Try.f49.results.toList, o49⟩, some ⟨c50, 10, Go.Proofs.Try.f50.results.toList, o50⟩, some ⟨c51, 22, Go.Proofs.Try.f51.results.toList, o51⟩, some ⟨c52, 10, Go.Proofs.Try.f52.results.toList, o52⟩, some ⟨c53, 26, Go.Proofs.Try.f53.results.toList, o53⟩, some ⟨c54, 32, Go.Proofs.Try.f54.results.toList, o54⟩, some ⟨c55, 12, Go.Proofs.Try.f55.results.toList, o55⟩, some ⟨c56, 19, Go.Proofs.Try.f56.results.toList, o56⟩, some ⟨c57, 5, Go.Proofs.Try.f57.results.toList, o57⟩, some ⟨c58, 8, Go.Proofs.Try.f58.results.toList, o58⟩, some ⟨c59, 21, Go.Proofs.Try.f59.results.toList, o59⟩, some ⟨c60, 14, Go.Proofs.Try.f60.results.toList, o60⟩, some ⟨c61, 20, Go.Proofs.Try.f61.results.toList, o61⟩, some ⟨c62, 20, Go.Proofs.Try.f62.results.toList, o62⟩, some ⟨c63, 20, Go.Proofs.Try.f63.results.toList, o63⟩, some ⟨c64, 22, Go.Proofs.Try.f64.results.toList, o64⟩, some ⟨c65, 18, Go.Proofs.Try.f65.results.toList, o65⟩, some ⟨c66, 12, Go.Proofs.Try.f66.results.toList, o66⟩, some ⟨c67, 16, Go.Proofs.Try.f67.results.toList, o67⟩, some ⟨c68, 22, Go.Proofs.Try.f68.results.toList, o68⟩, some ⟨c69, 31, Go.Proofs.Try.f69.results.toList, o69⟩, some ⟨c70, 32, Go.Proofs.Try.f70.results.toList, o70⟩, some ⟨c71, 9, Go.Proofs.Try.f71.results.toList, o71⟩, some ⟨c72, 27, Go.Proofs.Try.f72.results.toList, o72⟩, some ⟨c73, 23, Go.Proofs.Try.f73.results.toList, o73⟩, some ⟨c74, 27, Go.Proofs.Try.f74.results.toList, o74⟩, some ⟨c75, 58, Go.Proofs.Try.f75.results.toList, o75⟩, some ⟨c76, 18, Go.Proofs.Try.f76.results.toList, o76⟩, some ⟨c77, 12, Go.Proofs.Try.f77.results.toList, o77⟩, some ⟨c78, 15, Go.Proofs.Try.f78.results.toList, o78⟩, some ⟨c79, 21, Go.Proofs.Try.f79.results.toList, o79⟩]
noncomputable def tps : List (Nat × List Nat) := [(38, [3, 25]), (40, [3, 4]), (42, [3, 3]), (51, [48, 34, 4])]
noncomputable def E0 : Env := { ti := ti0, tp := fun t => ordOf tps t, fs := fun f => (fss[f]?).getD none, ext := fun _ => none, hm := fun f => [37, 38, 63, 88, 89, 90, 91, 92].contains f }
noncomputable def PR (n : Nat) (β : Type) : Pr β := prims E0 (evalFn E0 n) β
theorem f2_eq (n : Nat)  (H : Heap) (k : AV → Heap → Option β) : evalFn E0 (n + 1) β 2 [] H k = f2 (PR n β) n  H k := f2_body (PR n β) n  H k
theorem f11_eq (n : Nat) (a0 : AV) (H : Heap) (k : AV → Heap → Option β) : evalFn E0 (n + 1) β 11 [a0] H k = f11 (PR n β) n a0 H k := f11_body (PR n β) n a0 H k
theorem f12_eq (n : Nat) (a0 : AV) (H : Heap) (k : AV → Heap → Option β) : evalFn E0 (n + 1) β 12 [a0] H k = f12 (PR n β) n a0 H k := f12_body (PR n β) n a0 H k
theorem f3_eq (n : Nat) (a0 : AV) (H : Heap) (k : AV → Heap → Option β) : evalFn E0 (n + 1) β 3 [a0] H k = f3 (PR n β) n a0 H k := f3_body (PR n β) n a0 H k
theorem f46_eq (n : Nat) (a0 a1 a2 : AV) (H : Heap) (k : AV → Heap → Option β) : evalFn E0 (n + 1) β 46 [a0, a1, a2] H k = f46 (PR n β) n a0 a1 a2 H k := f46_body (PR n β) n a0 a1 a2 H k
theorem f13_eq (n : Nat) (a0 a1 : AV) (H : Heap) (k : AV → Heap → Option β) : evalFn E0 (n + 1) β 13 [a0, a1] H k = f13 (PR n β) n a0 a1 H k := f13_body (PR n β) n a0 a1 H k
theorem f47_eq (n : Nat) (a0 a1 a2 : AV) (H : Heap) (k : AV → Heap → Option β) : evalFn E0 (n + 1) β 47 [a0, a1, a2] H k = f47 (PR n β) n a0 a1 a2 H k := f47_body (PR n β) n a0 a1 a2 H k
theorem f14_eq (n : Nat) (a0 a1 : AV) (H : Heap) (k : AV → Heap → Option β) : evalFn E0 (n + 1) β 14 [a0, a1] H k = f14 (PR n β) n a0 a1 H k := f14_body (PR n β) n a0 a1 H k
theorem f4_eq (n : Nat) (a0 a1 : AV) (H : Heap) (k : AV → Heap → Option β) : evalFn E0 (n + 1) β 4 [a0, a1] H k = f4 (PR n β) n a0 a1 H k := f4_body (PR n β) n a0 a1 H k
theorem f16_eq (n : Nat) (a0 : AV) (H : Heap) (k : AV → Heap → Option β) : evalFn E0 (n + 1) β 16 [a0] H k = f16 (PR n β) n a0 H k := f16_body (PR n β) n a0 H k
theorem f15_eq (n : Nat) (a0 : AV) (H : Heap) (k : AV → Heap → Option β) : evalFn E0 (n + 1) β 15 [a0] H k = f15 (PR n β) n a0 H k := f15_body (PR n β) n a0 H k
theorem f48_eq (n : Nat) (a0 : AV) (H : Heap) (k : AV → Heap → Option β) : evalFn E0 (n + 1) β 48 [a0] H k = f48 (PR n β) n a0 H k := f48_body (PR n β) n a0 H k
theorem f17_eq (n : Nat) (a0 : AV) (H : Heap) (k : AV → Heap → Option β) : evalFn E0 (n + 1) β 17 [a0] H k = f17 (PR n β) n a0 H k := f17_body (PR n β) n a0 H k
theorem f18_eq (n : Nat) (a0 a1 : AV) (H : Heap) (k : AV → Heap → Option β) : evalFn E0 (n + 1) β 18 [a0, a1] H k = f18 (PR n β) n a0 a1 H k := f18_body (PR n β) n a0 a1 H k
theorem f5_eq (n : Nat) (a0 : AV) (H : Heap) (k : AV → Heap → Option β) : evalFn E0 (n + 1) β 5 [a0] H k = f5 (PR n β) n a0 H k := f5_body (PR n β) n a0 H k
theorem f49_eq (n : Nat) (a0 a1 : AV) (H : Heap) (k : AV → Heap → Option β) : evalFn E0 (n + 1) β 49 [a0, a1] H k = f49 (PR n β) n a0 a1 H k := f49_body (PR n β) n a0 a1 H k
theorem f19_eq (n : Nat) (a0 a1 : AV) (H : Heap) (k : AV → Heap → Option β) : evalFn E0 (n + 1) β 19 [a0, a1] H k = f19 (PR n β) n a0 a1 H k := f19_body (PR n β) n a0 a1 H k
theorem f51_eq (n : Nat) (a0 : AV) (H : Heap) (k : AV → Heap → Option β) : evalFn E0 (n + 1) β 51 [a0] H k = f51 (PR n β) n a0 H k := f51_body (PR n β) n a0 H k
theorem f21_eq (n : Nat) (a0 : AV) (H : Heap) (k : AV → Heap → Option β) : evalFn E0 (n + 1) β 21 [a0] H k = f21 (PR n β) n a0 H k := f21_body (PR n β) n a0 H k
theorem f50_eq (n : Nat) (a0 a1 : AV) (H : Heap) (k : AV → Heap → Option β) : evalFn E0 (n + 1) β 50 [a0, a1] H k = f50 (PR n β) n a0 a1 H k := f50_body (PR n β) n a0 a1 H k
theorem f20_eq (n : Nat) (a0 a1 : AV) (H : Heap) (k : AV → Heap → Option β) : evalFn E0 (n + 1) β 20 [a0, a1] H k = f20 (PR n β) n a0 a1 H k := f20_body (PR n β) n a0 a1 H k
theorem f52_eq (n : Nat) (a0 a1 : AV) (H : Heap) (k : AV → Heap → Option β) : evalFn E0 (n + 1) β 52 [a0, a1] H k = f52 (PR n β) n a0 a1 H k := f52_body (PR n β) n a0 a1 H k
theorem f22_eq (n : Nat) (a0 a1 : AV) (H : Heap) (k : AV → Heap → Option β) : evalFn E0 (n + 1) β 22 [a0, a1] H k = f22 (PR n β) n a0 a1 H k := f22_body (PR n β) n a0 a1 H k
theorem f53_eq (n : Nat) (a0 a1 : AV) (H : Heap) (k : AV → Heap → Option β) : evalFn E0 (n + 1) β 53 [a0, a1] H k = f53 (PR n β) n a0 a1 H k := f53_body (PR n β) n a0 a1 H k
theorem f23_eq (n : Nat) (a0 a1 : AV) (H : Heap) (k : AV → Heap → Option β) : evalFn E0 (n + 1) β 23 [a0, a1] H k = f23 (PR n β) n a0 a1 H k := f23_body (PR n β) n a0 a1 H k
theorem f6_eq (n : Nat) (a0 a1 : AV) (H : Heap) (k : AV → Heap → Option β) : evalFn E0 (n + 1) β 6 [a0, a1] H k = f6 (PR n β) n a0 a1 H k := f6_body (PR n β) n a0 a1 H k
theorem f24_eq (n : Nat) (a0 : AV) (H : Heap) (k : AV → Heap → Option β) : evalFn E0 (n + 1) β 24 [a0] H k = f24 (PR n β) n a0 H k := f24_body (PR n β) n a0 H k
theorem f54_eq (n : Nat) (a0 : AV) (H : Heap) (k : AV → Heap → Option β) : evalFn E0 (n + 1) β 54 [a0] H k = f54 (PR n β) n a0 H k := f54_body (PR n β) n a0 H k
theorem f75_eq (n : Nat) (a0 : AV) (H : Heap) (k : AV → Heap → Option β) : evalFn E0 (n + 1) β 75 [a0] H k = f75 (PR n β) n a0 H k := f75_body (PR n β) n a0 H k
theorem f69_eq (n : Nat) (a0 a1 : AV) (H : Heap) (k : AV → Heap → Option β) : evalFn E0 (n + 1) β 69 [a0, a1] H k = f69 (PR n β) n a0 a1 H k := f69_body (PR n β) n a0 a1 H k
theorem f55_eq (n : Nat) (a0 a1 : AV) (H : Heap) (k : AV → Heap → Option β) : evalFn E0 (n + 1) β 55 [a0, a1] H k = f55 (PR n β) n a0 a1 H k := f55_body (PR n β) n a0 a1 H k
theorem f56_eq (n : Nat) (a0 : AV) (H : Heap) (k : AV → Heap → Option β) : evalFn E0 (n + 1) β 56 [a0] H k = f56 (PR n β) n a0 H k := f56_body (PR n β) n a0 H k
theorem f25_eq (n : Nat) (a0 : AV) (H : Heap) (k : AV → Heap → Option β) : evalFn E0 (n + 1) β 25 [a0] H k = f25 (PR n β) n a0 H k := f25_body (PR n β) n a0 H k
theorem f57_eq (n : Nat) (a0 : AV) (H : Heap) (k : AV → Heap → Option β) : evalFn E0 (n + 1) β 57 [a0] H k = f57 (PR n β) n a0 H k := f57_body (PR n β) n a0 H k
theorem f26_eq (n : Nat) (a0 a1 : AV) (H : Heap) (k : AV → Heap → Option β) : evalFn E0 (n + 1) β 26 [a0, a1] H k = f26 (PR n β) n a0 a1 H k := f26_body (PR n β) n a0 a1 H k
theorem f27_eq (n : Nat) (a0 : AV) (H : Heap) (k : AV → Heap → Option β) : evalFn E0 (n + 1) β 27 [a0] H k = f27 (PR n β) n a0 H k := f27_body (PR n β) n a0 H k
theorem f28_eq (n : Nat) (a0 a1 : AV) (H : Heap) (k : AV → Heap → Option β) : evalFn E0 (n + 1) β 28 [a0, a1] H k = f28 (PR n β) n a0 a1 H k := f28_body (PR n β) n a0 a1 H k
theorem f29_eq (n : Nat) (a0 a1 : AV) (H : Heap) (k : AV → Heap → Option β) : evalFn E0 (n + 1) β 29 [a0, a1] H k = f29 (PR n β) n a0 a1 H k := f29_body (PR n β) n a0 a1 H k
theorem f7_eq (n : Nat) (a0 : AV) (H : Heap) (k : AV → Heap → Option β) : evalFn E0 (n + 1) β 7 [a0] H k = f7 (PR n β) n a0 H k := f7_body (PR n β) n a0 H k
theorem f30_eq (n : Nat) (a0 a1 : AV) (H : Heap) (k : AV → Heap → Option β) : evalFn E0 (n + 1) β 30 [a0, a1] H k = f30 (PR n β) n a0 a1 H k := f30_body (PR n β) n a0 a1 H k
theorem f32_eq (n : Nat) (a0 : AV) (H : Heap) (k : AV → Heap → Option β) : evalFn E0 (n + 1) β 32 [a0] H k = f32 (PR n β) n a0 H k := f32_body (PR n β) n a0 H k
theorem f31_eq (n : Nat) (a0 a1 : AV) (H : Heap) (k : AV → Heap → Option β) : evalFn E0 (n + 1) β 31 [a0, a1] H k = f31 (PR n β) n a0 a1 H k := f31_body (PR n β) n a0 a1 H k
theorem f70_eq (n : Nat) (a0 a1 a2 : AV) (H : Heap) (k : AV → Heap → Option β) : evalFn E0 (n + 1) β 70 [a0, a1, a2] H k = f70 (PR n β) n a0 a1 a2 H k := f70_body (PR n β) n a0 a1 a2 H k
theorem f58_eq (n : Nat) (a0 a1 : AV) (H : Heap) (k : AV → Heap → Option β) : evalFn E0 (n + 1) β 58 [a0, a1] H k = f58 (PR n β) n a0 a1 H k := f58_body (PR n β) n a0 a1 H k
theorem f33_eq (n : Nat) (a0 a1 : AV) (H : Heap) (k : AV → Heap → Option β) : evalFn E0 (n + 1) β 33 [a0, a1] H k = f33 (PR n β) n a0 a1 H k := f33_body (PR n β) n a0 a1 H k
theorem f34_eq (n : Nat) (a0 a1 : AV) (H : Heap) (k : AV → Heap → Option β) : evalFn E0 (n + 1) β 34 [a0, a1] H k = f34 (PR n β) n a0 a1 H k := f34_body (PR n β) n a0 a1 H k
theorem f8_eq (n : Nat) (a0 a1 : AV) (H : Heap) (k : AV → Heap → Option β) : evalFn E0 (n + 1) β 8 [a0, a1] H k = f8 (PR n β) n a0 a1 H k := f8_body (PR n β) n a0 a1 H k
theorem f60_eq (n : Nat) (a0 : AV) (H : Heap) (k : AV → Heap → Option β) : evalFn E0 (n + 1) β 60 [a0] H k = f60 (PR n β) n a0 H k := f60_body (PR n β) n a0 H k
theorem f59_eq (n : Nat) (a0 : AV) (H : Heap) (k : AV → Heap → Option β) : evalFn E0 (n + 1) β 59 [a0] H k = f59 (PR n β) n a0 H k := f59_body (PR n β) n a0 H k
theorem f35_eq (n : Nat) (a0 : AV) (H : Heap) (k : AV → Heap → Option β) : evalFn E0 (n + 1) β 35 [a0] H k = f35 (PR n β) n a0 H k := f35_body (PR n β) n a0 H k
theorem f76_eq (n : Nat) (a0 : AV) (H : Heap) (k : AV → Heap → Option β) : evalFn E0 (n + 1) β 76 [a0] H k = f76 (PR n β) n a0 H k := f76_body (PR n β) n a0 H k
theorem f71_eq (n : Nat) (a0 : AV) (H : Heap) (k : AV → Heap → Option β) : evalFn E0 (n + 1) β 71 [a0] H k = f71 (PR n β) n a0 H k := f71_body (PR n β) n a0 H k
theorem f61_eq (n : Nat) (a0 : AV) (H : Heap) (k : AV → Heap → Option β) : evalFn E0 (n + 1) β 61 [a0] H k = f61 (PR n β) n a0 H k := f61_body (PR n β) n a0 H k
theorem f36_eq (n : Nat) (a0 : AV) (H : Heap) (k : AV → Heap → Option β) : evalFn E0 (n + 1) β 36 [a0] H k = f36 (PR n β) n a0 H k := f36_body (PR n β) n a0 H k
theorem f62_eq (n : Nat) (a0 : AV) (H : Heap) (k : AV → Heap → Option β) : evalFn E0 (n + 1) β 62 [a0] H k = f62 (PR n β) n a0 H k := f62_body (PR n β) n a0 H k
theorem f63_eq (n : Nat) (a0 a1 : AV) (H : Heap) (k : AV → Heap → Option β) : evalFn E0 (n + 1) β 63 [a0, a1] H k = f63 (PR n β) n a0 a1 H k := f63_body (PR n β) n a0 a1 H k
theorem f37_eq (n : Nat) (a0 a1 : AV) (H : Heap) (k : AV → Heap → Option β) : evalFn E0 (n + 1) β 37 [a0, a1] H k = f37 (PR n β) n a0 a1 H k := f37_body (PR n β) n a0 a1 H k
theorem f38_eq (n : Nat) (a0 a1 : AV) (H : Heap) (k : AV → Heap → Option β) : evalFn E0 (n + 1) β 38 [a0, a1] H k = f38 (PR n β) n a0 a1 H k := f38_body (PR n β) n a0 a1 H k
theorem f64_eq (n : Nat) (a0 a1 : AV) (H : Heap) (k : AV → Heap → Option β) : evalFn E0 (n + 1) β 64 [a0, a1] H k = f64 (PR n β) n a0 a1 H k := f64_body (PR n β) n a0 a1 H k
theorem f39_eq (n : Nat) (a0 a1 : AV) (H : Heap) (k : AV → Heap → Option β) : evalFn E0 (n + 1) β 39 [a0, a1] H k = f39 (PR n β) n a0 a1 H k := f39_body (PR n β) n a0 a1 H k
theorem f40_eq (n : Nat) (a0 a1 : AV) (H : Heap) (k : AV → Heap → Option β) : evalFn E0 (n + 1) β 40 [a0, a1] H k = f40 (PR n β) n a0 a1 H k := f40_body (PR n β) n a0 a1 H k
theorem f9_eq (n : Nat) (a0 : AV) (H : Heap) (k : AV → Heap → Option β) : evalFn E0 (n + 1) β 9 [a0] H k = f9 (PR n β) n a0 H k := f9_body (PR n β) n a0 H k
theorem f77_eq (n : Nat) (a0 a1 : AV) (H : Heap) (k : AV → Heap → Option β) : evalFn E0 (n + 1) β 77 [a0, a1] H k = f77 (PR n β) n a0 a1 H k := f77_body (PR n β) n a0 a1 H k
theorem f72_eq (n : Nat) (a0 a1 : AV) (H : Heap) (k : AV → Heap → Option β) : evalFn E0 (n + 1) β 72 [a0, a1] H k = f72 (PR n β) n a0 a1 H k := f72_body (PR n β) n a0 a1 H k
theorem f65_eq (n : Nat) (a0 a1 : AV) (H : Heap) (k : AV → Heap → Option β) : evalFn E0 (n + 1) β 65 [a0, a1] H k = f65 (PR n β) n a0 a1 H k := f65_body (PR n β) n a0 a1 H k
theorem f66_eq (n : Nat) (a0 a1 : AV) (H : Heap) (k : AV → Heap → Option β) : evalFn E0 (n + 1) β 66 [a0, a1] H k = f66 (PR n β) n a0 a1 H k := f66_body (PR n β) n a0 a1 H k
theorem f41_eq (n : Nat) (a0 a1 : AV) (H : Heap) (k : AV → Heap → Option β) : evalFn E0 (n + 1) β 41 [a0, a1] H k = f41 (PR n β) n a0 a1 H k := f41_body (PR n β) n a0 a1 H k
theorem f78_eq (n : Nat) (a0 : AV) (H : Heap) (k : AV → Heap → Option β) : evalFn E0 (n + 1) β 78 [a0] H k = f78 (PR n β) n a0 H k := f78_body (PR n β) n a0 H k
theorem f73_eq (n : Nat) (a0 : AV) (H : Heap) (k : AV → Heap → Option β) : evalFn E0 (n + 1) β 73 [a0] H k = f73 (PR n β) n a0 H k := f73_body (PR n β) n a0 H k
theorem f67_eq (n : Nat) (a0 : AV) (H : Heap) (k : AV → Heap → Option β) : evalFn E0 (n + 1) β 67 [a0] H k = f67 (PR n β) n a0 H k := f67_body (PR n β) n a0 H k
theorem f43_eq (n : Nat) (a0 : AV) (H : Heap) (k : AV → Heap → Option β) : evalFn E0 (n + 1) β 43 [a0] H k = f43 (PR n β) n a0 H k := f43_body (PR n β) n a0 H k
theorem f42_eq (n : Nat) (a0 a1 a2 : AV) (H : Heap) (k : AV → Heap → Option β) : evalFn E0 (n + 1) β 42 [a0, a1, a2] H k = f42 (PR n β) n a0 a1 a2 H k := f42_body (PR n β) n a0 a1 a2 H k
theorem f44_eq (n : Nat) (a0 a1 a2 : AV) (H : Heap) (k : AV → Heap → Option β) : evalFn E0 (n + 1) β 44 [a0, a1, a2] H k = f44 (PR n β) n a0 a1 a2 H k := f44_body (PR n β) n a0 a1 a2 H k
theorem f79_eq (n : Nat) (a0 a1 : AV) (H : Heap) (k : AV → Heap → Option β) : evalFn E0 (n + 1) β 79 [a0, a1] H k = f79 (PR n β) n a0 a1 H k := f79_body (PR n β) n a0 a1 H k
theorem f74_eq (n : Nat) (a0 a1 : AV) (H : Heap) (k : AV → Heap → Option β) : evalFn E0 (n + 1) β 74 [a0, a1] H k = f74 (PR n β) n a0 a1 H k := f74_body (PR n β) n a0 a1 H k
theorem f68_eq (n : Nat) (a0 a1 : AV) (H : Heap) (k : AV → Heap → Option β) : evalFn E0 (n + 1) β 68 [a0, a1] H k = f68 (PR n β) n a0 a1 H k := f68_body (PR n β) n a0 a1 H k
theorem f45_eq (n : Nat) (a0 a1 : AV) (H : Heap) (k : AV → Heap → Option β) : evalFn E0 (n + 1) β 45 [a0, a1] H k = f45 (PR n β) n a0 a1 H k := f45_body (PR n β) n a0 a1 H k
theorem f10_eq (n : Nat) (a0 a1 a2 : AV) (H : Heap) (k : AV → Heap → Option β) : evalFn E0 (n + 1) β 10 [a0, a1, a2] H k = f10 (PR n β) n a0 a1 a2 H k := f10_body (PR n β) n a0 a1 a2 H k
end Go.Proofs.Ytgidofkechabbaa.Abs
