/- The program's functions as plain functions over abstract values, and that the evaluator comes to them (written by gen.py). -/
import Derived.Test.YtpcgppelelfmiaaProg
import Derived.Test.YtpcgppelelfmiaaAbs
import Derived.KernelRfl
set_option linter.unusedVariables false
set_option linter.unusedSimpArgs false
set_option maxRecDepth 100000
namespace Go.Proofs.Ytpcgppelelfmiaa.Abs
open Go
variable {β : Type}
noncomputable def tis : List (Option TI) := [none,
  none,
  none,
  some ⟨false, false, 1, 8, [(.int .i64 0)], 0, [], some .i64, false, false, [3], false⟩,
  some ⟨false, false, 1, 1, [(.bool false)], 0, [], none, false, true, [4], false⟩,
  some ⟨false, false, 1, 1, [(.int .u8 0)], 0, [], some .u8, false, false, [5], false⟩,
  none,
  none,
  none,
  some ⟨false, false, 1, 16, [(.string ⟨#[]⟩)], 0, [], none, true, false, [9], false⟩,
  none,
  none,
  none,
  none,
  none,
  none,
  none,
  none,
  none,
  none,
  none,
  none,
  some ⟨false, true, 1, 24, [(.slice none 0 0)], 37, [], none, false, false, [22], false⟩,
  none,
  some ⟨false, true, 1, 24, [(.slice none 0 0)], 27, [], none, false, false, [24], false⟩,
  some ⟨false, true, 1, 24, [(.slice none 0 0)], 5, [], none, false, false, [25], false⟩,
  none,
  some ⟨true, false, 4, 56, [(.string ⟨#[]⟩), (.slice none 0 0), (.int .i64 0), (.bool false)], 0, [(0, 9), (1, 25), (2, 3), (3, 4)], none, false, false, [9, 25, 3, 4], false⟩,
  none,
  none,
  none,
  none,
  none,
  none,
  none,
  none,
  none,
  some ⟨true, false, 4, 56, [(.string ⟨#[]⟩), (.slice none 0 0), (.int .i64 0), (.bool false)], 0, [(0, 9), (1, 25), (2, 3), (3, 4)], none, false, false, [9, 25, 3, 4], false⟩,
  none,
  none,
  none,
  none,
  none,
  none,
  none,
  none,
  some ⟨false, true, 1, 24, [(.slice none 0 0)], 25, [], none, false, false, [46], false⟩]
noncomputable def bodyOf (f : Func) : Code := match f.body with | some c => c | none => .skip
noncomputable def c23 : Code := bodyOf Go.Proofs.Try.f23
noncomputable def c14 : Code := bodyOf Go.Proofs.Try.f14
noncomputable def c4 : Code := bodyOf Go.Proofs.Try.f4
noncomputable def c24 : Code := bodyOf Go.Proofs.Try.f24
noncomputable def c17 : Code := bodyOf Go.Proofs.Try.f17
noncomputable def c6 : Code := bodyOf Go.Proofs.Try.f6
noncomputable def c16 : Code := bodyOf Go.Proofs.Try.f16
noncomputable def c15 : Code := bodyOf Go.Proofs.Try.f15
noncomputable def c5 : Code := bodyOf Go.Proofs.Try.f5
noncomputable def c26 : Code := bodyOf Go.Proofs.Try.f26
noncomputable def c25 : Code := bodyOf Go.Proofs.Try.f25
noncomputable def c18 : Code := bodyOf Go.Proofs.Try.f18
noncomputable def c7 : Code := bodyOf Go.Proofs.Try.f7
noncomputable def c19 : Code := bodyOf Go.Proofs.Try.f19
noncomputable def c9 : Code := bodyOf Go.Proofs.Try.f9
noncomputable def c8 : Code := bodyOf Go.Proofs.Try.f8
noncomputable def c20 : Code := bodyOf Go.Proofs.Try.f20
noncomputable def c21 : Code := bodyOf Go.Proofs.Try.f21
noncomputable def c10 : Code := bodyOf Go.Proofs.Try.f10
noncomputable def c11 : Code := bodyOf Go.Proofs.Try.f11
noncomputable def c22 : Code := bodyOf Go.Proofs.Try.f22
noncomputable def c12 : Code := bodyOf Go.Proofs.Try.f12
noncomputable def c13 : Code := bodyOf Go.Proofs.Try.f13
noncomputable def c3 : Code := bodyOf Go.Proofs.Try.f3
noncomputable def o23 : List (Nat × List Nat) := []
noncomputable def o14 : List (Nat × List Nat) := []
noncomputable def o4 : List (Nat × List Nat) := []
noncomputable def o24 : List (Nat × List Nat) := []
noncomputable def o17 : List (Nat × List Nat) := []
noncomputable def o6 : List (Nat × List Nat) := []
noncomputable def o16 : List (Nat × List Nat) := [(1, [0, 1, 3, 4, 6, 7, 8, 9, 2, 5, 10, 11])]
noncomputable def o15 : List (Nat × List Nat) := []
noncomputable def o5 : List (Nat × List Nat) := [(3, [0, 1, 3, 4, 5, 2, 6, 7, 8, 9])]
noncomputable def o26 : List (Nat × List Nat) := []
noncomputable def o25 : List (Nat × List Nat) := []
noncomputable def o18 : List (Nat × List Nat) := []
noncomputable def o7 : List (Nat × List Nat) := [(4, [0, 1, 2, 3, 4, 5, 6, 7])]
noncomputable def o19 : List (Nat × List Nat) := [(6, [0, 1, 2, 3, 4, 5, 6, 7, 8])]
noncomputable def o9 : List (Nat × List Nat) := []
noncomputable def o8 : List (Nat × List Nat) := [(6, [0, 1, 2, 3, 4, 5, 6, 7, 8, 9])]
noncomputable def o20 : List (Nat × List Nat) := []
noncomputable def o21 : List (Nat × List Nat) := []
noncomputable def o10 : List (Nat × List Nat) := []
noncomputable def o11 : List (Nat × List Nat) := []
noncomputable def o22 : List (Nat × List Nat) := []
noncomputable def o12 : List (Nat × List Nat) := [(4, [0, 1, 2, 3, 4, 5, 6, 7])]
noncomputable def o13 : List (Nat × List Nat) := []
noncomputable def o3 : List (Nat × List Nat) := []
noncomputable def ti0 (t : Nat) : Option TI := (tis[t]?).getD none
noncomputable def cd : Code → List Nat → Code
  | c, [] => c
  | .seq a b, i :: p => cd (if i = 0 then a else b) p
  | .cond _ a b, i :: p => cd (if i = 1 then a else b) p
  | .block _ a, _ :: p => cd a p
  | .loop a, _ :: p => cd a p
  | c, _ => c

/-! 23 loop.example/g00480/laws.szByteS -/
noncomputable def f23 (p : Pr β) (n : Nat) (a0 a1 : AV) (H : Heap) (k : AV → Heap → Option β) : Option β :=
  p.len a0 fun t7 =>
  p.bin .sub a1 t7 fun t8 =>
  p.bin .lss t8 (.sc (.int .i64 0)) fun t10 =>
  p.cond t10
  (k (.sc (.int .i64 (-1))) H)
  (k t8 H)
theorem f23_body (p : Pr β) (n : Nat) (a0 a1 : AV) (H : Heap) (k : AV → Heap → Option β) : evalBody ti0 p n ⟨c23, 12, Go.Proofs.Try.f23.results.toList, o23⟩ [a0, a1] H k = f23 p n a0 a1 H k := by kernel_rfl

/-! 14 loop.example/g00480/laws.szMsg -/
noncomputable def f14 (p : Pr β) (n : Nat) (a0 a1 : AV) (H : Heap) (k : AV → Heap → Option β) : Option β :=
  p.box a0 H fun t2 H =>
  p.fadr 0 t2 fun t6 =>
  p.load false 1 t6 H fun t7 =>
  p.lenS t7 fun t8 =>
  p.bin .sub a1 t8 fun t9 =>
  p.bin .lss t9 (.sc (.int .i64 0)) fun t11 =>
  p.cond t11
  (k (.sc (.int .i64 (-1))) H)
  (p.fadr 1 t2 fun t12 =>
  p.load false 1 t12 H fun t13 =>
  p.call 3 (.fn 23 [] []) [t13, t9] H fun t15 H =>
  p.bin .lss t15 (.sc (.int .i64 0)) fun t17 =>
  p.cond t17
  (k (.sc (.int .i64 (-1))) H)
  (k t15 H))
theorem f14_body (p : Pr β) (n : Nat) (a0 a1 : AV) (H : Heap) (k : AV → Heap → Option β) : evalBody ti0 p n ⟨c14, 19, Go.Proofs.Try.f14.results.toList, o14⟩ [a0, a1] H k = f14 p n a0 a1 H k := by kernel_rfl

/-! 4 loop.example/g00480/laws.szMsgS -/
noncomputable def f4_l0 (p : Pr β) (n : Nat)  (k : AV → Heap → Option β) : Nat → AV → AV → AV → Heap → Option β
  | 0, _, _, _, _ => none
  | m + 1, t0, t1, t5, H => p.len t0 fun t14 =>
      p.bin .lss t5 t14 fun t15 =>
      p.cond t15
      (p.iadr 4 t0 t5 fun t20 =>
      p.load true 4 t20 H fun t21 =>
      p.call 3 (.fn 14 [] []) [t21, t1] H fun t23 H =>
      p.bin .lss t23 (.sc (.int .i64 0)) fun t25 =>
      p.cond t25
      (k (.sc (.int .i64 (-1))) H)
      (p.bin .add t5 (.sc (.int .i64 1)) fun t17 =>
      f4_l0 p n  k m t0 t23 t17 H))
      (k t1 H)
noncomputable def f4 (p : Pr β) (n : Nat) (a0 a1 : AV) (H : Heap) (k : AV → Heap → Option β) : Option β :=
  p.len a0 fun t8 =>
  p.bin .sub a1 t8 fun t9 =>
  p.bin .lss t9 (.sc (.int .i64 0)) fun t11 =>
  p.cond t11
  (k (.sc (.int .i64 (-1))) H)
  (f4_l0 p n  k n a0 t9 (.sc (.int .i64 0)) H)
noncomputable def f4_L0 (p : Pr β) (n : Nat)  (k : AV → Heap → Option β) (m : Nat) (tm : Tm) (H : Heap) : Option β :=
  iterC 27 (fun tm H k => evalCode ti0 p o4 27 n (cd c4 [1, 1, 1, 0, 1, 0, 0]) tm H k) (blkK 0 (seqK (fun tm H => evalCode ti0 p o4 27 n (cd c4 [1, 1, 1, 1]) tm H (endK ti0 p Go.Proofs.Try.f4.results.toList k)) (endK ti0 p Go.Proofs.Try.f4.results.toList k))) m tm H
theorem f4_L0_step (p : Pr β) (n : Nat)  (k : AV → Heap → Option β) (m0 : Nat) (t0 t1 t2 t3 t4 t5 t6 t7 t8 t9 t10 t11 t12 t13 t14 t15 t16 t17 t18 t19 t20 t21 t22 t23 t24 t25 t26 : AV) (H : Heap) : f4_L0 p n  k (m0 + 1) [(0, t0), (1, t1), (2, t2), (3, t3), (4, t4), (5, t5), (6, t6), (7, t7), (8, t8), (9, t9), (10, t10), (11, t11), (12, t12), (13, t13), (14, t14), (15, t15), (16, t16), (17, t17), (18, t18), (19, t19), (20, t20), (21, t21), (22, t22), (23, t23), (24, t24), (25, t25), (26, t26)] H =
  p.len t0 fun t14 =>
  p.bin .lss t5 t14 fun t15 =>
  p.cond t15
  (p.iadr 4 t0 t5 fun t20 =>
  p.load true 4 t20 H fun t21 =>
  p.call 3 (.fn 14 [] []) [t21, t1] H fun t23 H =>
  p.bin .lss t23 (.sc (.int .i64 0)) fun t25 =>
  p.cond t25
  (k (.sc (.int .i64 (-1))) H)
  (p.bin .add t5 (.sc (.int .i64 1)) fun t17 =>
  f4_L0 p n  k m0 [(0, t0), (1, t23), (2, t2), (3, t3), (4, t4), (5, t17), (6, t6), (7, t7), (8, t8), (9, t9), (10, t10), (11, t11), (12, t5), (13, t0), (14, t14), (15, t15), (16, t5), (17, t17), (18, t0), (19, t5), (20, t20), (21, t21), (22, t1), (23, t23), (24, t23), (25, t25), (26, t26)] H))
  (k t1 H) := by kernel_rfl
theorem f4_l0_eq (p : Pr β) (n : Nat)  (k : AV → Heap → Option β)   (m0 : Nat) : ∀ (t0 t1 t2 t3 t4 t5 t6 t7 t8 t9 t10 t11 t12 t13 t14 t15 t16 t17 t18 t19 t20 t21 t22 t23 t24 t25 t26 : AV) (H : Heap), f4_L0 p n  k m0 [(0, t0), (1, t1), (2, t2), (3, t3), (4, t4), (5, t5), (6, t6), (7, t7), (8, t8), (9, t9), (10, t10), (11, t11), (12, t12), (13, t13), (14, t14), (15, t15), (16, t16), (17, t17), (18, t18), (19, t19), (20, t20), (21, t21), (22, t22), (23, t23), (24, t24), (25, t25), (26, t26)] H = f4_l0 p n  k m0 t0 t1 t5 H := by
  induction m0 with
  | zero => intros; rfl
  | succ m0 ih =>
    intro t0 t1 t2 t3 t4 t5 t6 t7 t8 t9 t10 t11 t12 t13 t14 t15 t16 t17 t18 t19 t20 t21 t22 t23 t24 t25 t26 H
    rw [f4_L0_step]
    simp only [ih]
    rfl
theorem f4_raw (p : Pr β) (n : Nat) (a0 a1 : AV) (H : Heap) (k : AV → Heap → Option β) : evalBody ti0 p n ⟨c4, 27, Go.Proofs.Try.f4.results.toList, o4⟩ [a0, a1] H k =
  p.len a0 fun t8 =>
  p.bin .sub a1 t8 fun t9 =>
  p.bin .lss t9 (.sc (.int .i64 0)) fun t11 =>
  p.cond t11
  (k (.sc (.int .i64 (-1))) H)
  (f4_L0 p n  k n [(0, a0), (1, t9), (2, (.sc undef)), (3, (.sc undef)), (4, (.sc (.int .i64 0))), (5, (.sc (.int .i64 0))), (6, a1), (7, a0), (8, t8), (9, t9), (10, t9), (11, t11), (12, (.sc undef)), (13, (.sc undef)), (14, (.sc undef)), (15, (.sc undef)), (16, (.sc undef)), (17, (.sc undef)), (18, (.sc undef)), (19, (.sc undef)), (20, (.sc undef)), (21, (.sc undef)), (22, (.sc undef)), (23, (.sc undef)), (24, (.sc undef)), (25, (.sc undef)), (26, (.sc undef))] H) := by kernel_rfl
theorem f4_body (p : Pr β) (n : Nat) (a0 a1 : AV) (H : Heap) (k : AV → Heap → Option β) : evalBody ti0 p n ⟨c4, 27, Go.Proofs.Try.f4.results.toList, o4⟩ [a0, a1] H k = f4 p n a0 a1 H k := by
  rw [f4_raw]
  simp only [f4_l0_eq]
  rfl

/-! 24 loop.example/g00480/laws.toByteS -/
noncomputable def f24_l0 (p : Pr β) (n : Nat)  (k : AV → Heap → Option β) : Nat → AV → AV → AV → Heap → Option β
  | 0, _, _, _, _ => none
  | m + 1, t0, t3, t4, H => p.len t0 fun t10 =>
      p.bin .lss t4 t10 fun t11 =>
      p.cond t11
      (p.iadr 1 t0 t4 fun t18 =>
      p.load false 1 t18 H fun t19 =>
      p.iadr 1 t3 t4 fun t20 =>
      p.store 1 t20 t19 H fun H =>
      p.bin .add t4 (.sc (.int .i64 1)) fun t13 =>
      f24_l0 p n  k m t0 t3 t13 H)
      (k t3 H)
noncomputable def f24 (p : Pr β) (n : Nat) (a0 : AV) (H : Heap) (k : AV → Heap → Option β) : Option β :=
  p.len a0 fun t6 =>
  p.make 1 1 [(.sc (.int .u8 0))] t6 t6 H fun t7 H =>
  f24_l0 p n  k n a0 t7 (.sc (.int .i64 0)) H
noncomputable def f24_L0 (p : Pr β) (n : Nat)  (k : AV → Heap → Option β) (m : Nat) (tm : Tm) (H : Heap) : Option β :=
  iterC 22 (fun tm H k => evalCode ti0 p o24 22 n (cd c24 [1, 1, 0, 1, 0, 0]) tm H k) (blkK 0 (seqK (fun tm H => evalCode ti0 p o24 22 n (cd c24 [1, 1, 1]) tm H (endK ti0 p Go.Proofs.Try.f24.results.toList k)) (endK ti0 p Go.Proofs.Try.f24.results.toList k))) m tm H
theorem f24_L0_step (p : Pr β) (n : Nat)  (k : AV → Heap → Option β) (m0 : Nat) (t0 t1 t2 t3 t4 t5 t6 t7 t8 t9 t10 t11 t12 t13 t14 t15 t16 t17 t18 t19 t20 t21 : AV) (H : Heap) : f24_L0 p n  k (m0 + 1) [(0, t0), (1, t1), (2, t2), (3, t3), (4, t4), (5, t5), (6, t6), (7, t7), (8, t8), (9, t9), (10, t10), (11, t11), (12, t12), (13, t13), (14, t14), (15, t15), (16, t16), (17, t17), (18, t18), (19, t19), (20, t20), (21, t21)] H =
  p.len t0 fun t10 =>
  p.bin .lss t4 t10 fun t11 =>
  p.cond t11
  (p.iadr 1 t0 t4 fun t18 =>
  p.load false 1 t18 H fun t19 =>
  p.iadr 1 t3 t4 fun t20 =>
  p.store 1 t20 t19 H fun H =>
  p.bin .add t4 (.sc (.int .i64 1)) fun t13 =>
  f24_L0 p n  k m0 [(0, t0), (1, t1), (2, t2), (3, t3), (4, t13), (5, t5), (6, t6), (7, t7), (8, t4), (9, t0), (10, t10), (11, t11), (12, t4), (13, t13), (14, t3), (15, t4), (16, t0), (17, t4), (18, t18), (19, t19), (20, t20), (21, t21)] H)
  (k t3 H) := by kernel_rfl
theorem f24_l0_eq (p : Pr β) (n : Nat)  (k : AV → Heap → Option β)   (m0 : Nat) : ∀ (t0 t1 t2 t3 t4 t5 t6 t7 t8 t9 t10 t11 t12 t13 t14 t15 t16 t17 t18 t19 t20 t21 : AV) (H : Heap), f24_L0 p n  k m0 [(0, t0), (1, t1), (2, t2), (3, t3), (4, t4), (5, t5), (6, t6), (7, t7), (8, t8), (9, t9), (10, t10), (11, t11), (12, t12), (13, t13), (14, t14), (15, t15), (16, t16), (17, t17), (18, t18), (19, t19), (20, t20), (21, t21)] H = f24_l0 p n  k m0 t0 t3 t4 H := by
  induction m0 with
  | zero => intros; rfl
  | succ m0 ih =>
    intro t0 t1 t2 t3 t4 t5 t6 t7 t8 t9 t10 t11 t12 t13 t14 t15 t16 t17 t18 t19 t20 t21 H
    rw [f24_L0_step]
    simp only [ih]
    rfl
theorem f24_raw (p : Pr β) (n : Nat) (a0 : AV) (H : Heap) (k : AV → Heap → Option β) : evalBody ti0 p n ⟨c24, 22, Go.Proofs.Try.f24.results.toList, o24⟩ [a0] H k =
  p.len a0 fun t6 =>
  p.make 1 1 [(.sc (.int .u8 0))] t6 t6 H fun t7 H =>
  f24_L0 p n  k n [(0, a0), (1, (.sc undef)), (2, .nl), (3, t7), (4, (.sc (.int .i64 0))), (5, a0), (6, t6), (7, t7), (8, (.sc undef)), (9, (.sc undef)), (10, (.sc undef)), (11, (.sc undef)), (12, (.sc undef)), (13, (.sc undef)), (14, (.sc undef)), (15, (.sc undef)), (16, (.sc undef)), (17, (.sc undef)), (18, (.sc undef)), (19, (.sc undef)), (20, (.sc undef)), (21, (.sc undef))] H := by kernel_rfl
theorem f24_body (p : Pr β) (n : Nat) (a0 : AV) (H : Heap) (k : AV → Heap → Option β) : evalBody ti0 p n ⟨c24, 22, Go.Proofs.Try.f24.results.toList, o24⟩ [a0] H k = f24 p n a0 H k := by
  rw [f24_raw]
  simp only [f24_l0_eq]
  rfl

/-! 17 loop.example/g00480/laws.toMsg -/
noncomputable def f17 (p : Pr β) (n : Nat) (a0 : AV) (H : Heap) (k : AV → Heap → Option β) : Option β :=
  p.box a0 H fun t1 H =>
  p.new [(.sc (.string ⟨#[]⟩)), .nl, (.sc (.int .i64 0)), (.sc (.bool false))] H fun t2 H =>
  p.new [(.sc (.string ⟨#[]⟩)), .nl, (.sc (.int .i64 0)), (.sc (.bool false))] H fun t3 H =>
  p.fadr 0 t1 fun t4 =>
  p.load false 1 t4 H fun t5 =>
  p.fadr 0 t3 fun t6 =>
  p.store 1 t6 t5 H fun H =>
  p.fadr 1 t1 fun t7 =>
  p.load false 1 t7 H fun t8 =>
  p.call 25 (.fn 24 [] []) [t8] H fun t9 H =>
  p.fadr 1 t3 fun t10 =>
  p.store 1 t10 t9 H fun H =>
  p.fadr 2 t1 fun t11 =>
  p.load false 1 t11 H fun t12 =>
  p.fadr 2 t3 fun t13 =>
  p.store 1 t13 t12 H fun H =>
  p.fadr 3 t1 fun t14 =>
  p.load false 1 t14 H fun t15 =>
  p.fadr 3 t3 fun t16 =>
  p.store 1 t16 t15 H fun H =>
  p.load true 4 t3 H fun t17 =>
  p.store 4 t2 t17 H fun H =>
  p.load true 4 t2 H fun r0 =>
  k r0 H
theorem f17_body (p : Pr β) (n : Nat) (a0 : AV) (H : Heap) (k : AV → Heap → Option β) : evalBody ti0 p n ⟨c17, 18, Go.Proofs.Try.f17.results.toList, o17⟩ [a0] H k = f17 p n a0 H k := by kernel_rfl

/-! 6 loop.example/g00480/laws.toMsgS -/
noncomputable def f6_l0 (p : Pr β) (n : Nat)  (k : AV → Heap → Option β) : Nat → AV → AV → AV → Heap → Option β
  | 0, _, _, _, _ => none
  | m + 1, t0, t3, t4, H => p.len t0 fun t10 =>
      p.bin .lss t4 t10 fun t11 =>
      p.cond t11
      (p.iadr 4 t0 t4 fun t18 =>
      p.load true 4 t18 H fun t19 =>
      p.call 27 (.fn 17 [] []) [t19] H fun t20 H =>
      p.iadr 4 t3 t4 fun t21 =>
      p.store 4 t21 t20 H fun H =>
      p.bin .add t4 (.sc (.int .i64 1)) fun t13 =>
      f6_l0 p n  k m t0 t3 t13 H)
      (k t3 H)
noncomputable def f6 (p : Pr β) (n : Nat) (a0 : AV) (H : Heap) (k : AV → Heap → Option β) : Option β :=
  p.len a0 fun t6 =>
  p.make 4 56 [(.sc (.string ⟨#[]⟩)), .nl, (.sc (.int .i64 0)), (.sc (.bool false))] t6 t6 H fun t7 H =>
  f6_l0 p n  k n a0 t7 (.sc (.int .i64 0)) H
noncomputable def f6_L0 (p : Pr β) (n : Nat)  (k : AV → Heap → Option β) (m : Nat) (tm : Tm) (H : Heap) : Option β :=
  iterC 23 (fun tm H k => evalCode ti0 p o6 23 n (cd c6 [1, 1, 0, 1, 0, 0]) tm H k) (blkK 0 (seqK (fun tm H => evalCode ti0 p o6 23 n (cd c6 [1, 1, 1]) tm H (endK ti0 p Go.Proofs.Try.f6.results.toList k)) (endK ti0 p Go.Proofs.Try.f6.results.toList k))) m tm H
theorem f6_L0_step (p : Pr β) (n : Nat)  (k : AV → Heap → Option β) (m0 : Nat) (t0 t1 t2 t3 t4 t5 t6 t7 t8 t9 t10 t11 t12 t13 t14 t15 t16 t17 t18 t19 t20 t21 t22 : AV) (H : Heap) : f6_L0 p n  k (m0 + 1) [(0, t0), (1, t1), (2, t2), (3, t3), (4, t4), (5, t5), (6, t6), (7, t7), (8, t8), (9, t9), (10, t10), (11, t11), (12, t12), (13, t13), (14, t14), (15, t15), (16, t16), (17, t17), (18, t18), (19, t19), (20, t20), (21, t21), (22, t22)] H =
  p.len t0 fun t10 =>
  p.bin .lss t4 t10 fun t11 =>
  p.cond t11
  (p.iadr 4 t0 t4 fun t18 =>
  p.load true 4 t18 H fun t19 =>
  p.call 27 (.fn 17 [] []) [t19] H fun t20 H =>
  p.iadr 4 t3 t4 fun t21 =>
  p.store 4 t21 t20 H fun H =>
  p.bin .add t4 (.sc (.int .i64 1)) fun t13 =>
  f6_L0 p n  k m0 [(0, t0), (1, t1), (2, t2), (3, t3), (4, t13), (5, t5), (6, t6), (7, t7), (8, t4), (9, t0), (10, t10), (11, t11), (12, t4), (13, t13), (14, t3), (15, t4), (16, t0), (17, t4), (18, t18), (19, t19), (20, t20), (21, t21), (22, t22)] H)
  (k t3 H) := by kernel_rfl
theorem f6_l0_eq (p : Pr β) (n : Nat)  (k : AV → Heap → Option β)   (m0 : Nat) : ∀ (t0 t1 t2 t3 t4 t5 t6 t7 t8 t9 t10 t11 t12 t13 t14 t15 t16 t17 t18 t19 t20 t21 t22 : AV) (H : Heap), f6_L0 p n  k m0 [(0, t0), (1, t1), (2, t2), (3, t3), (4, t4), (5, t5), (6, t6), (7, t7), (8, t8), (9, t9), (10, t10), (11, t11), (12, t12), (13, t13), (14, t14), (15, t15), (16, t16), (17, t17), (18, t18), (19, t19), (20, t20), (21, t21), (22, t22)] H = f6_l0 p n  k m0 t0 t3 t4 H := by
  induction m0 with
  | zero => intros; rfl
  | succ m0 ih =>
    intro t0 t1 t2 t3 t4 t5 t6 t7 t8 t9 t10 t11 t12 t13 t14 t15 t16 t17 t18 t19 t20 t21 t22 H
    rw [f6_L0_step]
    simp only [ih]
    rfl
theorem f6_raw (p : Pr β) (n : Nat) (a0 : AV) (H : Heap) (k : AV → Heap → Option β) : evalBody ti0 p n ⟨c6, 23, Go.Proofs.Try.f6.results.toList, o6⟩ [a0] H k =
  p.len a0 fun t6 =>
  p.make 4 56 [(.sc (.string ⟨#[]⟩)), .nl, (.sc (.int .i64 0)), (.sc (.bool false))] t6 t6 H fun t7 H =>
  f6_L0 p n  k n [(0, a0), (1, (.sc undef)), (2, .nl), (3, t7), (4, (.sc (.int .i64 0))), (5, a0), (6, t6), (7, t7), (8, (.sc undef)), (9, (.sc undef)), (10, (.sc undef)), (11, (.sc undef)), (12, (.sc undef)), (13, (.sc undef)), (14, (.sc undef)), (15, (.sc undef)), (16, (.sc undef)), (17, (.sc undef)), (18, (.sc undef)), (19, (.sc undef)), (20, (.sc undef)), (21, (.sc undef)), (22, (.sc undef))] H := by kernel_rfl
theorem f6_body (p : Pr β) (n : Nat) (a0 : AV) (H : Heap) (k : AV → Heap → Option β) : evalBody ti0 p n ⟨c6, 23, Go.Proofs.Try.f6.results.toList, o6⟩ [a0] H k = f6 p n a0 H k := by
  rw [f6_raw]
  simp only [f6_l0_eq]
  rfl

/-! 16 loop.example/g00480/spec.l12Msg -/
noncomputable def f16 (p : Pr β) (n : Nat) (a0 : AV) (H : Heap) (k : AV → Heap → Option β) : Option β :=
  p.box a0 H fun t1 H =>
  p.new [(.sc (.string ⟨#[]⟩)), .nl, (.sc (.int .i64 0)), (.sc (.bool false))] H fun t2 H =>
  p.fadr 0 t1 fun t3 =>
  p.load false 1 t3 H fun t4 =>
  p.fadr 1 t1 fun t6 =>
  p.load false 1 t6 H fun t7 =>
  p.fadr 2 t1 fun t9 =>
  p.load false 1 t9 H fun t10 =>
  p.fadr 3 t1 fun t11 =>
  p.load false 1 t11 H fun t12 =>
  p.app 1 1 .nl t7 H fun t8 H =>
  p.fill [(.sc (.string ⟨#[]⟩)), .nl, (.sc (.int .i64 0)), (.sc (.bool false))] [(0, 1, t4), (1, 1, t8), (2, 1, t10), (3, 1, t12)] fun ct13 =>
  p.store 4 t2 (.agg ct13) H fun H =>
  p.load true 4 t2 H fun r0 =>
  k r0 H
theorem f16_body (p : Pr β) (n : Nat) (a0 : AV) (H : Heap) (k : AV → Heap → Option β) : evalBody ti0 p n ⟨c16, 14, Go.Proofs.Try.f16.results.toList, o16⟩ [a0] H k = f16 p n a0 H k := by kernel_rfl

/-! 15 loop.example/g00480/spec.l12Copy -/
noncomputable def f15_l0 (p : Pr β) (n : Nat)  (k : AV → Heap → Option β) : Nat → AV → AV → AV → Heap → Option β
  | 0, _, _, _, _ => none
  | m + 1, t0, t3, t4, H => p.len t0 fun t8 =>
      p.bin .lss t4 t8 fun t9 =>
      p.cond t9
      (p.iadr 4 t0 t4 fun t15 =>
      p.load true 4 t15 H fun t16 =>
      p.call 27 (.fn 16 [] []) [t16] H fun t17 H =>
      p.fill [(.sc (.string ⟨#[]⟩)), .nl, (.sc (.int .i64 0)), (.sc (.bool false))] [(0, 4, t17)] fun ct18 => p.newSl 1 4 ct18 true H fun t18 H =>
      p.app 4 56 t3 t18 H fun t19 H =>
      p.bin .add t4 (.sc (.int .i64 1)) fun t11 =>
      f15_l0 p n  k m t0 t19 t11 H)
      (k t3 H)
noncomputable def f15 (p : Pr β) (n : Nat) (a0 : AV) (H : Heap) (k : AV → Heap → Option β) : Option β :=
  f15_l0 p n  k n a0 .nl (.sc (.int .i64 0)) H
noncomputable def f15_L0 (p : Pr β) (n : Nat)  (k : AV → Heap → Option β) (m : Nat) (tm : Tm) (H : Heap) : Option β :=
  iterC 21 (fun tm H k => evalCode ti0 p o15 21 n (cd c15 [1, 1, 0, 1, 0, 0]) tm H k) (blkK 0 (seqK (fun tm H => evalCode ti0 p o15 21 n (cd c15 [1, 1, 1]) tm H (endK ti0 p Go.Proofs.Try.f15.results.toList k)) (endK ti0 p Go.Proofs.Try.f15.results.toList k))) m tm H
theorem f15_L0_step (p : Pr β) (n : Nat)  (k : AV → Heap → Option β) (m0 : Nat) (t0 t1 t2 t3 t4 t5 t6 t7 t8 t9 t10 t11 t12 t13 t14 t15 t16 t17 t18 t19 t20 : AV) (H : Heap) : f15_L0 p n  k (m0 + 1) [(0, t0), (1, t1), (2, t2), (3, t3), (4, t4), (5, t5), (6, t6), (7, t7), (8, t8), (9, t9), (10, t10), (11, t11), (12, t12), (13, t13), (14, t14), (15, t15), (16, t16), (17, t17), (18, t18), (19, t19), (20, t20)] H =
  p.len t0 fun t8 =>
  p.bin .lss t4 t8 fun t9 =>
  p.cond t9
  (p.iadr 4 t0 t4 fun t15 =>
  p.load true 4 t15 H fun t16 =>
  p.call 27 (.fn 16 [] []) [t16] H fun t17 H =>
  p.fill [(.sc (.string ⟨#[]⟩)), .nl, (.sc (.int .i64 0)), (.sc (.bool false))] [(0, 4, t17)] fun ct18 => p.newSl 1 4 ct18 true H fun t18 H =>
  p.app 4 56 t3 t18 H fun t19 H =>
  p.bin .add t4 (.sc (.int .i64 1)) fun t11 =>
  f15_L0 p n  k m0 [(0, t0), (1, t1), (2, t2), (3, t19), (4, t11), (5, t5), (6, t4), (7, t0), (8, t8), (9, t9), (10, t4), (11, t11), (12, t3), (13, t0), (14, t4), (15, t15), (16, t16), (17, t17), (18, t18), (19, t19), (20, t20)] H)
  (k t3 H) := by kernel_rfl
theorem f15_l0_eq (p : Pr β) (n : Nat)  (k : AV → Heap → Option β)   (m0 : Nat) : ∀ (t0 t1 t2 t3 t4 t5 t6 t7 t8 t9 t10 t11 t12 t13 t14 t15 t16 t17 t18 t19 t20 : AV) (H : Heap), f15_L0 p n  k m0 [(0, t0), (1, t1), (2, t2), (3, t3), (4, t4), (5, t5), (6, t6), (7, t7), (8, t8), (9, t9), (10, t10), (11, t11), (12, t12), (13, t13), (14, t14), (15, t15), (16, t16), (17, t17), (18, t18), (19, t19), (20, t20)] H = f15_l0 p n  k m0 t0 t3 t4 H := by
  induction m0 with
  | zero => intros; rfl
  | succ m0 ih =>
    intro t0 t1 t2 t3 t4 t5 t6 t7 t8 t9 t10 t11 t12 t13 t14 t15 t16 t17 t18 t19 t20 H
    rw [f15_L0_step]
    simp only [ih]
    rfl
theorem f15_raw (p : Pr β) (n : Nat) (a0 : AV) (H : Heap) (k : AV → Heap → Option β) : evalBody ti0 p n ⟨c15, 21, Go.Proofs.Try.f15.results.toList, o15⟩ [a0] H k =
  f15_L0 p n  k n [(0, a0), (1, (.sc undef)), (2, .nl), (3, .nl), (4, (.sc (.int .i64 0))), (5, .nl), (6, (.sc undef)), (7, (.sc undef)), (8, (.sc undef)), (9, (.sc undef)), (10, (.sc undef)), (11, (.sc undef)), (12, (.sc undef)), (13, (.sc undef)), (14, (.sc undef)), (15, (.sc undef)), (16, (.sc undef)), (17, (.sc undef)), (18, (.sc undef)), (19, (.sc undef)), (20, (.sc undef))] H := by kernel_rfl
theorem f15_body (p : Pr β) (n : Nat) (a0 : AV) (H : Heap) (k : AV → Heap → Option β) : evalBody ti0 p n ⟨c15, 21, Go.Proofs.Try.f15.results.toList, o15⟩ [a0] H k = f15 p n a0 H k := by
  rw [f15_raw]
  simp only [f15_l0_eq]
  rfl

/-! 5 loop.example/g00480/spec.Pop -/
noncomputable def f5 (p : Pr β) (n : Nat) (a0 : AV) (H : Heap) (k : AV → Heap → Option β) : Option β :=
  p.new [(.sc (.string ⟨#[]⟩)), .nl, (.sc (.int .i64 0)), (.sc (.bool false))] H fun t3 H =>
  p.len a0 fun t6 =>
  p.bin .eql t6 (.sc (.int .i64 0)) fun t7 =>
  p.cond t7
  (p.fill [(.sc (.string ⟨#[]⟩)), .nl, (.sc (.int .i64 0)), (.sc (.bool false))] [] fun ct9 =>
  p.store 4 t3 (.agg ct9) H fun H =>
  p.load true 4 t3 H fun r1 =>
  k (packA [.nl, r1, (.sc (.bool false))]) H)
  (p.slice 4 a0 (some (.sc (.int .i64 1))) none fun t11 =>
  p.iadr 4 a0 (.sc (.int .i64 0)) fun t14 =>
  p.load true 4 t14 H fun t15 =>
  p.call 24 (.fn 15 [] []) [t11] H fun t12 H =>
  p.call 27 (.fn 16 [] []) [t15] H fun t16 H =>
  p.store 4 t3 t16 H fun H =>
  p.load true 4 t3 H fun r1 =>
  k (packA [t12, r1, (.sc (.bool true))]) H)
theorem f5_body (p : Pr β) (n : Nat) (a0 : AV) (H : Heap) (k : AV → Heap → Option β) : evalBody ti0 p n ⟨c5, 17, Go.Proofs.Try.f5.results.toList, o5⟩ [a0] H k = f5 p n a0 H k := by kernel_rfl

/-! 26 loop.example/g00480/impl.joined -/
noncomputable def f26_l0 (p : Pr β) (n : Nat)  (k : AV → Heap → Option β) : Nat → AV → AV → AV → AV → Heap → Option β
  | 0, _, _, _, _, _ => none
  | m + 1, t3, t7, t8, t9, H => p.bin .lss t9 t8 fun t10 =>
      p.cond t10
      (p.iadr 1 t7 t9 fun t11 =>
      p.load false 1 t11 H fun t12 =>
      p.app 1 1 t3 t12 H fun t15 H =>
      p.bin .add t9 (.sc (.int .i64 1)) fun t16 =>
      f26_l0 p n  k m t15 t7 t8 t16 H)
      (k t3 H)
noncomputable def f26 (p : Pr β) (n : Nat) (a0 : AV) (H : Heap) (k : AV → Heap → Option β) : Option β :=
  p.len a0 fun t8 =>
  f26_l0 p n  k n .nl a0 t8 (.sc (.int .i64 0)) H
noncomputable def f26_L0 (p : Pr β) (n : Nat)  (k : AV → Heap → Option β) (m : Nat) (tm : Tm) (H : Heap) : Option β :=
  iterC 18 (fun tm H k => evalCode ti0 p o26 18 n (cd c26 [1, 1, 0, 1, 0, 0]) tm H k) (blkK 0 (seqK (fun tm H => evalCode ti0 p o26 18 n (cd c26 [1, 1, 1]) tm H (endK ti0 p Go.Proofs.Try.f26.results.toList k)) (endK ti0 p Go.Proofs.Try.f26.results.toList k))) m tm H
theorem f26_L0_step (p : Pr β) (n : Nat)  (k : AV → Heap → Option β) (m0 : Nat) (t0 t1 t2 t3 t4 t5 t6 t7 t8 t9 t10 t11 t12 t13 t14 t15 t16 t17 : AV) (H : Heap) : f26_L0 p n  k (m0 + 1) [(0, t0), (1, t1), (2, t2), (3, t3), (4, t4), (5, t5), (6, t6), (7, t7), (8, t8), (9, t9), (10, t10), (11, t11), (12, t12), (13, t13), (14, t14), (15, t15), (16, t16), (17, t17)] H =
  p.bin .lss t9 t8 fun t10 =>
  p.cond t10
  (p.iadr 1 t7 t9 fun t11 =>
  p.load false 1 t11 H fun t12 =>
  p.app 1 1 t3 t12 H fun t15 H =>
  p.bin .add t9 (.sc (.int .i64 1)) fun t16 =>
  f26_L0 p n  k m0 [(0, t0), (1, t1), (2, t2), (3, t15), (4, t4), (5, t12), (6, t6), (7, t7), (8, t8), (9, t16), (10, t10), (11, t11), (12, t12), (13, t3), (14, t12), (15, t15), (16, t16), (17, t17)] H)
  (k t3 H) := by kernel_rfl
theorem f26_l0_eq (p : Pr β) (n : Nat)  (k : AV → Heap → Option β)   (m0 : Nat) : ∀ (t0 t1 t2 t3 t4 t5 t6 t7 t8 t9 t10 t11 t12 t13 t14 t15 t16 t17 : AV) (H : Heap), f26_L0 p n  k m0 [(0, t0), (1, t1), (2, t2), (3, t3), (4, t4), (5, t5), (6, t6), (7, t7), (8, t8), (9, t9), (10, t10), (11, t11), (12, t12), (13, t13), (14, t14), (15, t15), (16, t16), (17, t17)] H = f26_l0 p n  k m0 t3 t7 t8 t9 H := by
  induction m0 with
  | zero => intros; rfl
  | succ m0 ih =>
    intro t0 t1 t2 t3 t4 t5 t6 t7 t8 t9 t10 t11 t12 t13 t14 t15 t16 t17 H
    rw [f26_L0_step]
    simp only [ih]
    rfl
theorem f26_raw (p : Pr β) (n : Nat) (a0 : AV) (H : Heap) (k : AV → Heap → Option β) : evalBody ti0 p n ⟨c26, 18, Go.Proofs.Try.f26.results.toList, o26⟩ [a0] H k =
  p.len a0 fun t8 =>
  f26_L0 p n  k n [(0, a0), (1, (.sc undef)), (2, .nl), (3, .nl), (4, (.sc undef)), (5, (.sc undef)), (6, .nl), (7, a0), (8, t8), (9, (.sc (.int .i64 0))), (10, (.sc undef)), (11, (.sc undef)), (12, (.sc undef)), (13, (.sc undef)), (14, (.sc undef)), (15, (.sc undef)), (16, (.sc undef)), (17, (.sc undef))] H := by kernel_rfl
theorem f26_body (p : Pr β) (n : Nat) (a0 : AV) (H : Heap) (k : AV → Heap → Option β) : evalBody ti0 p n ⟨c26, 18, Go.Proofs.Try.f26.results.toList, o26⟩ [a0] H k = f26 p n a0 H k := by
  rw [f26_raw]
  simp only [f26_l0_eq]
  rfl

/-! 25 loop.example/g00480/impl.copyMsg -/
noncomputable def f25 (p : Pr β) (n : Nat) (a0 : AV) (H : Heap) (k : AV → Heap → Option β) : Option β :=
  p.box a0 H fun t1 H =>
  p.new [(.sc (.string ⟨#[]⟩)), .nl, (.sc (.int .i64 0)), (.sc (.bool false))] H fun t2 H =>
  p.fadr 1 t1 fun t3 =>
  p.load false 1 t3 H fun t4 =>
  p.fill [.nl] [(0, 1, t4)] fun ct5 => p.newSl 1 1 ct5 true H fun t5 H =>
  p.call 25 (.fn 26 [] []) [t5] H fun t6 H =>
  p.fadr 1 t1 fun t7 =>
  p.store 1 t7 t6 H fun H =>
  p.load true 4 t1 H fun t8 =>
  p.store 4 t2 t8 H fun H =>
  p.load true 4 t2 H fun r0 =>
  k r0 H
theorem f25_body (p : Pr β) (n : Nat) (a0 : AV) (H : Heap) (k : AV → Heap → Option β) : evalBody ti0 p n ⟨c25, 9, Go.Proofs.Try.f25.results.toList, o25⟩ [a0] H k = f25 p n a0 H k := by kernel_rfl

/-! 18 loop.example/g00480/impl.copyMsgs -/
noncomputable def f18_l0 (p : Pr β) (n : Nat)  (k : AV → Heap → Option β) : Nat → AV → AV → AV → AV → Heap → Option β
  | 0, _, _, _, _, _ => none
  | m + 1, t3, t7, t8, t9, H => p.bin .lss t9 t8 fun t10 =>
      p.cond t10
      (p.iadr 4 t7 t9 fun t11 =>
      p.load true 4 t11 H fun t12 =>
      p.new [(.sc (.string ⟨#[]⟩)), .nl, (.sc (.int .i64 0)), (.sc (.bool false))] H fun t5 H =>
      p.store 4 t5 t12 H fun H =>
      p.load true 4 t5 H fun t14 =>
      p.call 27 (.fn 25 [] []) [t14] H fun t15 H =>
      p.fill [(.sc (.string ⟨#[]⟩)), .nl, (.sc (.int .i64 0)), (.sc (.bool false))] [(0, 4, t15)] fun ct16 => p.newSl 1 4 ct16 true H fun t16 H =>
      p.app 4 56 t3 t16 H fun t17 H =>
      p.bin .add t9 (.sc (.int .i64 1)) fun t18 =>
      f18_l0 p n  k m t17 t7 t8 t18 H)
      (k t3 H)
noncomputable def f18 (p : Pr β) (n : Nat) (a0 : AV) (H : Heap) (k : AV → Heap → Option β) : Option β :=
  p.len a0 fun t8 =>
  f18_l0 p n  k n .nl a0 t8 (.sc (.int .i64 0)) H
noncomputable def f18_L0 (p : Pr β) (n : Nat)  (k : AV → Heap → Option β) (m : Nat) (tm : Tm) (H : Heap) : Option β :=
  iterC 20 (fun tm H k => evalCode ti0 p o18 20 n (cd c18 [1, 1, 0, 1, 0, 0]) tm H k) (blkK 0 (seqK (fun tm H => evalCode ti0 p o18 20 n (cd c18 [1, 1, 1]) tm H (endK ti0 p Go.Proofs.Try.f18.results.toList k)) (endK ti0 p Go.Proofs.Try.f18.results.toList k))) m tm H
theorem f18_L0_step (p : Pr β) (n : Nat)  (k : AV → Heap → Option β) (m0 : Nat) (t0 t1 t2 t3 t4 t5 t6 t7 t8 t9 t10 t11 t12 t13 t14 t15 t16 t17 t18 t19 : AV) (H : Heap) : f18_L0 p n  k (m0 + 1) [(0, t0), (1, t1), (2, t2), (3, t3), (4, t4), (5, t5), (6, t6), (7, t7), (8, t8), (9, t9), (10, t10), (11, t11), (12, t12), (13, t13), (14, t14), (15, t15), (16, t16), (17, t17), (18, t18), (19, t19)] H =
  p.bin .lss t9 t8 fun t10 =>
  p.cond t10
  (p.iadr 4 t7 t9 fun t11 =>
  p.load true 4 t11 H fun t12 =>
  p.new [(.sc (.string ⟨#[]⟩)), .nl, (.sc (.int .i64 0)), (.sc (.bool false))] H fun t5 H =>
  p.store 4 t5 t12 H fun H =>
  p.load true 4 t5 H fun t14 =>
  p.call 27 (.fn 25 [] []) [t14] H fun t15 H =>
  p.fill [(.sc (.string ⟨#[]⟩)), .nl, (.sc (.int .i64 0)), (.sc (.bool false))] [(0, 4, t15)] fun ct16 => p.newSl 1 4 ct16 true H fun t16 H =>
  p.app 4 56 t3 t16 H fun t17 H =>
  p.bin .add t9 (.sc (.int .i64 1)) fun t18 =>
  f18_L0 p n  k m0 [(0, t0), (1, t1), (2, t2), (3, t17), (4, t4), (5, t5), (6, t6), (7, t7), (8, t8), (9, t18), (10, t10), (11, t11), (12, t12), (13, t3), (14, t14), (15, t15), (16, t16), (17, t17), (18, t18), (19, t19)] H)
  (k t3 H) := by kernel_rfl
theorem f18_l0_eq (p : Pr β) (n : Nat)  (k : AV → Heap → Option β)   (m0 : Nat) : ∀ (t0 t1 t2 t3 t4 t5 t6 t7 t8 t9 t10 t11 t12 t13 t14 t15 t16 t17 t18 t19 : AV) (H : Heap), f18_L0 p n  k m0 [(0, t0), (1, t1), (2, t2), (3, t3), (4, t4), (5, t5), (6, t6), (7, t7), (8, t8), (9, t9), (10, t10), (11, t11), (12, t12), (13, t13), (14, t14), (15, t15), (16, t16), (17, t17), (18, t18), (19, t19)] H = f18_l0 p n  k m0 t3 t7 t8 t9 H := by
  induction m0 with
  | zero => intros; rfl
  | succ m0 ih =>
    intro t0 t1 t2 t3 t4 t5 t6 t7 t8 t9 t10 t11 t12 t13 t14 t15 t16 t17 t18 t19 H
    rw [f18_L0_step]
    simp only [ih]
    rfl
theorem f18_raw (p : Pr β) (n : Nat) (a0 : AV) (H : Heap) (k : AV → Heap → Option β) : evalBody ti0 p n ⟨c18, 20, Go.Proofs.Try.f18.results.toList, o18⟩ [a0] H k =
  p.len a0 fun t8 =>
  f18_L0 p n  k n [(0, a0), (1, (.sc undef)), (2, .nl), (3, .nl), (4, (.sc undef)), (5, (.sc undef)), (6, .nl), (7, a0), (8, t8), (9, (.sc (.int .i64 0))), (10, (.sc undef)), (11, (.sc undef)), (12, (.sc undef)), (13, (.sc undef)), (14, (.sc undef)), (15, (.sc undef)), (16, (.sc undef)), (17, (.sc undef)), (18, (.sc undef)), (19, (.sc undef))] H := by kernel_rfl
theorem f18_body (p : Pr β) (n : Nat) (a0 : AV) (H : Heap) (k : AV → Heap → Option β) : evalBody ti0 p n ⟨c18, 20, Go.Proofs.Try.f18.results.toList, o18⟩ [a0] H k = f18 p n a0 H k := by
  rw [f18_raw]
  simp only [f18_l0_eq]
  rfl

/-! 7 loop.example/g00480/impl.Pop -/
noncomputable def f7 (p : Pr β) (n : Nat) (a0 : AV) (H : Heap) (k : AV → Heap → Option β) : Option β :=
  p.new [(.sc (.string ⟨#[]⟩)), .nl, (.sc (.int .i64 0)), (.sc (.bool false))] H fun t3 H =>
  p.call 24 (.fn 18 [] []) [a0] H fun t7 H =>
  p.len a0 fun t9 =>
  p.bin .eql t9 (.sc (.int .i64 0)) fun t10 =>
  p.cond t10
  (p.fill [(.sc (.string ⟨#[]⟩)), .nl, (.sc (.int .i64 0)), (.sc (.bool false))] [] fun ct12 =>
  p.store 4 t3 (.agg ct12) H fun H =>
  p.load true 4 t3 H fun r1 =>
  k (packA [t7, r1, (.sc (.bool false))]) H)
  (p.slice 4 t7 (some (.sc (.int .i64 1))) none fun t14 =>
  p.iadr 4 t7 (.sc (.int .i64 0)) fun t16 =>
  p.load true 4 t16 H fun t17 =>
  p.store 4 t3 t17 H fun H =>
  p.load true 4 t3 H fun r1 =>
  k (packA [t14, r1, (.sc (.bool true))]) H)
theorem f7_body (p : Pr β) (n : Nat) (a0 : AV) (H : Heap) (k : AV → Heap → Option β) : evalBody ti0 p n ⟨c7, 18, Go.Proofs.Try.f7.results.toList, o7⟩ [a0] H k = f7 p n a0 H k := by kernel_rfl

/-! 19 loop.example/g00480/laws.eqByteS -/
noncomputable def f19_l0 (p : Pr β) (n : Nat)  (k : AV → Heap → Option β) : Nat → AV → AV → AV → Heap → Option β
  | 0, _, _, _, _ => none
  | m + 1, t0, t1, t5, H => p.len t0 fun t13 =>
      p.bin .lss t5 t13 fun t14 =>
      p.cond t14
      (p.iadr 1 t0 t5 fun t19 =>
      p.load false 1 t19 H fun t20 =>
      p.iadr 1 t1 t5 fun t23 =>
      p.load false 1 t23 H fun t24 =>
      p.bin .neq t20 t24 fun t25 =>
      p.cond t25
      (k (.sc (.bool false)) H)
      (p.bin .add t5 (.sc (.int .i64 1)) fun t16 =>
      f19_l0 p n  k m t0 t1 t16 H))
      (k (.sc (.bool true)) H)
noncomputable def f19 (p : Pr β) (n : Nat) (a0 a1 : AV) (H : Heap) (k : AV → Heap → Option β) : Option β :=
  p.len a0 fun t7 =>
  p.len a1 fun t9 =>
  p.bin .neq t7 t9 fun t10 =>
  p.cond t10
  (k (.sc (.bool false)) H)
  (f19_l0 p n  k n a0 a1 (.sc (.int .i64 0)) H)
noncomputable def f19_L0 (p : Pr β) (n : Nat)  (k : AV → Heap → Option β) (m : Nat) (tm : Tm) (H : Heap) : Option β :=
  iterC 26 (fun tm H k => evalCode ti0 p o19 26 n (cd c19 [1, 1, 0, 1, 0, 0]) tm H k) (blkK 0 (seqK (fun tm H => evalCode ti0 p o19 26 n (cd c19 [1, 1, 1]) tm H (endK ti0 p Go.Proofs.Try.f19.results.toList k)) (endK ti0 p Go.Proofs.Try.f19.results.toList k))) m tm H
theorem f19_L0_step (p : Pr β) (n : Nat)  (k : AV → Heap → Option β) (m0 : Nat) (t0 t1 t2 t3 t4 t5 t6 t7 t8 t9 t10 t11 t12 t13 t14 t15 t16 t17 t18 t19 t20 t21 t22 t23 t24 t25 : AV) (H : Heap) : f19_L0 p n  k (m0 + 1) [(0, t0), (1, t1), (2, t2), (3, t3), (4, t4), (5, t5), (6, t6), (7, t7), (8, t8), (9, t9), (10, t10), (11, t11), (12, t12), (13, t13), (14, t14), (15, t15), (16, t16), (17, t17), (18, t18), (19, t19), (20, t20), (21, t21), (22, t22), (23, t23), (24, t24), (25, t25)] H =
  p.len t0 fun t13 =>
  p.bin .lss t5 t13 fun t14 =>
  p.cond t14
  (p.iadr 1 t0 t5 fun t19 =>
  p.load false 1 t19 H fun t20 =>
  p.iadr 1 t1 t5 fun t23 =>
  p.load false 1 t23 H fun t24 =>
  p.bin .neq t20 t24 fun t25 =>
  p.cond t25
  (k (.sc (.bool false)) H)
  (p.bin .add t5 (.sc (.int .i64 1)) fun t16 =>
  f19_L0 p n  k m0 [(0, t0), (1, t1), (2, t2), (3, t3), (4, t4), (5, t16), (6, t6), (7, t7), (8, t8), (9, t9), (10, t10), (11, t5), (12, t0), (13, t13), (14, t14), (15, t5), (16, t16), (17, t0), (18, t5), (19, t19), (20, t20), (21, t1), (22, t5), (23, t23), (24, t24), (25, t25)] H))
  (k (.sc (.bool true)) H) := by kernel_rfl
theorem f19_l0_eq (p : Pr β) (n : Nat)  (k : AV → Heap → Option β)   (m0 : Nat) : ∀ (t0 t1 t2 t3 t4 t5 t6 t7 t8 t9 t10 t11 t12 t13 t14 t15 t16 t17 t18 t19 t20 t21 t22 t23 t24 t25 : AV) (H : Heap), f19_L0 p n  k m0 [(0, t0), (1, t1), (2, t2), (3, t3), (4, t4), (5, t5), (6, t6), (7, t7), (8, t8), (9, t9), (10, t10), (11, t11), (12, t12), (13, t13), (14, t14), (15, t15), (16, t16), (17, t17), (18, t18), (19, t19), (20, t20), (21, t21), (22, t22), (23, t23), (24, t24), (25, t25)] H = f19_l0 p n  k m0 t0 t1 t5 H := by
  induction m0 with
  | zero => intros; rfl
  | succ m0 ih =>
    intro t0 t1 t2 t3 t4 t5 t6 t7 t8 t9 t10 t11 t12 t13 t14 t15 t16 t17 t18 t19 t20 t21 t22 t23 t24 t25 H
    rw [f19_L0_step]
    simp only [ih]
    rfl
theorem f19_raw (p : Pr β) (n : Nat) (a0 a1 : AV) (H : Heap) (k : AV → Heap → Option β) : evalBody ti0 p n ⟨c19, 26, Go.Proofs.Try.f19.results.toList, o19⟩ [a0, a1] H k =
  p.len a0 fun t7 =>
  p.len a1 fun t9 =>
  p.bin .neq t7 t9 fun t10 =>
  p.cond t10
  (k (.sc (.bool false)) H)
  (f19_L0 p n  k n [(0, a0), (1, a1), (2, (.sc undef)), (3, (.sc undef)), (4, (.sc (.bool false))), (5, (.sc (.int .i64 0))), (6, a0), (7, t7), (8, a1), (9, t9), (10, t10), (11, (.sc undef)), (12, (.sc undef)), (13, (.sc undef)), (14, (.sc undef)), (15, (.sc undef)), (16, (.sc undef)), (17, (.sc undef)), (18, (.sc undef)), (19, (.sc undef)), (20, (.sc undef)), (21, (.sc undef)), (22, (.sc undef)), (23, (.sc undef)), (24, (.sc undef)), (25, (.sc undef))] H) := by kernel_rfl
theorem f19_body (p : Pr β) (n : Nat) (a0 a1 : AV) (H : Heap) (k : AV → Heap → Option β) : evalBody ti0 p n ⟨c19, 26, Go.Proofs.Try.f19.results.toList, o19⟩ [a0, a1] H k = f19 p n a0 a1 H k := by
  rw [f19_raw]
  simp only [f19_l0_eq]
  rfl

/-! 9 loop.example/g00480/laws.eqMsg -/
noncomputable def f9 (p : Pr β) (n : Nat) (a0 a1 : AV) (H : Heap) (k : AV → Heap → Option β) : Option β :=
  p.box a0 H fun t2 H =>
  p.box a1 H fun t3 H =>
  p.fadr 0 t2 fun t5 =>
  p.load false 1 t5 H fun t6 =>
  p.fadr 0 t3 fun t7 =>
  p.load false 1 t7 H fun t8 =>
  p.bin .neq t6 t8 fun t9 =>
  p.cond t9
  (k (.sc (.bool false)) H)
  (p.fadr 1 t2 fun t10 =>
  p.load false 1 t10 H fun t11 =>
  p.fadr 1 t3 fun t12 =>
  p.load false 1 t12 H fun t13 =>
  p.call 4 (.fn 19 [] []) [t11, t13] H fun t14 H =>
  p.un .not t14 fun t15 =>
  p.cond t15
  (k (.sc (.bool false)) H)
  (p.fadr 2 t2 fun t16 =>
  p.load false 1 t16 H fun t17 =>
  p.fadr 2 t3 fun t18 =>
  p.load false 1 t18 H fun t19 =>
  p.bin .neq t17 t19 fun t20 =>
  p.cond t20
  (k (.sc (.bool false)) H)
  (p.fadr 3 t2 fun t21 =>
  p.load false 1 t21 H fun t22 =>
  p.fadr 3 t3 fun t23 =>
  p.load false 1 t23 H fun t24 =>
  p.binB .neq t22 t24 fun t25 =>
  p.cond t25
  (k (.sc (.bool false)) H)
  (k (.sc (.bool true)) H))))
theorem f9_body (p : Pr β) (n : Nat) (a0 a1 : AV) (H : Heap) (k : AV → Heap → Option β) : evalBody ti0 p n ⟨c9, 26, Go.Proofs.Try.f9.results.toList, o9⟩ [a0, a1] H k = f9 p n a0 a1 H k := by kernel_rfl

/-! 8 loop.example/g00480/laws.eqMsgS -/
noncomputable def f8_l0 (p : Pr β) (n : Nat)  (k : AV → Heap → Option β) : Nat → AV → AV → AV → Heap → Option β
  | 0, _, _, _, _ => none
  | m + 1, t0, t1, t5, H => p.len t0 fun t13 =>
      p.bin .lss t5 t13 fun t14 =>
      p.cond t14
      (p.iadr 4 t0 t5 fun t19 =>
      p.load true 4 t19 H fun t20 =>
      p.iadr 4 t1 t5 fun t23 =>
      p.load true 4 t23 H fun t24 =>
      p.call 4 (.fn 9 [] []) [t20, t24] H fun t25 H =>
      p.un .not t25 fun t26 =>
      p.cond t26
      (k (.sc (.bool false)) H)
      (p.bin .add t5 (.sc (.int .i64 1)) fun t16 =>
      f8_l0 p n  k m t0 t1 t16 H))
      (k (.sc (.bool true)) H)
noncomputable def f8 (p : Pr β) (n : Nat) (a0 a1 : AV) (H : Heap) (k : AV → Heap → Option β) : Option β :=
  p.len a0 fun t7 =>
  p.len a1 fun t9 =>
  p.bin .neq t7 t9 fun t10 =>
  p.cond t10
  (k (.sc (.bool false)) H)
  (f8_l0 p n  k n a0 a1 (.sc (.int .i64 0)) H)
noncomputable def f8_L0 (p : Pr β) (n : Nat)  (k : AV → Heap → Option β) (m : Nat) (tm : Tm) (H : Heap) : Option β :=
  iterC 27 (fun tm H k => evalCode ti0 p o8 27 n (cd c8 [1, 1, 0, 1, 0, 0]) tm H k) (blkK 0 (seqK (fun tm H => evalCode ti0 p o8 27 n (cd c8 [1, 1, 1]) tm H (endK ti0 p Go.Proofs.Try.f8.results.toList k)) (endK ti0 p Go.Proofs.Try.f8.results.toList k))) m tm H
theorem f8_L0_step (p : Pr β) (n : Nat)  (k : AV → Heap → Option β) (m0 : Nat) (t0 t1 t2 t3 t4 t5 t6 t7 t8 t9 t10 t11 t12 t13 t14 t15 t16 t17 t18 t19 t20 t21 t22 t23 t24 t25 t26 : AV) (H : Heap) : f8_L0 p n  k (m0 + 1) [(0, t0), (1, t1), (2, t2), (3, t3), (4, t4), (5, t5), (6, t6), (7, t7), (8, t8), (9, t9), (10, t10), (11, t11), (12, t12), (13, t13), (14, t14), (15, t15), (16, t16), (17, t17), (18, t18), (19, t19), (20, t20), (21, t21), (22, t22), (23, t23), (24, t24), (25, t25), (26, t26)] H =
  p.len t0 fun t13 =>
  p.bin .lss t5 t13 fun t14 =>
  p.cond t14
  (p.iadr 4 t0 t5 fun t19 =>
  p.load true 4 t19 H fun t20 =>
  p.iadr 4 t1 t5 fun t23 =>
  p.load true 4 t23 H fun t24 =>
  p.call 4 (.fn 9 [] []) [t20, t24] H fun t25 H =>
  p.un .not t25 fun t26 =>
  p.cond t26
  (k (.sc (.bool false)) H)
  (p.bin .add t5 (.sc (.int .i64 1)) fun t16 =>
  f8_L0 p n  k m0 [(0, t0), (1, t1), (2, t2), (3, t3), (4, t4), (5, t16), (6, t6), (7, t7), (8, t8), (9, t9), (10, t10), (11, t5), (12, t0), (13, t13), (14, t14), (15, t5), (16, t16), (17, t0), (18, t5), (19, t19), (20, t20), (21, t1), (22, t5), (23, t23), (24, t24), (25, t25), (26, t26)] H))
  (k (.sc (.bool true)) H) := by kernel_rfl
theorem f8_l0_eq (p : Pr β) (n : Nat)  (k : AV → Heap → Option β)   (m0 : Nat) : ∀ (t0 t1 t2 t3 t4 t5 t6 t7 t8 t9 t10 t11 t12 t13 t14 t15 t16 t17 t18 t19 t20 t21 t22 t23 t24 t25 t26 : AV) (H : Heap), f8_L0 p n  k m0 [(0, t0), (1, t1), (2, t2), (3, t3), (4, t4), (5, t5), (6, t6), (7, t7), (8, t8), (9, t9), (10, t10), (11, t11), (12, t12), (13, t13), (14, t14), (15, t15), (16, t16), (17, t17), (18, t18), (19, t19), (20, t20), (21, t21), (22, t22), (23, t23), (24, t24), (25, t25), (26, t26)] H = f8_l0 p n  k m0 t0 t1 t5 H := by
  induction m0 with
  | zero => intros; rfl
  | succ m0 ih =>
    intro t0 t1 t2 t3 t4 t5 t6 t7 t8 t9 t10 t11 t12 t13 t14 t15 t16 t17 t18 t19 t20 t21 t22 t23 t24 t25 t26 H
    rw [f8_L0_step]
    simp only [ih]
    rfl
theorem f8_raw (p : Pr β) (n : Nat) (a0 a1 : AV) (H : Heap) (k : AV → Heap → Option β) : evalBody ti0 p n ⟨c8, 27, Go.Proofs.Try.f8.results.toList, o8⟩ [a0, a1] H k =
  p.len a0 fun t7 =>
  p.len a1 fun t9 =>
  p.bin .neq t7 t9 fun t10 =>
  p.cond t10
  (k (.sc (.bool false)) H)
  (f8_L0 p n  k n [(0, a0), (1, a1), (2, (.sc undef)), (3, (.sc undef)), (4, (.sc (.bool false))), (5, (.sc (.int .i64 0))), (6, a0), (7, t7), (8, a1), (9, t9), (10, t10), (11, (.sc undef)), (12, (.sc undef)), (13, (.sc undef)), (14, (.sc undef)), (15, (.sc undef)), (16, (.sc undef)), (17, (.sc undef)), (18, (.sc undef)), (19, (.sc undef)), (20, (.sc undef)), (21, (.sc undef)), (22, (.sc undef)), (23, (.sc undef)), (24, (.sc undef)), (25, (.sc undef)), (26, (.sc undef))] H) := by kernel_rfl
theorem f8_body (p : Pr β) (n : Nat) (a0 a1 : AV) (H : Heap) (k : AV → Heap → Option β) : evalBody ti0 p n ⟨c8, 27, Go.Proofs.Try.f8.results.toList, o8⟩ [a0, a1] H k = f8 p n a0 a1 H k := by
  rw [f8_raw]
  simp only [f8_l0_eq]
  rfl

/-! 20 loop.example/g00480/laws.markText -/
noncomputable def f20_l0 (p : Pr β) (n : Nat)  (k : AV → Heap → Option β) : Nat → AV → AV → Heap → Option β
  | 0, _, _, _ => none
  | m + 1, t0, t3, H => p.bin .gtr t0 (.sc (.int .i64 0)) fun t7 =>
      p.cond t7
      (p.bin .rem t0 (.sc (.int .i64 10)) fun t9 =>
      p.bin .add (.sc (.int .i64 48)) t9 fun t10 =>
      p.cvI .u8 t10 fun t11 =>
      p.fill [(.sc (.int .u8 0))] [(0, 1, t11)] fun ct12 => p.newSl 1 1 ct12 true H fun t12 H =>
      p.cvBS t12 H fun t13 =>
      p.bin .add t13 t3 fun t15 =>
      p.bin .quo t0 (.sc (.int .i64 10)) fun t17 =>
      f20_l0 p n  k m t17 t15 H)
      (p.bin .add (.sc (.string ⟨#[109]⟩)) t3 fun t19 =>
      k t19 H)
noncomputable def f20 (p : Pr β) (n : Nat) (a0 : AV) (H : Heap) (k : AV → Heap → Option β) : Option β :=
  p.bin .leq a0 (.sc (.int .i64 0)) fun t5 =>
  p.cond t5
  (k (.sc (.string ⟨#[109, 48]⟩)) H)
  (f20_l0 p n  k n a0 (.sc (.string ⟨#[]⟩)) H)
noncomputable def f20_L0 (p : Pr β) (n : Nat)  (k : AV → Heap → Option β) (m : Nat) (tm : Tm) (H : Heap) : Option β :=
  iterC 20 (fun tm H k => evalCode ti0 p o20 20 n (cd c20 [1, 1, 1, 0, 0, 0]) tm H k) (blkK 0 (seqK (fun tm H => evalCode ti0 p o20 20 n (cd c20 [1, 1, 1, 1]) tm H (endK ti0 p Go.Proofs.Try.f20.results.toList k)) (endK ti0 p Go.Proofs.Try.f20.results.toList k))) m tm H
theorem f20_L0_step (p : Pr β) (n : Nat)  (k : AV → Heap → Option β) (m0 : Nat) (t0 t1 t2 t3 t4 t5 t6 t7 t8 t9 t10 t11 t12 t13 t14 t15 t16 t17 t18 t19 : AV) (H : Heap) : f20_L0 p n  k (m0 + 1) [(0, t0), (1, t1), (2, t2), (3, t3), (4, t4), (5, t5), (6, t6), (7, t7), (8, t8), (9, t9), (10, t10), (11, t11), (12, t12), (13, t13), (14, t14), (15, t15), (16, t16), (17, t17), (18, t18), (19, t19)] H =
  p.bin .gtr t0 (.sc (.int .i64 0)) fun t7 =>
  p.cond t7
  (p.bin .rem t0 (.sc (.int .i64 10)) fun t9 =>
  p.bin .add (.sc (.int .i64 48)) t9 fun t10 =>
  p.cvI .u8 t10 fun t11 =>
  p.fill [(.sc (.int .u8 0))] [(0, 1, t11)] fun ct12 => p.newSl 1 1 ct12 true H fun t12 H =>
  p.cvBS t12 H fun t13 =>
  p.bin .add t13 t3 fun t15 =>
  p.bin .quo t0 (.sc (.int .i64 10)) fun t17 =>
  f20_L0 p n  k m0 [(0, t17), (1, t1), (2, t2), (3, t15), (4, t4), (5, t5), (6, t0), (7, t7), (8, t0), (9, t9), (10, t10), (11, t11), (12, t12), (13, t13), (14, t3), (15, t15), (16, t0), (17, t17), (18, t18), (19, t19)] H)
  (p.bin .add (.sc (.string ⟨#[109]⟩)) t3 fun t19 =>
  k t19 H) := by kernel_rfl
theorem f20_l0_eq (p : Pr β) (n : Nat)  (k : AV → Heap → Option β)   (m0 : Nat) : ∀ (t0 t1 t2 t3 t4 t5 t6 t7 t8 t9 t10 t11 t12 t13 t14 t15 t16 t17 t18 t19 : AV) (H : Heap), f20_L0 p n  k m0 [(0, t0), (1, t1), (2, t2), (3, t3), (4, t4), (5, t5), (6, t6), (7, t7), (8, t8), (9, t9), (10, t10), (11, t11), (12, t12), (13, t13), (14, t14), (15, t15), (16, t16), (17, t17), (18, t18), (19, t19)] H = f20_l0 p n  k m0 t0 t3 H := by
  induction m0 with
  | zero => intros; rfl
  | succ m0 ih =>
    intro t0 t1 t2 t3 t4 t5 t6 t7 t8 t9 t10 t11 t12 t13 t14 t15 t16 t17 t18 t19 H
    rw [f20_L0_step]
    simp only [ih]
    rfl
theorem f20_raw (p : Pr β) (n : Nat) (a0 : AV) (H : Heap) (k : AV → Heap → Option β) : evalBody ti0 p n ⟨c20, 20, Go.Proofs.Try.f20.results.toList, o20⟩ [a0] H k =
  p.bin .leq a0 (.sc (.int .i64 0)) fun t5 =>
  p.cond t5
  (k (.sc (.string ⟨#[109, 48]⟩)) H)
  (f20_L0 p n  k n [(0, a0), (1, (.sc undef)), (2, (.sc (.string ⟨#[]⟩))), (3, (.sc (.string ⟨#[]⟩))), (4, a0), (5, t5), (6, (.sc undef)), (7, (.sc undef)), (8, (.sc undef)), (9, (.sc undef)), (10, (.sc undef)), (11, (.sc undef)), (12, (.sc undef)), (13, (.sc undef)), (14, (.sc undef)), (15, (.sc undef)), (16, (.sc undef)), (17, (.sc undef)), (18, (.sc undef)), (19, (.sc undef))] H) := by kernel_rfl
theorem f20_body (p : Pr β) (n : Nat) (a0 : AV) (H : Heap) (k : AV → Heap → Option β) : evalBody ti0 p n ⟨c20, 20, Go.Proofs.Try.f20.results.toList, o20⟩ [a0] H k = f20 p n a0 H k := by
  rw [f20_raw]
  simp only [f20_l0_eq]
  rfl

/-! 21 loop.example/g00480/laws.markByteS -/
noncomputable def f21_l0 (p : Pr β) (n : Nat)  (k : AV → Heap → Option β) : Nat → AV → AV → AV → Heap → Option β
  | 0, _, _, _, _ => none
  | m + 1, t0, t1, t5, H => p.len t0 fun t8 =>
      p.bin .lss t5 t8 fun t9 =>
      p.cond t9
      (p.cvI .u8 t1 fun t15 =>
      p.iadr 1 t0 t5 fun t16 =>
      p.store 1 t16 t15 H fun H =>
      p.bin .add t1 (.sc (.int .i64 1)) fun t18 =>
      p.bin .add t5 (.sc (.int .i64 1)) fun t11 =>
      f21_l0 p n  k m t0 t18 t11 H)
      (k t1 H)
noncomputable def f21 (p : Pr β) (n : Nat) (a0 a1 : AV) (H : Heap) (k : AV → Heap → Option β) : Option β :=
  f21_l0 p n  k n a0 a1 (.sc (.int .i64 0)) H
noncomputable def f21_L0 (p : Pr β) (n : Nat)  (k : AV → Heap → Option β) (m : Nat) (tm : Tm) (H : Heap) : Option β :=
  iterC 20 (fun tm H k => evalCode ti0 p o21 20 n (cd c21 [1, 0, 1, 0, 0]) tm H k) (blkK 0 (seqK (fun tm H => evalCode ti0 p o21 20 n (cd c21 [1, 1]) tm H (endK ti0 p Go.Proofs.Try.f21.results.toList k)) (endK ti0 p Go.Proofs.Try.f21.results.toList k))) m tm H
theorem f21_L0_step (p : Pr β) (n : Nat)  (k : AV → Heap → Option β) (m0 : Nat) (t0 t1 t2 t3 t4 t5 t6 t7 t8 t9 t10 t11 t12 t13 t14 t15 t16 t17 t18 t19 : AV) (H : Heap) : f21_L0 p n  k (m0 + 1) [(0, t0), (1, t1), (2, t2), (3, t3), (4, t4), (5, t5), (6, t6), (7, t7), (8, t8), (9, t9), (10, t10), (11, t11), (12, t12), (13, t13), (14, t14), (15, t15), (16, t16), (17, t17), (18, t18), (19, t19)] H =
  p.len t0 fun t8 =>
  p.bin .lss t5 t8 fun t9 =>
  p.cond t9
  (p.cvI .u8 t1 fun t15 =>
  p.iadr 1 t0 t5 fun t16 =>
  p.store 1 t16 t15 H fun H =>
  p.bin .add t1 (.sc (.int .i64 1)) fun t18 =>
  p.bin .add t5 (.sc (.int .i64 1)) fun t11 =>
  f21_L0 p n  k m0 [(0, t0), (1, t18), (2, t2), (3, t3), (4, t4), (5, t11), (6, t5), (7, t0), (8, t8), (9, t9), (10, t5), (11, t11), (12, t0), (13, t5), (14, t1), (15, t15), (16, t16), (17, t1), (18, t18), (19, t19)] H)
  (k t1 H) := by kernel_rfl
theorem f21_l0_eq (p : Pr β) (n : Nat)  (k : AV → Heap → Option β)   (m0 : Nat) : ∀ (t0 t1 t2 t3 t4 t5 t6 t7 t8 t9 t10 t11 t12 t13 t14 t15 t16 t17 t18 t19 : AV) (H : Heap), f21_L0 p n  k m0 [(0, t0), (1, t1), (2, t2), (3, t3), (4, t4), (5, t5), (6, t6), (7, t7), (8, t8), (9, t9), (10, t10), (11, t11), (12, t12), (13, t13), (14, t14), (15, t15), (16, t16), (17, t17), (18, t18), (19, t19)] H = f21_l0 p n  k m0 t0 t1 t5 H := by
  induction m0 with
  | zero => intros; rfl
  | succ m0 ih =>
    intro t0 t1 t2 t3 t4 t5 t6 t7 t8 t9 t10 t11 t12 t13 t14 t15 t16 t17 t18 t19 H
    rw [f21_L0_step]
    simp only [ih]
    rfl
theorem f21_raw (p : Pr β) (n : Nat) (a0 a1 : AV) (H : Heap) (k : AV → Heap → Option β) : evalBody ti0 p n ⟨c21, 20, Go.Proofs.Try.f21.results.toList, o21⟩ [a0, a1] H k =
  f21_L0 p n  k n [(0, a0), (1, a1), (2, (.sc undef)), (3, (.sc undef)), (4, (.sc (.int .i64 0))), (5, (.sc (.int .i64 0))), (6, (.sc undef)), (7, (.sc undef)), (8, (.sc undef)), (9, (.sc undef)), (10, (.sc undef)), (11, (.sc undef)), (12, (.sc undef)), (13, (.sc undef)), (14, (.sc undef)), (15, (.sc undef)), (16, (.sc undef)), (17, (.sc undef)), (18, (.sc undef)), (19, (.sc undef))] H := by kernel_rfl
theorem f21_body (p : Pr β) (n : Nat) (a0 a1 : AV) (H : Heap) (k : AV → Heap → Option β) : evalBody ti0 p n ⟨c21, 20, Go.Proofs.Try.f21.results.toList, o21⟩ [a0, a1] H k = f21 p n a0 a1 H k := by
  rw [f21_raw]
  simp only [f21_l0_eq]
  rfl

/-! 10 loop.example/g00480/laws.markMsgS -/
noncomputable def f10_l0 (p : Pr β) (n : Nat)  (k : AV → Heap → Option β) : Nat → AV → AV → AV → Heap → Option β
  | 0, _, _, _, _ => none
  | m + 1, t0, t1, t5, H => p.len t0 fun t8 =>
      p.bin .lss t5 t8 fun t9 =>
      p.cond t9
      (p.call 9 (.fn 20 [] []) [t1] H fun t15 H =>
      p.iadr 4 t0 t5 fun t16 =>
      p.fadr 0 t16 fun t17 =>
      p.store 1 t17 t15 H fun H =>
      p.bin .add t1 (.sc (.int .i64 1)) fun t19 =>
      p.iadr 4 t0 t5 fun t22 =>
      p.fadr 1 t22 fun t23 =>
      p.load false 1 t23 H fun t24 =>
      p.call 3 (.fn 21 [] []) [t24, t19] H fun t26 H =>
      p.iadr 4 t0 t5 fun t30 =>
      p.fadr 2 t30 fun t31 =>
      p.store 1 t31 t26 H fun H =>
      p.bin .add t26 (.sc (.int .i64 1)) fun t33 =>
      p.bin .rem t33 (.sc (.int .i64 3)) fun t37 =>
      p.bin .eql t37 (.sc (.int .i64 0)) fun t38 =>
      p.iadr 4 t0 t5 fun t39 =>
      p.fadr 3 t39 fun t40 =>
      p.store 1 t40 t38 H fun H =>
      p.bin .add t33 (.sc (.int .i64 1)) fun t42 =>
      p.bin .add t5 (.sc (.int .i64 1)) fun t11 =>
      f10_l0 p n  k m t0 t42 t11 H)
      (k t1 H)
noncomputable def f10 (p : Pr β) (n : Nat) (a0 a1 : AV) (H : Heap) (k : AV → Heap → Option β) : Option β :=
  f10_l0 p n  k n a0 a1 (.sc (.int .i64 0)) H
noncomputable def f10_L0 (p : Pr β) (n : Nat)  (k : AV → Heap → Option β) (m : Nat) (tm : Tm) (H : Heap) : Option β :=
  iterC 44 (fun tm H k => evalCode ti0 p o10 44 n (cd c10 [1, 0, 1, 0, 0]) tm H k) (blkK 0 (seqK (fun tm H => evalCode ti0 p o10 44 n (cd c10 [1, 1]) tm H (endK ti0 p Go.Proofs.Try.f10.results.toList k)) (endK ti0 p Go.Proofs.Try.f10.results.toList k))) m tm H
theorem f10_L0_step (p : Pr β) (n : Nat)  (k : AV → Heap → Option β) (m0 : Nat) (t0 t1 t2 t3 t4 t5 t6 t7 t8 t9 t10 t11 t12 t13 t14 t15 t16 t17 t18 t19 t20 t21 t22 t23 t24 t25 t26 t27 t28 t29 t30 t31 t32 t33 t34 t35 t36 t37 t38 t39 t40 t41 t42 t43 : AV) (H : Heap) : f10_L0 p n  k (m0 + 1) [(0, t0), (1, t1), (2, t2), (3, t3), (4, t4), (5, t5), (6, t6), (7, t7), (8, t8), (9, t9), (10, t10), (11, t11), (12, t12), (13, t13), (14, t14), (15, t15), (16, t16), (17, t17), (18, t18), (19, t19), (20, t20), (21, t21), (22, t22), (23, t23), (24, t24), (25, t25), (26, t26), (27, t27), (28, t28), (29, t29), (30, t30), (31, t31), (32, t32), (33, t33), (34, t34), (35, t35), (36, t36), (37, t37), (38, t38), (39, t39), (40, t40), (41, t41), (42, t42), (43, t43)] H =
  p.len t0 fun t8 =>
  p.bin .lss t5 t8 fun t9 =>
  p.cond t9
  (p.call 9 (.fn 20 [] []) [t1] H fun t15 H =>
  p.iadr 4 t0 t5 fun t16 =>
  p.fadr 0 t16 fun t17 =>
  p.store 1 t17 t15 H fun H =>
  p.bin .add t1 (.sc (.int .i64 1)) fun t19 =>
  p.iadr 4 t0 t5 fun t22 =>
  p.fadr 1 t22 fun t23 =>
  p.load false 1 t23 H fun t24 =>
  p.call 3 (.fn 21 [] []) [t24, t19] H fun t26 H =>
  p.iadr 4 t0 t5 fun t30 =>
  p.fadr 2 t30 fun t31 =>
  p.store 1 t31 t26 H fun H =>
  p.bin .add t26 (.sc (.int .i64 1)) fun t33 =>
  p.bin .rem t33 (.sc (.int .i64 3)) fun t37 =>
  p.bin .eql t37 (.sc (.int .i64 0)) fun t38 =>
  p.iadr 4 t0 t5 fun t39 =>
  p.fadr 3 t39 fun t40 =>
  p.store 1 t40 t38 H fun H =>
  p.bin .add t33 (.sc (.int .i64 1)) fun t42 =>
  p.bin .add t5 (.sc (.int .i64 1)) fun t11 =>
  f10_L0 p n  k m0 [(0, t0), (1, t42), (2, t2), (3, t3), (4, t4), (5, t11), (6, t5), (7, t0), (8, t8), (9, t9), (10, t5), (11, t11), (12, t0), (13, t5), (14, t1), (15, t15), (16, t16), (17, t17), (18, t1), (19, t19), (20, t0), (21, t5), (22, t22), (23, t23), (24, t24), (25, t19), (26, t26), (27, t0), (28, t5), (29, t26), (30, t30), (31, t31), (32, t26), (33, t33), (34, t0), (35, t5), (36, t33), (37, t37), (38, t38), (39, t39), (40, t40), (41, t33), (42, t42), (43, t43)] H)
  (k t1 H) := by kernel_rfl
theorem f10_l0_eq (p : Pr β) (n : Nat)  (k : AV → Heap → Option β)   (m0 : Nat) : ∀ (t0 t1 t2 t3 t4 t5 t6 t7 t8 t9 t10 t11 t12 t13 t14 t15 t16 t17 t18 t19 t20 t21 t22 t23 t24 t25 t26 t27 t28 t29 t30 t31 t32 t33 t34 t35 t36 t37 t38 t39 t40 t41 t42 t43 : AV) (H : Heap), f10_L0 p n  k m0 [(0, t0), (1, t1), (2, t2), (3, t3), (4, t4), (5, t5), (6, t6), (7, t7), (8, t8), (9, t9), (10, t10), (11, t11), (12, t12), (13, t13), (14, t14), (15, t15), (16, t16), (17, t17), (18, t18), (19, t19), (20, t20), (21, t21), (22, t22), (23, t23), (24, t24), (25, t25), (26, t26), (27, t27), (28, t28), (29, t29), (30, t30), (31, t31), (32, t32), (33, t33), (34, t34), (35, t35), (36, t36), (37, t37), (38, t38), (39, t39), (40, t40), (41, t41), (42, t42), (43, t43)] H = f10_l0 p n  k m0 t0 t1 t5 H := by
  induction m0 with
  | zero => intros; rfl
  | succ m0 ih =>
    intro t0 t1 t2 t3 t4 t5 t6 t7 t8 t9 t10 t11 t12 t13 t14 t15 t16 t17 t18 t19 t20 t21 t22 t23 t24 t25 t26 t27 t28 t29 t30 t31 t32 t33 t34 t35 t36 t37 t38 t39 t40 t41 t42 t43 H
    rw [f10_L0_step]
    simp only [ih]
    rfl
theorem f10_raw (p : Pr β) (n : Nat) (a0 a1 : AV) (H : Heap) (k : AV → Heap → Option β) : evalBody ti0 p n ⟨c10, 44, Go.Proofs.Try.f10.results.toList, o10⟩ [a0, a1] H k =
  f10_L0 p n  k n [(0, a0), (1, a1), (2, (.sc undef)), (3, (.sc undef)), (4, (.sc (.int .i64 0))), (5, (.sc (.int .i64 0))), (6, (.sc undef)), (7, (.sc undef)), (8, (.sc undef)), (9, (.sc undef)), (10, (.sc undef)), (11, (.sc undef)), (12, (.sc undef)), (13, (.sc undef)), (14, (.sc undef)), (15, (.sc undef)), (16, (.sc undef)), (17, (.sc undef)), (18, (.sc undef)), (19, (.sc undef)), (20, (.sc undef)), (21, (.sc undef)), (22, (.sc undef)), (23, (.sc undef)), (24, (.sc undef)), (25, (.sc undef)), (26, (.sc undef)), (27, (.sc undef)), (28, (.sc undef)), (29, (.sc undef)), (30, (.sc undef)), (31, (.sc undef)), (32, (.sc undef)), (33, (.sc undef)), (34, (.sc undef)), (35, (.sc undef)), (36, (.sc undef)), (37, (.sc undef)), (38, (.sc undef)), (39, (.sc undef)), (40, (.sc undef)), (41, (.sc undef)), (42, (.sc undef)), (43, (.sc undef))] H := by kernel_rfl
theorem f10_body (p : Pr β) (n : Nat) (a0 a1 : AV) (H : Heap) (k : AV → Heap → Option β) : evalBody ti0 p n ⟨c10, 44, Go.Proofs.Try.f10.results.toList, o10⟩ [a0, a1] H k = f10 p n a0 a1 H k := by
  rw [f10_raw]
  simp only [f10_l0_eq]
  rfl

/-! 11 loop.example/g00480/laws.markMsg -/
noncomputable def f11 (p : Pr β) (n : Nat) (a0 a1 : AV) (H : Heap) (k : AV → Heap → Option β) : Option β :=
  p.box a0 H fun t2 H =>
  p.fadr 1 t2 fun t5 =>
  p.load false 1 t5 H fun t6 =>
  p.call 3 (.fn 21 [] []) [t6, a1] H fun t8 H =>
  k t8 H
theorem f11_body (p : Pr β) (n : Nat) (a0 a1 : AV) (H : Heap) (k : AV → Heap → Option β) : evalBody ti0 p n ⟨c11, 10, Go.Proofs.Try.f11.results.toList, o11⟩ [a0, a1] H k = f11 p n a0 a1 H k := by kernel_rfl

/-! 22 loop.example/g00480/laws.heldByteS -/
noncomputable def f22_l0 (p : Pr β) (n : Nat)  (k : AV → Heap → Option β) : Nat → AV → AV → AV → Heap → Option β
  | 0, _, _, _, _ => none
  | m + 1, t0, t1, t5, H => p.len t0 fun t8 =>
      p.bin .lss t5 t8 fun t9 =>
      p.cond t9
      (p.iadr 1 t0 t5 fun t14 =>
      p.load false 1 t14 H fun t15 =>
      p.cvI .u8 t1 fun t17 =>
      p.bin .neq t15 t17 fun t18 =>
      p.cond t18
      (k (.sc (.int .i64 (-1))) H)
      (p.bin .add t1 (.sc (.int .i64 1)) fun t20 =>
      p.bin .add t5 (.sc (.int .i64 1)) fun t11 =>
      f22_l0 p n  k m t0 t20 t11 H))
      (k t1 H)
noncomputable def f22 (p : Pr β) (n : Nat) (a0 a1 : AV) (H : Heap) (k : AV → Heap → Option β) : Option β :=
  f22_l0 p n  k n a0 a1 (.sc (.int .i64 0)) H
noncomputable def f22_L0 (p : Pr β) (n : Nat)  (k : AV → Heap → Option β) (m : Nat) (tm : Tm) (H : Heap) : Option β :=
  iterC 22 (fun tm H k => evalCode ti0 p o22 22 n (cd c22 [1, 0, 1, 0, 0]) tm H k) (blkK 0 (seqK (fun tm H => evalCode ti0 p o22 22 n (cd c22 [1, 1]) tm H (endK ti0 p Go.Proofs.Try.f22.results.toList k)) (endK ti0 p Go.Proofs.Try.f22.results.toList k))) m tm H
theorem f22_L0_step (p : Pr β) (n : Nat)  (k : AV → Heap → Option β) (m0 : Nat) (t0 t1 t2 t3 t4 t5 t6 t7 t8 t9 t10 t11 t12 t13 t14 t15 t16 t17 t18 t19 t20 t21 : AV) (H : Heap) : f22_L0 p n  k (m0 + 1) [(0, t0), (1, t1), (2, t2), (3, t3), (4, t4), (5, t5), (6, t6), (7, t7), (8, t8), (9, t9), (10, t10), (11, t11), (12, t12), (13, t13), (14, t14), (15, t15), (16, t16), (17, t17), (18, t18), (19, t19), (20, t20), (21, t21)] H =
  p.len t0 fun t8 =>
  p.bin .lss t5 t8 fun t9 =>
  p.cond t9
  (p.iadr 1 t0 t5 fun t14 =>
  p.load false 1 t14 H fun t15 =>
  p.cvI .u8 t1 fun t17 =>
  p.bin .neq t15 t17 fun t18 =>
  p.cond t18
  (k (.sc (.int .i64 (-1))) H)
  (p.bin .add t1 (.sc (.int .i64 1)) fun t20 =>
  p.bin .add t5 (.sc (.int .i64 1)) fun t11 =>
  f22_L0 p n  k m0 [(0, t0), (1, t20), (2, t2), (3, t3), (4, t4), (5, t11), (6, t5), (7, t0), (8, t8), (9, t9), (10, t5), (11, t11), (12, t0), (13, t5), (14, t14), (15, t15), (16, t1), (17, t17), (18, t18), (19, t1), (20, t20), (21, t21)] H))
  (k t1 H) := by kernel_rfl
theorem f22_l0_eq (p : Pr β) (n : Nat)  (k : AV → Heap → Option β)   (m0 : Nat) : ∀ (t0 t1 t2 t3 t4 t5 t6 t7 t8 t9 t10 t11 t12 t13 t14 t15 t16 t17 t18 t19 t20 t21 : AV) (H : Heap), f22_L0 p n  k m0 [(0, t0), (1, t1), (2, t2), (3, t3), (4, t4), (5, t5), (6, t6), (7, t7), (8, t8), (9, t9), (10, t10), (11, t11), (12, t12), (13, t13), (14, t14), (15, t15), (16, t16), (17, t17), (18, t18), (19, t19), (20, t20), (21, t21)] H = f22_l0 p n  k m0 t0 t1 t5 H := by
  induction m0 with
  | zero => intros; rfl
  | succ m0 ih =>
    intro t0 t1 t2 t3 t4 t5 t6 t7 t8 t9 t10 t11 t12 t13 t14 t15 t16 t17 t18 t19 t20 t21 H
    rw [f22_L0_step]
    simp only [ih]
    rfl
theorem f22_raw (p : Pr β) (n : Nat) (a0 a1 : AV) (H : Heap) (k : AV → Heap → Option β) : evalBody ti0 p n ⟨c22, 22, Go.Proofs.Try.f22.results.toList, o22⟩ [a0, a1] H k =
  f22_L0 p n  k n [(0, a0), (1, a1), (2, (.sc undef)), (3, (.sc undef)), (4, (.sc (.int .i64 0))), (5, (.sc (.int .i64 0))), (6, (.sc undef)), (7, (.sc undef)), (8, (.sc undef)), (9, (.sc undef)), (10, (.sc undef)), (11, (.sc undef)), (12, (.sc undef)), (13, (.sc undef)), (14, (.sc undef)), (15, (.sc undef)), (16, (.sc undef)), (17, (.sc undef)), (18, (.sc undef)), (19, (.sc undef)), (20, (.sc undef)), (21, (.sc undef))] H := by kernel_rfl
theorem f22_body (p : Pr β) (n : Nat) (a0 a1 : AV) (H : Heap) (k : AV → Heap → Option β) : evalBody ti0 p n ⟨c22, 22, Go.Proofs.Try.f22.results.toList, o22⟩ [a0, a1] H k = f22 p n a0 a1 H k := by
  rw [f22_raw]
  simp only [f22_l0_eq]
  rfl

/-! 12 loop.example/g00480/laws.heldMsgS -/
noncomputable def f12_l0 (p : Pr β) (n : Nat)  (k : AV → Heap → Option β) : Nat → AV → AV → AV → Heap → Option β
  | 0, _, _, _, _ => none
  | m + 1, t0, t1, t5, H => p.len t0 fun t8 =>
      p.bin .lss t5 t8 fun t9 =>
      p.cond t9
      (p.iadr 4 t0 t5 fun t14 =>
      p.fadr 0 t14 fun t15 =>
      p.load false 1 t15 H fun t16 =>
      p.call 9 (.fn 20 [] []) [t1] H fun t18 H =>
      p.bin .neq t16 t18 fun t19 =>
      p.cond t19
      (k (.sc (.int .i64 (-1))) H)
      (p.bin .add t1 (.sc (.int .i64 1)) fun t21 =>
      p.iadr 4 t0 t5 fun t24 =>
      p.fadr 1 t24 fun t25 =>
      p.load false 1 t25 H fun t26 =>
      p.call 3 (.fn 22 [] []) [t26, t21] H fun t28 H =>
      p.bin .lss t28 (.sc (.int .i64 0)) fun t30 =>
      p.cond t30
      (k (.sc (.int .i64 (-1))) H)
      (p.iadr 4 t0 t5 fun t33 =>
      p.fadr 2 t33 fun t34 =>
      p.load false 1 t34 H fun t35 =>
      p.bin .neq t35 t28 fun t37 =>
      p.cond t37
      (k (.sc (.int .i64 (-1))) H)
      (p.bin .add t28 (.sc (.int .i64 1)) fun t39 =>
      p.iadr 4 t0 t5 fun t42 =>
      p.fadr 3 t42 fun t43 =>
      p.load false 1 t43 H fun t44 =>
      p.bin .rem t39 (.sc (.int .i64 3)) fun t46 =>
      p.bin .eql t46 (.sc (.int .i64 0)) fun t47 =>
      p.binB .neq t44 t47 fun t48 =>
      p.cond t48
      (k (.sc (.int .i64 (-1))) H)
      (p.bin .add t39 (.sc (.int .i64 1)) fun t50 =>
      p.bin .add t5 (.sc (.int .i64 1)) fun t11 =>
      f12_l0 p n  k m t0 t50 t11 H)))))
      (k t1 H)
noncomputable def f12 (p : Pr β) (n : Nat) (a0 a1 : AV) (H : Heap) (k : AV → Heap → Option β) : Option β :=
  f12_l0 p n  k n a0 a1 (.sc (.int .i64 0)) H
noncomputable def f12_L0 (p : Pr β) (n : Nat)  (k : AV → Heap → Option β) (m : Nat) (tm : Tm) (H : Heap) : Option β :=
  iterC 52 (fun tm H k => evalCode ti0 p o12 52 n (cd c12 [1, 0, 1, 0, 0]) tm H k) (blkK 0 (seqK (fun tm H => evalCode ti0 p o12 52 n (cd c12 [1, 1]) tm H (endK ti0 p Go.Proofs.Try.f12.results.toList k)) (endK ti0 p Go.Proofs.Try.f12.results.toList k))) m tm H
theorem f12_L0_step (p : Pr β) (n : Nat)  (k : AV → Heap → Option β) (m0 : Nat) (t0 t1 t2 t3 t4 t5 t6 t7 t8 t9 t10 t11 t12 t13 t14 t15 t16 t17 t18 t19 t20 t21 t22 t23 t24 t25 t26 t27 t28 t29 t30 t31 t32 t33 t34 t35 t36 t37 t38 t39 t40 t41 t42 t43 t44 t45 t46 t47 t48 t49 t50 t51 : AV) (H : Heap) : f12_L0 p n  k (m0 + 1) [(0, t0), (1, t1), (2, t2), (3, t3), (4, t4), (5, t5), (6, t6), (7, t7), (8, t8), (9, t9), (10, t10), (11, t11), (12, t12), (13, t13), (14, t14), (15, t15), (16, t16), (17, t17), (18, t18), (19, t19), (20, t20), (21, t21), (22, t22), (23, t23), (24, t24), (25, t25), (26, t26), (27, t27), (28, t28), (29, t29), (30, t30), (31, t31), (32, t32), (33, t33), (34, t34), (35, t35), (36, t36), (37, t37), (38, t38), (39, t39), (40, t40), (41, t41), (42, t42), (43, t43), (44, t44), (45, t45), (46, t46), (47, t47), (48, t48), (49, t49), (50, t50), (51, t51)] H =
  p.len t0 fun t8 =>
  p.bin .lss t5 t8 fun t9 =>
  p.cond t9
  (p.iadr 4 t0 t5 fun t14 =>
  p.fadr 0 t14 fun t15 =>
  p.load false 1 t15 H fun t16 =>
  p.call 9 (.fn 20 [] []) [t1] H fun t18 H =>
  p.bin .neq t16 t18 fun t19 =>
  p.cond t19
  (k (.sc (.int .i64 (-1))) H)
  (p.bin .add t1 (.sc (.int .i64 1)) fun t21 =>
  p.iadr 4 t0 t5 fun t24 =>
  p.fadr 1 t24 fun t25 =>
  p.load false 1 t25 H fun t26 =>
  p.call 3 (.fn 22 [] []) [t26, t21] H fun t28 H =>
  p.bin .lss t28 (.sc (.int .i64 0)) fun t30 =>
  p.cond t30
  (k (.sc (.int .i64 (-1))) H)
  (p.iadr 4 t0 t5 fun t33 =>
  p.fadr 2 t33 fun t34 =>
  p.load false 1 t34 H fun t35 =>
  p.bin .neq t35 t28 fun t37 =>
  p.cond t37
  (k (.sc (.int .i64 (-1))) H)
  (p.bin .add t28 (.sc (.int .i64 1)) fun t39 =>
  p.iadr 4 t0 t5 fun t42 =>
  p.fadr 3 t42 fun t43 =>
  p.load false 1 t43 H fun t44 =>
  p.bin .rem t39 (.sc (.int .i64 3)) fun t46 =>
  p.bin .eql t46 (.sc (.int .i64 0)) fun t47 =>
  p.binB .neq t44 t47 fun t48 =>
  p.cond t48
  (k (.sc (.int .i64 (-1))) H)
  (p.bin .add t39 (.sc (.int .i64 1)) fun t50 =>
  p.bin .add t5 (.sc (.int .i64 1)) fun t11 =>
  f12_L0 p n  k m0 [(0, t0), (1, t50), (2, t2), (3, t3), (4, t4), (5, t11), (6, t5), (7, t0), (8, t8), (9, t9), (10, t5), (11, t11), (12, t0), (13, t5), (14, t14), (15, t15), (16, t16), (17, t1), (18, t18), (19, t19), (20, t1), (21, t21), (22, t0), (23, t5), (24, t24), (25, t25), (26, t26), (27, t21), (28, t28), (29, t28), (30, t30), (31, t0), (32, t5), (33, t33), (34, t34), (35, t35), (36, t28), (37, t37), (38, t28), (39, t39), (40, t0), (41, t5), (42, t42), (43, t43), (44, t44), (45, t39), (46, t46), (47, t47), (48, t48), (49, t39), (50, t50), (51, t51)] H)))))
  (k t1 H) := by kernel_rfl
theorem f12_l0_eq (p : Pr β) (n : Nat)  (k : AV → Heap → Option β)   (m0 : Nat) : ∀ (t0 t1 t2 t3 t4 t5 t6 t7 t8 t9 t10 t11 t12 t13 t14 t15 t16 t17 t18 t19 t20 t21 t22 t23 t24 t25 t26 t27 t28 t29 t30 t31 t32 t33 t34 t35 t36 t37 t38 t39 t40 t41 t42 t43 t44 t45 t46 t47 t48 t49 t50 t51 : AV) (H : Heap), f12_L0 p n  k m0 [(0, t0), (1, t1), (2, t2), (3, t3), (4, t4), (5, t5), (6, t6), (7, t7), (8, t8), (9, t9), (10, t10), (11, t11), (12, t12), (13, t13), (14, t14), (15, t15), (16, t16), (17, t17), (18, t18), (19, t19), (20, t20), (21, t21), (22, t22), (23, t23), (24, t24), (25, t25), (26, t26), (27, t27), (28, t28), (29, t29), (30, t30), (31, t31), (32, t32), (33, t33), (34, t34), (35, t35), (36, t36), (37, t37), (38, t38), (39, t39), (40, t40), (41, t41), (42, t42), (43, t43), (44, t44), (45, t45), (46, t46), (47, t47), (48, t48), (49, t49), (50, t50), (51, t51)] H = f12_l0 p n  k m0 t0 t1 t5 H := by
  induction m0 with
  | zero => intros; rfl
  | succ m0 ih =>
    intro t0 t1 t2 t3 t4 t5 t6 t7 t8 t9 t10 t11 t12 t13 t14 t15 t16 t17 t18 t19 t20 t21 t22 t23 t24 t25 t26 t27 t28 t29 t30 t31 t32 t33 t34 t35 t36 t37 t38 t39 t40 t41 t42 t43 t44 t45 t46 t47 t48 t49 t50 t51 H
    rw [f12_L0_step]
    simp only [ih]
    rfl
theorem f12_raw (p : Pr β) (n : Nat) (a0 a1 : AV) (H : Heap) (k : AV → Heap → Option β) : evalBody ti0 p n ⟨c12, 52, Go.Proofs.Try.f12.results.toList, o12⟩ [a0, a1] H k =
  f12_L0 p n  k n [(0, a0), (1, a1), (2, (.sc undef)), (3, (.sc undef)), (4, (.sc (.int .i64 0))), (5, (.sc (.int .i64 0))), (6, (.sc undef)), (7, (.sc undef)), (8, (.sc undef)), (9, (.sc undef)), (10, (.sc undef)), (11, (.sc undef)), (12, (.sc undef)), (13, (.sc undef)), (14, (.sc undef)), (15, (.sc undef)), (16, (.sc undef)), (17, (.sc undef)), (18, (.sc undef)), (19, (.sc undef)), (20, (.sc undef)), (21, (.sc undef)), (22, (.sc undef)), (23, (.sc undef)), (24, (.sc undef)), (25, (.sc undef)), (26, (.sc undef)), (27, (.sc undef)), (28, (.sc undef)), (29, (.sc undef)), (30, (.sc undef)), (31, (.sc undef)), (32, (.sc undef)), (33, (.sc undef)), (34, (.sc undef)), (35, (.sc undef)), (36, (.sc undef)), (37, (.sc undef)), (38, (.sc undef)), (39, (.sc undef)), (40, (.sc undef)), (41, (.sc undef)), (42, (.sc undef)), (43, (.sc undef)), (44, (.sc undef)), (45, (.sc undef)), (46, (.sc undef)), (47, (.sc undef)), (48, (.sc undef)), (49, (.sc undef)), (50, (.sc undef)), (51, (.sc undef))] H := by kernel_rfl
theorem f12_body (p : Pr β) (n : Nat) (a0 a1 : AV) (H : Heap) (k : AV → Heap → Option β) : evalBody ti0 p n ⟨c12, 52, Go.Proofs.Try.f12.results.toList, o12⟩ [a0, a1] H k = f12 p n a0 a1 H k := by
  rw [f12_raw]
  simp only [f12_l0_eq]
  rfl

/-! 13 loop.example/g00480/laws.heldMsg -/
noncomputable def f13 (p : Pr β) (n : Nat) (a0 a1 : AV) (H : Heap) (k : AV → Heap → Option β) : Option β :=
  p.box a0 H fun t2 H =>
  p.fadr 1 t2 fun t5 =>
  p.load false 1 t5 H fun t6 =>
  p.call 3 (.fn 22 [] []) [t6, a1] H fun t8 H =>
  p.bin .lss t8 (.sc (.int .i64 0)) fun t10 =>
  p.cond t10
  (k (.sc (.int .i64 (-1))) H)
  (k t8 H)
theorem f13_body (p : Pr β) (n : Nat) (a0 a1 : AV) (H : Heap) (k : AV → Heap → Option β) : evalBody ti0 p n ⟨c13, 12, Go.Proofs.Try.f13.results.toList, o13⟩ [a0, a1] H k = f13 p n a0 a1 H k := by kernel_rfl

/-! 3 loop.example/g00480/laws.FnExactPop -/
noncomputable def f3 (p : Pr β) (n : Nat) (a0 : AV) (H : Heap) (k : AV → Heap → Option β) : Option β :=
  p.call 3 (.fn 4 [] []) [a0, (.sc (.int .i64 1048576))] H fun t19 H =>
  p.bin .lss t19 (.sc (.int .i64 0)) fun t21 =>
  p.cond t21
  (k (.sc (.bool true)) H)
  (p.call 24 (.fn 6 [] []) [a0] H fun t24 H =>
  p.call 28 (.fn 5 [] []) [t24] H fun t25 H =>
  p.extr t25 0 fun t26 =>
  p.extr t25 1 fun t27 =>
  p.extr t25 2 fun t28 =>
  p.new [(.sc (.string ⟨#[]⟩)), .nl, (.sc (.int .i64 0)), (.sc (.bool false))] H fun t5 H =>
  p.store 4 t5 t27 H fun H =>
  p.call 24 (.fn 6 [] []) [a0] H fun t30 H =>
  p.call 28 (.fn 7 [] []) [t30] H fun t33 H =>
  p.extr t33 0 fun t34 =>
  p.extr t33 1 fun t35 =>
  p.extr t33 2 fun t36 =>
  p.new [(.sc (.string ⟨#[]⟩)), .nl, (.sc (.int .i64 0)), (.sc (.bool false))] H fun t9 H =>
  p.store 4 t9 t35 H fun H =>
  p.call 4 (.fn 8 [] []) [t34, t26] H fun t39 H =>
  p.un .not t39 fun t40 =>
  p.guard t40 false H (fun k' => p.load true 4 t9 H fun t' => k' t' H) fun t42 H =>
  p.guard t40 false H (fun k' => p.load true 4 t5 H fun t' => k' t' H) fun t43 H =>
  p.guard t40 false H (fun k' => p.call 4 (.fn 9 [] []) [t42, t43] H fun t' H => k' t' H) fun t44 H =>
  p.guard t40 false H (fun k' => p.un .not t44 fun t' => k' t' H) fun t45 H =>
  p.pick t40 (.sc (.bool true)) t45 fun t46 =>
  p.guard t46 false H (fun k' => k' t36 H) fun t48 H =>
  p.guard t46 false H (fun k' => k' t28 H) fun t49 H =>
  p.guard t46 false H (fun k' => p.binB .neq t48 t49 fun t' => k' t' H) fun t50 H =>
  p.pick t46 (.sc (.bool true)) t50 fun t51 =>
  p.cond t51
  (k (.sc (.bool false)) H)
  (p.call 24 (.fn 6 [] []) [a0] H fun t54 H =>
  p.call 4 (.fn 8 [] []) [t30, t54] H fun t55 H =>
  p.un .not t55 fun t56 =>
  p.cond t56
  (k (.sc (.bool false)) H)
  (p.call 3 (.fn 10 [] []) [t30, (.sc (.int .i64 1))] H fun t59 H =>
  p.bin .lss t59 (.sc (.int .i64 0)) fun t61 =>
  p.guard t61 false H (fun k' => k' t34 H) fun t63 H =>
  p.guard t61 false H (fun k' => k' t26 H) fun t64 H =>
  p.guard t61 false H (fun k' => p.call 4 (.fn 8 [] []) [t63, t64] H fun t' H => k' t' H) fun t65 H =>
  p.guard t61 false H (fun k' => p.un .not t65 fun t' => k' t' H) fun t66 H =>
  p.pick t61 (.sc (.bool true)) t66 fun t67 =>
  p.guard t67 false H (fun k' => p.load true 4 t9 H fun t' => k' t' H) fun t69 H =>
  p.guard t67 false H (fun k' => p.load true 4 t5 H fun t' => k' t' H) fun t70 H =>
  p.guard t67 false H (fun k' => p.call 4 (.fn 9 [] []) [t69, t70] H fun t' H => k' t' H) fun t71 H =>
  p.guard t67 false H (fun k' => p.un .not t71 fun t' => k' t' H) fun t72 H =>
  p.pick t67 (.sc (.bool true)) t72 fun t73 =>
  p.guard t73 false H (fun k' => k' t36 H) fun t75 H =>
  p.guard t73 false H (fun k' => k' t28 H) fun t76 H =>
  p.guard t73 false H (fun k' => p.binB .neq t75 t76 fun t' => k' t' H) fun t77 H =>
  p.pick t73 (.sc (.bool true)) t77 fun t78 =>
  p.cond t78
  (k (.sc (.bool false)) H)
  (p.call 3 (.fn 10 [] []) [t34, (.sc (.int .i64 1))] H fun t81 H =>
  p.load true 4 t9 H fun t82 =>
  p.call 3 (.fn 11 [] []) [t82, t81] H fun t84 H =>
  p.call 3 (.fn 12 [] []) [t34, (.sc (.int .i64 1))] H fun t87 H =>
  p.bin .lss t87 (.sc (.int .i64 0)) fun t89 =>
  p.cond t89
  (k (.sc (.bool false)) H)
  (p.load true 4 t9 H fun t90 =>
  p.call 3 (.fn 13 [] []) [t90, t87] H fun t92 H =>
  p.bin .lss t92 (.sc (.int .i64 0)) fun t94 =>
  p.cond t94
  (k (.sc (.bool false)) H)
  (p.bin .neq t92 t84 fun t97 =>
  p.cond t97
  (k (.sc (.bool false)) H)
  (p.call 24 (.fn 6 [] []) [a0] H fun t100 H =>
  p.call 28 (.fn 7 [] []) [t100] H fun t101 H =>
  p.extr t101 0 fun t102 =>
  p.extr t101 1 fun t103 =>
  p.extr t101 2 fun t104 =>
  p.new [(.sc (.string ⟨#[]⟩)), .nl, (.sc (.int .i64 0)), (.sc (.bool false))] H fun t15 H =>
  p.store 4 t15 t103 H fun H =>
  p.call 4 (.fn 8 [] []) [t102, t26] H fun t107 H =>
  p.un .not t107 fun t108 =>
  p.guard t108 false H (fun k' => p.load true 4 t15 H fun t' => k' t' H) fun t110 H =>
  p.guard t108 false H (fun k' => p.load true 4 t5 H fun t' => k' t' H) fun t111 H =>
  p.guard t108 false H (fun k' => p.call 4 (.fn 9 [] []) [t110, t111] H fun t' H => k' t' H) fun t112 H =>
  p.guard t108 false H (fun k' => p.un .not t112 fun t' => k' t' H) fun t113 H =>
  p.pick t108 (.sc (.bool true)) t113 fun t114 =>
  p.guard t114 false H (fun k' => k' t104 H) fun t116 H =>
  p.guard t114 false H (fun k' => k' t28 H) fun t117 H =>
  p.guard t114 false H (fun k' => p.binB .neq t116 t117 fun t' => k' t' H) fun t118 H =>
  p.pick t114 (.sc (.bool true)) t118 fun t119 =>
  p.cond t119
  (k (.sc (.bool false)) H)
  (p.call 3 (.fn 12 [] []) [t34, (.sc (.int .i64 1))] H fun t122 H =>
  p.bin .lss t122 (.sc (.int .i64 0)) fun t124 =>
  p.cond t124
  (k (.sc (.bool false)) H)
  (p.load true 4 t9 H fun t125 =>
  p.call 3 (.fn 13 [] []) [t125, t122] H fun t127 H =>
  p.bin .lss t127 (.sc (.int .i64 0)) fun t129 =>
  p.cond t129
  (k (.sc (.bool false)) H)
  (p.bin .neq t127 t84 fun t132 =>
  p.cond t132
  (k (.sc (.bool false)) H)
  (k (.sc (.bool true)) H)))))))))))
theorem f3_body (p : Pr β) (n : Nat) (a0 : AV) (H : Heap) (k : AV → Heap → Option β) : evalBody ti0 p n ⟨c3, 133, Go.Proofs.Try.f3.results.toList, o3⟩ [a0] H k = f3 p n a0 H k := by kernel_rfl

noncomputable def fss : List (Option FnI) := [none, none, none, some ⟨c3, 133, Go.Proofs.Try.f3.results.toList, o3⟩, some ⟨c4, 27, Go.Proofs.Try.f4.results.toList, o4⟩, some ⟨c5, 17, Go.Proofs.Try.f5.results.toList, o5⟩, some ⟨c6, 23, Go.Proofs.Try.f6.results.toList, o6⟩, some ⟨c7, 18, Go.Proofs.Try.f7.results.toList, o7⟩, some ⟨c8, 27, Go.Proofs.Try.f8.results.toList, o8⟩, some ⟨c9, 26, Go.Proofs.Try.f9.results.toList, o9⟩, some ⟨c10, 44, Go.Proofs.Try.f10.results.toList, o10⟩, some ⟨c11, 10, Go.Proofs.Try.f11.results.toList, o11⟩, some ⟨c12, 52, Go.Proofs.Try.f12.results.toList, o12⟩, some ⟨c13, 12, Go.Proofs.Try.f13.results.toList, o13⟩, some ⟨c14, 19, Go.Proofs.Try.f14.results.toList, o14⟩, some ⟨c15, 21, Go.Proofs.Try.f15.results.toList, o15⟩, some ⟨c16, 14, Go.Proofs.Try.f16.results.toList, o16⟩, some ⟨c17, 18, Go.Proofs.Try.f17.results.toList, o17⟩, some ⟨c18, 20, Go.Proofs.Try.f18.results.toList, o18⟩, some ⟨c19, 26, Go.Proofs.Try.f19.results.toList, o19⟩, some ⟨c20, 20, Go.Proofs.Try.f20.results.toList, o20⟩, some ⟨c21, 20, Go.Proofs.Try.f21.results.toList, o21⟩, some ⟨c22, 22, Go.Proofs.Try.f22.results.toList, o22⟩, some ⟨c23, 12, Go.Proofs.Try.f23.results.toList, o23⟩, some ⟨c24, 22, Go.Proofs.Try.f24.results.toList, o24⟩, some ⟨c25, 9, Go.Proofs.Try.f25.results.toList, o25⟩, some ⟨c26, 18, Go.Proofs.Try.f26.results.toList, o26⟩]
noncomputable def tps : List (Nat × List Nat) := [(28, [24, 27, 4])]
noncomputable def E0 : Env := { ti := ti0, tp := fun t => ordOf tps t, fs := fun f => (fss[f]?).getD none, ext := fun _ => none, hm := fun f => [10, 11, 21, 35, 36, 37, 38, 39].contains f }
noncomputable def PR (n : Nat) (β : Type) : Pr β := prims E0 (evalFn E0 n) β
theorem f23_eq (n : Nat) (a0 a1 : AV) (H : Heap) (k : AV → Heap → Option β) : evalFn E0 (n + 1) β 23 [a0, a1] H k = f23 (PR n β) n a0 a1 H k := f23_body (PR n β) n a0 a1 H k
theorem f14_eq (n : Nat) (a0 a1 : AV) (H : Heap) (k : AV → Heap → Option β) : evalFn E0 (n + 1) β 14 [a0, a1] H k = f14 (PR n β) n a0 a1 H k := f14_body (PR n β) n a0 a1 H k
theorem f4_eq (n : Nat) (a0 a1 : AV) (H : Heap) (k : AV → Heap → Option β) : evalFn E0 (n + 1) β 4 [a0, a1] H k = f4 (PR n β) n a0 a1 H k := f4_body (PR n β) n a0 a1 H k
theorem f24_eq (n : Nat) (a0 : AV) (H : Heap) (k : AV → Heap → Option β) : evalFn E0 (n + 1) β 24 [a0] H k = f24 (PR n β) n a0 H k := f24_body (PR n β) n a0 H k
theorem f17_eq (n : Nat) (a0 : AV) (H : Heap) (k : AV → Heap → Option β) : evalFn E0 (n + 1) β 17 [a0] H k = f17 (PR n β) n a0 H k := f17_body (PR n β) n a0 H k
theorem f6_eq (n : Nat) (a0 : AV) (H : Heap) (k : AV → Heap → Option β) : evalFn E0 (n + 1) β 6 [a0] H k = f6 (PR n β) n a0 H k := f6_body (PR n β) n a0 H k
theorem f16_eq (n : Nat) (a0 : AV) (H : Heap) (k : AV → Heap → Option β) : evalFn E0 (n + 1) β 16 [a0] H k = f16 (PR n β) n a0 H k := f16_body (PR n β) n a0 H k
theorem f15_eq (n : Nat) (a0 : AV) (H : Heap) (k : AV → Heap → Option β) : evalFn E0 (n + 1) β 15 [a0] H k = f15 (PR n β) n a0 H k := f15_body (PR n β) n a0 H k
theorem f5_eq (n : Nat) (a0 : AV) (H : Heap) (k : AV → Heap → Option β) : evalFn E0 (n + 1) β 5 [a0] H k = f5 (PR n β) n a0 H k := f5_body (PR n β) n a0 H k
theorem f26_eq (n : Nat) (a0 : AV) (H : Heap) (k : AV → Heap → Option β) : evalFn E0 (n + 1) β 26 [a0] H k = f26 (PR n β) n a0 H k := f26_body (PR n β) n a0 H k
theorem f25_eq (n : Nat) (a0 : AV) (H : Heap) (k : AV → Heap → Option β) : evalFn E0 (n + 1) β 25 [a0] H k = f25 (PR n β) n a0 H k := f25_body (PR n β) n a0 H k
theorem f18_eq (n : Nat) (a0 : AV) (H : Heap) (k : AV → Heap → Option β) : evalFn E0 (n + 1) β 18 [a0] H k = f18 (PR n β) n a0 H k := f18_body (PR n β) n a0 H k
theorem f7_eq (n : Nat) (a0 : AV) (H : Heap) (k : AV → Heap → Option β) : evalFn E0 (n + 1) β 7 [a0] H k = f7 (PR n β) n a0 H k := f7_body (PR n β) n a0 H k
theorem f19_eq (n : Nat) (a0 a1 : AV) (H : Heap) (k : AV → Heap → Option β) : evalFn E0 (n + 1) β 19 [a0, a1] H k = f19 (PR n β) n a0 a1 H k := f19_body (PR n β) n a0 a1 H k
theorem f9_eq (n : Nat) (a0 a1 : AV) (H : Heap) (k : AV → Heap → Option β) : evalFn E0 (n + 1) β 9 [a0, a1] H k = f9 (PR n β) n a0 a1 H k := f9_body (PR n β) n a0 a1 H k
theorem f8_eq (n : Nat) (a0 a1 : AV) (H : Heap) (k : AV → Heap → Option β) : evalFn E0 (n + 1) β 8 [a0, a1] H k = f8 (PR n β) n a0 a1 H k := f8_body (PR n β) n a0 a1 H k
theorem f20_eq (n : Nat) (a0 : AV) (H : Heap) (k : AV → Heap → Option β) : evalFn E0 (n + 1) β 20 [a0] H k = f20 (PR n β) n a0 H k := f20_body (PR n β) n a0 H k
theorem f21_eq (n : Nat) (a0 a1 : AV) (H : Heap) (k : AV → Heap → Option β) : evalFn E0 (n + 1) β 21 [a0, a1] H k = f21 (PR n β) n a0 a1 H k := f21_body (PR n β) n a0 a1 H k
theorem f10_eq (n : Nat) (a0 a1 : AV) (H : Heap) (k : AV → Heap → Option β) : evalFn E0 (n + 1) β 10 [a0, a1] H k = f10 (PR n β) n a0 a1 H k := f10_body (PR n β) n a0 a1 H k
theorem f11_eq (n : Nat) (a0 a1 : AV) (H : Heap) (k : AV → Heap → Option β) : evalFn E0 (n + 1) β 11 [a0, a1] H k = f11 (PR n β) n a0 a1 H k := f11_body (PR n β) n a0 a1 H k
theorem f22_eq (n : Nat) (a0 a1 : AV) (H : Heap) (k : AV → Heap → Option β) : evalFn E0 (n + 1) β 22 [a0, a1] H k = f22 (PR n β) n a0 a1 H k := f22_body (PR n β) n a0 a1 H k
theorem f12_eq (n : Nat) (a0 a1 : AV) (H : Heap) (k : AV → Heap → Option β) : evalFn E0 (n + 1) β 12 [a0, a1] H k = f12 (PR n β) n a0 a1 H k := f12_body (PR n β) n a0 a1 H k
theorem f13_eq (n : Nat) (a0 a1 : AV) (H : Heap) (k : AV → Heap → Option β) : evalFn E0 (n + 1) β 13 [a0, a1] H k = f13 (PR n β) n a0 a1 H k := f13_body (PR n β) n a0 a1 H k
theorem f3_eq (n : Nat) (a0 : AV) (H : Heap) (k : AV → Heap → Option β) : evalFn E0 (n + 1) β 3 [a0] H k = f3 (PR n β) n a0 H k := f3_body (PR n β) n a0 H k
end Go.Proofs.Ytpcgppelelfmiaa.Abs
