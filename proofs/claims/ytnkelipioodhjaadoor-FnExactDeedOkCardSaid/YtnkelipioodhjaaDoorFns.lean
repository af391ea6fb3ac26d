/- The program's functions as plain functions over abstract values, and that the evaluator comes to them (written by gen.py). -/
import Derived.Test.YtnkelipioodhjaaDoorProg
import Derived.Test.YtnkelipioodhjaaDoorAbs
import Derived.Test.YtnkelipioodhjaaDoorExt0
import Derived.KernelRfl
set_option linter.unusedVariables false
set_option linter.unusedSimpArgs false
set_option maxRecDepth 100000
namespace Go.Proofs.YtnkelipioodhjaaDoor.Abs
open Go
variable {β : Type}
noncomputable def tis : List (Option TI) := [none,
  none,
  none,
  some ⟨false, false, 1, 8, [(.int .i64 0)], 0, [], some .i64, false, false, [3], false⟩,
  some ⟨false, false, 1, 1, [(.bool false)], 0, [], none, false, true, [4], false⟩,
  some ⟨false, false, 1, 1, [(.int .u8 0)], 0, [], some .u8, false, false, [5], false⟩,
  none,
  none,
  none,
  some ⟨false, false, 1, 16, [(.string ⟨#[]⟩)], 0, [], none, true, false, [9], false⟩,
  none,
  none,
  none,
  none,
  none,
  none,
  none,
  none,
  none,
  none,
  none,
  none,
  some ⟨false, true, 1, 24, [(.slice none 0 0)], 5, [], none, false, false, [22], false⟩,
  none,
  some ⟨true, false, 4, 56, [(.string ⟨#[]⟩), (.slice none 0 0), (.int .i64 0), (.bool false)], 0, [(0, 9), (1, 22), (2, 3), (3, 4)], none, false, false, [9, 22, 3, 4], false⟩,
  none,
  none,
  some ⟨true, false, 4, 56, [(.string ⟨#[]⟩), (.slice none 0 0), (.int .i64 0), (.bool false)], 0, [(0, 9), (1, 22), (2, 3), (3, 4)], none, false, false, [9, 22, 3, 4], false⟩,
  none,
  none,
  none,
  some ⟨false, true, 1, 24, [(.slice none 0 0)], 24, [], none, false, false, [31], false⟩,
  none,
  none,
  some ⟨false, true, 1, 24, [(.slice none 0 0)], 27, [], none, false, false, [34], false⟩,
  none,
  none,
  none,
  some ⟨false, true, 1, 24, [(.slice none 0 0)], 120, [], none, false, false, [38], false⟩,
  some ⟨false, true, 1, 24, [(.slice none 0 0)], 9, [], none, false, false, [39], false⟩,
  some ⟨false, true, 1, 24, [(.slice none 0 0)], 3, [], none, false, false, [40], false⟩,
  none,
  some ⟨true, false, 25, 320, [(.int .i64 0), (.bool false), (.int .i64 0), (.bool false), (.int .i64 0), (.string ⟨#[]⟩), (.slice none 0 0), (.string ⟨#[]⟩), (.int .i64 0), (.bool false), (.int .i64 0), (.bool false), (.string ⟨#[]⟩), (.slice none 0 0), (.int .i64 0), (.bool false), (.bool false), (.string ⟨#[]⟩), (.bool false), (.slice none 0 0), (.int .i64 0), (.bool false), (.slice none 0 0), (.slice none 0 0), (.slice none 0 0)], 0, [(0, 3), (1, 4), (2, 3), (3, 4), (4, 3), (5, 9), (6, 22), (7, 9), (8, 3), (9, 4), (10, 3), (11, 4), (12, 9), (13, 22), (14, 3), (15, 4), (16, 4), (17, 9), (18, 4), (19, 22), (20, 3), (21, 4), (22, 38), (23, 39), (24, 40)], none, false, false, [3, 4, 3, 4, 3, 9, 22, 9, 3, 4, 3, 4, 9, 22, 3, 4, 4, 9, 4, 22, 3, 4, 38, 39, 40], false⟩,
  some ⟨false, true, 1, 24, [(.slice none 0 0)], 96, [], none, false, false, [43], false⟩,
  none,
  some ⟨true, false, 40, 488, [(.int .i64 0), (.int .i64 0), (.int .i64 0), (.string ⟨#[]⟩), (.int .i64 0), (.bool false), (.int .i64 0), (.bool false), (.int .i64 0), (.string ⟨#[]⟩), (.slice none 0 0), (.string ⟨#[]⟩), (.int .i64 0), (.bool false), (.int .i64 0), (.bool false), (.string ⟨#[]⟩), (.slice none 0 0), (.int .i64 0), (.bool false), (.bool false), (.string ⟨#[]⟩), (.bool false), (.slice none 0 0), (.int .i64 0), (.bool false), (.slice none 0 0), (.slice none 0 0), (.slice none 0 0), (.int .i64 0), (.int .i64 0), (.int .i64 0), (.bool false), (.int .i64 0), (.int .i64 0), (.bool false), (.bool false), (.slice none 0 0), (.slice none 0 0), (.slice none 0 0)], 0, [(0, 3), (1, 3), (2, 3), (3, 9), (4, 42), (29, 3), (30, 3), (31, 3), (32, 4), (33, 3), (34, 3), (35, 4), (36, 4), (37, 43), (38, 40), (39, 31)], none, false, false, [3, 3, 3, 9, 3, 4, 3, 4, 3, 9, 22, 9, 3, 4, 3, 4, 9, 22, 3, 4, 4, 9, 4, 22, 3, 4, 38, 39, 40, 3, 3, 3, 4, 3, 3, 4, 4, 43, 40, 31], false⟩,
  none,
  none,
  some ⟨false, true, 1, 24, [(.slice none 0 0)], 115, [], none, false, false, [48], false⟩,
  none,
  some ⟨true, false, 25, 320, [(.int .i64 0), (.bool false), (.int .i64 0), (.bool false), (.int .i64 0), (.string ⟨#[]⟩), (.slice none 0 0), (.string ⟨#[]⟩), (.int .i64 0), (.bool false), (.int .i64 0), (.bool false), (.string ⟨#[]⟩), (.slice none 0 0), (.int .i64 0), (.bool false), (.bool false), (.string ⟨#[]⟩), (.bool false), (.slice none 0 0), (.int .i64 0), (.bool false), (.slice none 0 0), (.slice none 0 0), (.slice none 0 0)], 0, [(0, 3), (1, 4), (2, 3), (3, 4), (4, 3), (5, 9), (6, 22), (7, 9), (8, 3), (9, 4), (10, 3), (11, 4), (12, 9), (13, 22), (14, 3), (15, 4), (16, 4), (17, 9), (18, 4), (19, 22), (20, 3), (21, 4), (22, 48), (23, 39), (24, 40)], none, false, false, [3, 4, 3, 4, 3, 9, 22, 9, 3, 4, 3, 4, 9, 22, 3, 4, 4, 9, 4, 22, 3, 4, 48, 39, 40], false⟩,
  some ⟨false, true, 1, 24, [(.slice none 0 0)], 87, [], none, false, false, [51], false⟩,
  none,
  some ⟨true, false, 40, 488, [(.int .i64 0), (.int .i64 0), (.int .i64 0), (.string ⟨#[]⟩), (.int .i64 0), (.bool false), (.int .i64 0), (.bool false), (.int .i64 0), (.string ⟨#[]⟩), (.slice none 0 0), (.string ⟨#[]⟩), (.int .i64 0), (.bool false), (.int .i64 0), (.bool false), (.string ⟨#[]⟩), (.slice none 0 0), (.int .i64 0), (.bool false), (.bool false), (.string ⟨#[]⟩), (.bool false), (.slice none 0 0), (.int .i64 0), (.bool false), (.slice none 0 0), (.slice none 0 0), (.slice none 0 0), (.int .i64 0), (.int .i64 0), (.int .i64 0), (.bool false), (.int .i64 0), (.int .i64 0), (.bool false), (.bool false), (.slice none 0 0), (.slice none 0 0), (.slice none 0 0)], 0, [(0, 3), (1, 3), (2, 3), (3, 9), (4, 50), (29, 3), (30, 3), (31, 3), (32, 4), (33, 3), (34, 3), (35, 4), (36, 4), (37, 51), (38, 40), (39, 34)], none, false, false, [3, 3, 3, 9, 3, 4, 3, 4, 3, 9, 22, 9, 3, 4, 3, 4, 9, 22, 3, 4, 4, 9, 4, 22, 3, 4, 48, 39, 40, 3, 3, 3, 4, 3, 3, 4, 4, 51, 40, 34], false⟩,
  none,
  none,
  none,
  none,
  none,
  none,
  none,
  none,
  none,
  none,
  none,
  none,
  none,
  none,
  none,
  none,
  none,
  none,
  none,
  none,
  none,
  none,
  none,
  none,
  none,
  none,
  none,
  none,
  none,
  none,
  none,
  none,
  none,
  some ⟨true, false, 3, 32, [(.string ⟨#[]⟩), (.int .i64 0), (.int .i64 0)], 0, [(0, 9), (1, 3), (2, 3)], none, false, false, [9, 3, 3], false⟩,
  none,
  none,
  none,
  none,
  none,
  none,
  none,
  none,
  some ⟨true, false, 3, 32, [(.string ⟨#[]⟩), (.int .i64 0), (.int .i64 0)], 0, [(0, 9), (1, 3), (2, 3)], none, false, false, [9, 3, 3], false⟩,
  none,
  none,
  none,
  none,
  none,
  none,
  none,
  none,
  none,
  none,
  none,
  none,
  none,
  none,
  none,
  none,
  none,
  none,
  some ⟨true, false, 2, 24, [(.string ⟨#[]⟩), (.int .i64 0)], 0, [(0, 9), (1, 3)], none, false, false, [9, 3], false⟩,
  none,
  none,
  none,
  none,
  some ⟨true, false, 2, 24, [(.string ⟨#[]⟩), (.int .i64 0)], 0, [(0, 9), (1, 3)], none, false, false, [9, 3], false⟩]
noncomputable def bodyOf (f : Func) : Code := match f.body with | some c => c | none => .skip
noncomputable def c32 : Code := bodyOf Go.Proofs.Tryd.f32
noncomputable def c105 : Code := bodyOf Go.Proofs.Tryd.f105
noncomputable def c74 : Code := bodyOf Go.Proofs.Tryd.f74
noncomputable def c75 : Code := bodyOf Go.Proofs.Tryd.f75
noncomputable def c42 : Code := bodyOf Go.Proofs.Tryd.f42
noncomputable def c40 : Code := bodyOf Go.Proofs.Tryd.f40
noncomputable def c76 : Code := bodyOf Go.Proofs.Tryd.f76
noncomputable def c41 : Code := bodyOf Go.Proofs.Tryd.f41
noncomputable def c7 : Code := bodyOf Go.Proofs.Tryd.f7
noncomputable def c12 : Code := bodyOf Go.Proofs.Tryd.f12
noncomputable def c17 : Code := bodyOf Go.Proofs.Tryd.f17
noncomputable def c35 : Code := bodyOf Go.Proofs.Tryd.f35
noncomputable def c107 : Code := bodyOf Go.Proofs.Tryd.f107
noncomputable def c78 : Code := bodyOf Go.Proofs.Tryd.f78
noncomputable def c79 : Code := bodyOf Go.Proofs.Tryd.f79
noncomputable def c46 : Code := bodyOf Go.Proofs.Tryd.f46
noncomputable def c44 : Code := bodyOf Go.Proofs.Tryd.f44
noncomputable def c80 : Code := bodyOf Go.Proofs.Tryd.f80
noncomputable def c45 : Code := bodyOf Go.Proofs.Tryd.f45
noncomputable def c9 : Code := bodyOf Go.Proofs.Tryd.f9
noncomputable def c14 : Code := bodyOf Go.Proofs.Tryd.f14
noncomputable def c19 : Code := bodyOf Go.Proofs.Tryd.f19
noncomputable def c34 : Code := bodyOf Go.Proofs.Tryd.f34
noncomputable def c106 : Code := bodyOf Go.Proofs.Tryd.f106
noncomputable def c77 : Code := bodyOf Go.Proofs.Tryd.f77
noncomputable def c43 : Code := bodyOf Go.Proofs.Tryd.f43
noncomputable def c18 : Code := bodyOf Go.Proofs.Tryd.f18
noncomputable def c47 : Code := bodyOf Go.Proofs.Tryd.f47
noncomputable def c20 : Code := bodyOf Go.Proofs.Tryd.f20
noncomputable def c38 : Code := bodyOf Go.Proofs.Tryd.f38
noncomputable def c109 : Code := bodyOf Go.Proofs.Tryd.f109
noncomputable def c82 : Code := bodyOf Go.Proofs.Tryd.f82
noncomputable def c83 : Code := bodyOf Go.Proofs.Tryd.f83
noncomputable def c51 : Code := bodyOf Go.Proofs.Tryd.f51
noncomputable def c49 : Code := bodyOf Go.Proofs.Tryd.f49
noncomputable def c84 : Code := bodyOf Go.Proofs.Tryd.f84
noncomputable def c50 : Code := bodyOf Go.Proofs.Tryd.f50
noncomputable def c11 : Code := bodyOf Go.Proofs.Tryd.f11
noncomputable def c16 : Code := bodyOf Go.Proofs.Tryd.f16
noncomputable def c21 : Code := bodyOf Go.Proofs.Tryd.f21
noncomputable def c5 : Code := bodyOf Go.Proofs.Tryd.f5
noncomputable def o32 : List (Nat × List Nat) := []
noncomputable def o105 : List (Nat × List Nat) := []
noncomputable def o74 : List (Nat × List Nat) := []
noncomputable def o75 : List (Nat × List Nat) := []
noncomputable def o42 : List (Nat × List Nat) := []
noncomputable def o40 : List (Nat × List Nat) := []
noncomputable def o76 : List (Nat × List Nat) := []
noncomputable def o41 : List (Nat × List Nat) := []
noncomputable def o7 : List (Nat × List Nat) := []
noncomputable def o12 : List (Nat × List Nat) := []
noncomputable def o17 : List (Nat × List Nat) := []
noncomputable def o35 : List (Nat × List Nat) := []
noncomputable def o107 : List (Nat × List Nat) := []
noncomputable def o78 : List (Nat × List Nat) := []
noncomputable def o79 : List (Nat × List Nat) := []
noncomputable def o46 : List (Nat × List Nat) := []
noncomputable def o44 : List (Nat × List Nat) := []
noncomputable def o80 : List (Nat × List Nat) := []
noncomputable def o45 : List (Nat × List Nat) := []
noncomputable def o9 : List (Nat × List Nat) := []
noncomputable def o14 : List (Nat × List Nat) := []
noncomputable def o19 : List (Nat × List Nat) := []
noncomputable def o34 : List (Nat × List Nat) := []
noncomputable def o106 : List (Nat × List Nat) := []
noncomputable def o77 : List (Nat × List Nat) := []
noncomputable def o43 : List (Nat × List Nat) := []
noncomputable def o18 : List (Nat × List Nat) := []
noncomputable def o47 : List (Nat × List Nat) := []
noncomputable def o20 : List (Nat × List Nat) := []
noncomputable def o38 : List (Nat × List Nat) := [(6, [0, 1, 2, 3, 4, 5, 6, 7, 8])]
noncomputable def o109 : List (Nat × List Nat) := []
noncomputable def o82 : List (Nat × List Nat) := [(6, [0, 1, 2, 3, 4, 5, 6, 7, 8, 9])]
noncomputable def o83 : List (Nat × List Nat) := [(6, [0, 1, 2, 3, 4, 5, 6, 7, 8])]
noncomputable def o51 : List (Nat × List Nat) := [(6, [0, 1, 2, 3, 4, 5, 6, 7, 8])]
noncomputable def o49 : List (Nat × List Nat) := []
noncomputable def o84 : List (Nat × List Nat) := []
noncomputable def o50 : List (Nat × List Nat) := [(6, [0, 1, 2, 3, 4, 5, 6, 7, 8, 9])]
noncomputable def o11 : List (Nat × List Nat) := []
noncomputable def o16 : List (Nat × List Nat) := [(6, [0, 1, 2, 3, 4, 5, 6, 7, 8, 9])]
noncomputable def o21 : List (Nat × List Nat) := []
noncomputable def o5 : List (Nat × List Nat) := [(10, [0, 1, 2, 3, 4])]
noncomputable def ti0 (t : Nat) : Option TI := (tis[t]?).getD none
noncomputable def cd : Code → List Nat → Code
  | c, [] => c
  | .seq a b, i :: p => cd (if i = 0 then a else b) p
  | .cond _ a b, i :: p => cd (if i = 1 then a else b) p
  | .block _ a, _ :: p => cd a p
  | .loop a, _ :: p => cd a p
  | c, _ => c

/-! 32 loop.example/g00480/laws.szByteS -/
noncomputable def f32 (p : Pr β) (n : Nat) (a0 a1 : AV) (H : Heap) (k : AV → Heap → Option β) : Option β :=
  p.len a0 fun t7 =>
  p.bin .sub a1 t7 fun t8 =>
  p.bin .lss t8 (.sc (.int .i64 0)) fun t10 =>
  p.cond t10
  (k (.sc (.int .i64 (-1))) H)
  (k t8 H)
theorem f32_body (p : Pr β) (n : Nat) (a0 a1 : AV) (H : Heap) (k : AV → Heap → Option β) : evalBody ti0 p n ⟨c32, 12, Go.Proofs.Tryd.f32.results.toList, o32⟩ [a0, a1] H k = f32 p n a0 a1 H k := by kernel_rfl

/-! 105 loop.example/g00480/laws.szWant -/
noncomputable def f105 (p : Pr β) (n : Nat) (a0 a1 : AV) (H : Heap) (k : AV → Heap → Option β) : Option β :=
  p.box a0 H fun t2 H =>
  p.fadr 0 t2 fun t6 =>
  p.load false 1 t6 H fun t7 =>
  p.lenS t7 fun t8 =>
  p.bin .sub a1 t8 fun t9 =>
  p.bin .lss t9 (.sc (.int .i64 0)) fun t11 =>
  p.cond t11
  (k (.sc (.int .i64 (-1))) H)
  (k t9 H)
theorem f105_body (p : Pr β) (n : Nat) (a0 a1 : AV) (H : Heap) (k : AV → Heap → Option β) : evalBody ti0 p n ⟨c105, 13, Go.Proofs.Tryd.f105.results.toList, o105⟩ [a0, a1] H k = f105 p n a0 a1 H k := by kernel_rfl

/-! 74 loop.example/g00480/laws.szWantS -/
noncomputable def f74_l0 (p : Pr β) (n : Nat)  (k : AV → Heap → Option β) : Nat → AV → AV → AV → Heap → Option β
  | 0, _, _, _, _ => none
  | m + 1, t0, t1, t5, H => p.len t0 fun t14 =>
      p.bin .lss t5 t14 fun t15 =>
      p.cond t15
      (p.iadr 2 t0 t5 fun t20 =>
      p.load true 2 t20 H fun t21 =>
      p.call 3 (.fn 105 [] []) [t21, t1] H fun t23 H =>
      p.bin .lss t23 (.sc (.int .i64 0)) fun t25 =>
      p.cond t25
      (k (.sc (.int .i64 (-1))) H)
      (p.bin .add t5 (.sc (.int .i64 1)) fun t17 =>
      f74_l0 p n  k m t0 t23 t17 H))
      (k t1 H)
noncomputable def f74 (p : Pr β) (n : Nat) (a0 a1 : AV) (H : Heap) (k : AV → Heap → Option β) : Option β :=
  p.len a0 fun t8 =>
  p.bin .sub a1 t8 fun t9 =>
  p.bin .lss t9 (.sc (.int .i64 0)) fun t11 =>
  p.cond t11
  (k (.sc (.int .i64 (-1))) H)
  (f74_l0 p n  k n a0 t9 (.sc (.int .i64 0)) H)
noncomputable def f74_L0 (p : Pr β) (n : Nat)  (k : AV → Heap → Option β) (m : Nat) (tm : Tm) (H : Heap) : Option β :=
  iterC 27 (fun tm H k => evalCode ti0 p o74 27 n (cd c74 [1, 1, 1, 0, 1, 0, 0]) tm H k) (blkK 0 (seqK (fun tm H => evalCode ti0 p o74 27 n (cd c74 [1, 1, 1, 1]) tm H (endK ti0 p Go.Proofs.Tryd.f74.results.toList k)) (endK ti0 p Go.Proofs.Tryd.f74.results.toList k))) m tm H
theorem f74_L0_step (p : Pr β) (n : Nat)  (k : AV → Heap → Option β) (m0 : Nat) (t0 t1 t2 t3 t4 t5 t6 t7 t8 t9 t10 t11 t12 t13 t14 t15 t16 t17 t18 t19 t20 t21 t22 t23 t24 t25 t26 : AV) (H : Heap) : f74_L0 p n  k (m0 + 1) [(0, t0), (1, t1), (2, t2), (3, t3), (4, t4), (5, t5), (6, t6), (7, t7), (8, t8), (9, t9), (10, t10), (11, t11), (12, t12), (13, t13), (14, t14), (15, t15), (16, t16), (17, t17), (18, t18), (19, t19), (20, t20), (21, t21), (22, t22), (23, t23), (24, t24), (25, t25), (26, t26)] H =
  p.len t0 fun t14 =>
  p.bin .lss t5 t14 fun t15 =>
  p.cond t15
  (p.iadr 2 t0 t5 fun t20 =>
  p.load true 2 t20 H fun t21 =>
  p.call 3 (.fn 105 [] []) [t21, t1] H fun t23 H =>
  p.bin .lss t23 (.sc (.int .i64 0)) fun t25 =>
  p.cond t25
  (k (.sc (.int .i64 (-1))) H)
  (p.bin .add t5 (.sc (.int .i64 1)) fun t17 =>
  f74_L0 p n  k m0 [(0, t0), (1, t23), (2, t2), (3, t3), (4, t4), (5, t17), (6, t6), (7, t7), (8, t8), (9, t9), (10, t10), (11, t11), (12, t5), (13, t0), (14, t14), (15, t15), (16, t5), (17, t17), (18, t0), (19, t5), (20, t20), (21, t21), (22, t1), (23, t23), (24, t23), (25, t25), (26, t26)] H))
  (k t1 H) := by kernel_rfl
theorem f74_l0_eq (p : Pr β) (n : Nat)  (k : AV → Heap → Option β)   (m0 : Nat) : ∀ (t0 t1 t2 t3 t4 t5 t6 t7 t8 t9 t10 t11 t12 t13 t14 t15 t16 t17 t18 t19 t20 t21 t22 t23 t24 t25 t26 : AV) (H : Heap), f74_L0 p n  k m0 [(0, t0), (1, t1), (2, t2), (3, t3), (4, t4), (5, t5), (6, t6), (7, t7), (8, t8), (9, t9), (10, t10), (11, t11), (12, t12), (13, t13), (14, t14), (15, t15), (16, t16), (17, t17), (18, t18), (19, t19), (20, t20), (21, t21), (22, t22), (23, t23), (24, t24), (25, t25), (26, t26)] H = f74_l0 p n  k m0 t0 t1 t5 H := by
  induction m0 with
  | zero => intros; rfl
  | succ m0 ih =>
    intro t0 t1 t2 t3 t4 t5 t6 t7 t8 t9 t10 t11 t12 t13 t14 t15 t16 t17 t18 t19 t20 t21 t22 t23 t24 t25 t26 H
    rw [f74_L0_step]
    simp only [ih]
    rfl
theorem f74_raw (p : Pr β) (n : Nat) (a0 a1 : AV) (H : Heap) (k : AV → Heap → Option β) : evalBody ti0 p n ⟨c74, 27, Go.Proofs.Tryd.f74.results.toList, o74⟩ [a0, a1] H k =
  p.len a0 fun t8 =>
  p.bin .sub a1 t8 fun t9 =>
  p.bin .lss t9 (.sc (.int .i64 0)) fun t11 =>
  p.cond t11
  (k (.sc (.int .i64 (-1))) H)
  (f74_L0 p n  k n [(0, a0), (1, t9), (2, (.sc undef)), (3, (.sc undef)), (4, (.sc (.int .i64 0))), (5, (.sc (.int .i64 0))), (6, a1), (7, a0), (8, t8), (9, t9), (10, t9), (11, t11), (12, (.sc undef)), (13, (.sc undef)), (14, (.sc undef)), (15, (.sc undef)), (16, (.sc undef)), (17, (.sc undef)), (18, (.sc undef)), (19, (.sc undef)), (20, (.sc undef)), (21, (.sc undef)), (22, (.sc undef)), (23, (.sc undef)), (24, (.sc undef)), (25, (.sc undef)), (26, (.sc undef))] H) := by kernel_rfl
theorem f74_body (p : Pr β) (n : Nat) (a0 a1 : AV) (H : Heap) (k : AV → Heap → Option β) : evalBody ti0 p n ⟨c74, 27, Go.Proofs.Tryd.f74.results.toList, o74⟩ [a0, a1] H k = f74 p n a0 a1 H k := by
  rw [f74_raw]
  simp only [f74_l0_eq]
  rfl

/-! 75 loop.example/g00480/laws.szStringS -/
noncomputable def f75_l0 (p : Pr β) (n : Nat)  (k : AV → Heap → Option β) : Nat → AV → AV → AV → Heap → Option β
  | 0, _, _, _, _ => none
  | m + 1, t0, t1, t5, H => p.len t0 fun t14 =>
      p.bin .lss t5 t14 fun t15 =>
      p.cond t15
      (p.iadr 1 t0 t5 fun t21 =>
      p.load false 1 t21 H fun t22 =>
      p.lenS t22 fun t23 =>
      p.bin .sub t1 t23 fun t24 =>
      p.bin .lss t24 (.sc (.int .i64 0)) fun t26 =>
      p.cond t26
      (k (.sc (.int .i64 (-1))) H)
      (p.bin .add t5 (.sc (.int .i64 1)) fun t17 =>
      f75_l0 p n  k m t0 t24 t17 H))
      (k t1 H)
noncomputable def f75 (p : Pr β) (n : Nat) (a0 a1 : AV) (H : Heap) (k : AV → Heap → Option β) : Option β :=
  p.len a0 fun t8 =>
  p.bin .sub a1 t8 fun t9 =>
  p.bin .lss t9 (.sc (.int .i64 0)) fun t11 =>
  p.cond t11
  (k (.sc (.int .i64 (-1))) H)
  (f75_l0 p n  k n a0 t9 (.sc (.int .i64 0)) H)
noncomputable def f75_L0 (p : Pr β) (n : Nat)  (k : AV → Heap → Option β) (m : Nat) (tm : Tm) (H : Heap) : Option β :=
  iterC 28 (fun tm H k => evalCode ti0 p o75 28 n (cd c75 [1, 1, 1, 0, 1, 0, 0]) tm H k) (blkK 0 (seqK (fun tm H => evalCode ti0 p o75 28 n (cd c75 [1, 1, 1, 1]) tm H (endK ti0 p Go.Proofs.Tryd.f75.results.toList k)) (endK ti0 p Go.Proofs.Tryd.f75.results.toList k))) m tm H
theorem f75_L0_step (p : Pr β) (n : Nat)  (k : AV → Heap → Option β) (m0 : Nat) (t0 t1 t2 t3 t4 t5 t6 t7 t8 t9 t10 t11 t12 t13 t14 t15 t16 t17 t18 t19 t20 t21 t22 t23 t24 t25 t26 t27 : AV) (H : Heap) : f75_L0 p n  k (m0 + 1) [(0, t0), (1, t1), (2, t2), (3, t3), (4, t4), (5, t5), (6, t6), (7, t7), (8, t8), (9, t9), (10, t10), (11, t11), (12, t12), (13, t13), (14, t14), (15, t15), (16, t16), (17, t17), (18, t18), (19, t19), (20, t20), (21, t21), (22, t22), (23, t23), (24, t24), (25, t25), (26, t26), (27, t27)] H =
  p.len t0 fun t14 =>
  p.bin .lss t5 t14 fun t15 =>
  p.cond t15
  (p.iadr 1 t0 t5 fun t21 =>
  p.load false 1 t21 H fun t22 =>
  p.lenS t22 fun t23 =>
  p.bin .sub t1 t23 fun t24 =>
  p.bin .lss t24 (.sc (.int .i64 0)) fun t26 =>
  p.cond t26
  (k (.sc (.int .i64 (-1))) H)
  (p.bin .add t5 (.sc (.int .i64 1)) fun t17 =>
  f75_L0 p n  k m0 [(0, t0), (1, t24), (2, t2), (3, t3), (4, t4), (5, t17), (6, t6), (7, t7), (8, t8), (9, t9), (10, t10), (11, t11), (12, t5), (13, t0), (14, t14), (15, t15), (16, t5), (17, t17), (18, t1), (19, t0), (20, t5), (21, t21), (22, t22), (23, t23), (24, t24), (25, t24), (26, t26), (27, t27)] H))
  (k t1 H) := by kernel_rfl
theorem f75_l0_eq (p : Pr β) (n : Nat)  (k : AV → Heap → Option β)   (m0 : Nat) : ∀ (t0 t1 t2 t3 t4 t5 t6 t7 t8 t9 t10 t11 t12 t13 t14 t15 t16 t17 t18 t19 t20 t21 t22 t23 t24 t25 t26 t27 : AV) (H : Heap), f75_L0 p n  k m0 [(0, t0), (1, t1), (2, t2), (3, t3), (4, t4), (5, t5), (6, t6), (7, t7), (8, t8), (9, t9), (10, t10), (11, t11), (12, t12), (13, t13), (14, t14), (15, t15), (16, t16), (17, t17), (18, t18), (19, t19), (20, t20), (21, t21), (22, t22), (23, t23), (24, t24), (25, t25), (26, t26), (27, t27)] H = f75_l0 p n  k m0 t0 t1 t5 H := by
  induction m0 with
  | zero => intros; rfl
  | succ m0 ih =>
    intro t0 t1 t2 t3 t4 t5 t6 t7 t8 t9 t10 t11 t12 t13 t14 t15 t16 t17 t18 t19 t20 t21 t22 t23 t24 t25 t26 t27 H
    rw [f75_L0_step]
    simp only [ih]
    rfl
theorem f75_raw (p : Pr β) (n : Nat) (a0 a1 : AV) (H : Heap) (k : AV → Heap → Option β) : evalBody ti0 p n ⟨c75, 28, Go.Proofs.Tryd.f75.results.toList, o75⟩ [a0, a1] H k =
  p.len a0 fun t8 =>
  p.bin .sub a1 t8 fun t9 =>
  p.bin .lss t9 (.sc (.int .i64 0)) fun t11 =>
  p.cond t11
  (k (.sc (.int .i64 (-1))) H)
  (f75_L0 p n  k n [(0, a0), (1, t9), (2, (.sc undef)), (3, (.sc undef)), (4, (.sc (.int .i64 0))), (5, (.sc (.int .i64 0))), (6, a1), (7, a0), (8, t8), (9, t9), (10, t9), (11, t11), (12, (.sc undef)), (13, (.sc undef)), (14, (.sc undef)), (15, (.sc undef)), (16, (.sc undef)), (17, (.sc undef)), (18, (.sc undef)), (19, (.sc undef)), (20, (.sc undef)), (21, (.sc undef)), (22, (.sc undef)), (23, (.sc undef)), (24, (.sc undef)), (25, (.sc undef)), (26, (.sc undef)), (27, (.sc undef))] H) := by kernel_rfl
theorem f75_body (p : Pr β) (n : Nat) (a0 a1 : AV) (H : Heap) (k : AV → Heap → Option β) : evalBody ti0 p n ⟨c75, 28, Go.Proofs.Tryd.f75.results.toList, o75⟩ [a0, a1] H k = f75 p n a0 a1 H k := by
  rw [f75_raw]
  simp only [f75_l0_eq]
  rfl

/-! 42 loop.example/g00480/laws.szIntS -/
noncomputable def f42 (p : Pr β) (n : Nat) (a0 a1 : AV) (H : Heap) (k : AV → Heap → Option β) : Option β :=
  p.len a0 fun t7 =>
  p.bin .sub a1 t7 fun t8 =>
  p.bin .lss t8 (.sc (.int .i64 0)) fun t10 =>
  p.cond t10
  (k (.sc (.int .i64 (-1))) H)
  (k t8 H)
theorem f42_body (p : Pr β) (n : Nat) (a0 a1 : AV) (H : Heap) (k : AV → Heap → Option β) : evalBody ti0 p n ⟨c42, 12, Go.Proofs.Tryd.f42.results.toList, o42⟩ [a0, a1] H k = f42 p n a0 a1 H k := by kernel_rfl

/-! 40 loop.example/g00480/laws.szPacket -/
noncomputable def f40 (p : Pr β) (n : Nat) (a0 a1 : AV) (H : Heap) (k : AV → Heap → Option β) : Option β :=
  p.box a0 H fun t2 H =>
  p.fadr 5 t2 fun t6 =>
  p.load false 1 t6 H fun t7 =>
  p.lenS t7 fun t8 =>
  p.bin .sub a1 t8 fun t9 =>
  p.bin .lss t9 (.sc (.int .i64 0)) fun t11 =>
  p.cond t11
  (k (.sc (.int .i64 (-1))) H)
  (p.fadr 6 t2 fun t12 =>
  p.load false 1 t12 H fun t13 =>
  p.call 3 (.fn 32 [] []) [t13, t9] H fun t15 H =>
  p.bin .lss t15 (.sc (.int .i64 0)) fun t17 =>
  p.cond t17
  (k (.sc (.int .i64 (-1))) H)
  (p.fadr 7 t2 fun t19 =>
  p.load false 1 t19 H fun t20 =>
  p.lenS t20 fun t21 =>
  p.bin .sub t15 t21 fun t22 =>
  p.bin .lss t22 (.sc (.int .i64 0)) fun t24 =>
  p.cond t24
  (k (.sc (.int .i64 (-1))) H)
  (p.fadr 12 t2 fun t26 =>
  p.load false 1 t26 H fun t27 =>
  p.lenS t27 fun t28 =>
  p.bin .sub t22 t28 fun t29 =>
  p.bin .lss t29 (.sc (.int .i64 0)) fun t31 =>
  p.cond t31
  (k (.sc (.int .i64 (-1))) H)
  (p.fadr 13 t2 fun t32 =>
  p.load false 1 t32 H fun t33 =>
  p.call 3 (.fn 32 [] []) [t33, t29] H fun t35 H =>
  p.bin .lss t35 (.sc (.int .i64 0)) fun t37 =>
  p.cond t37
  (k (.sc (.int .i64 (-1))) H)
  (p.fadr 17 t2 fun t39 =>
  p.load false 1 t39 H fun t40 =>
  p.lenS t40 fun t41 =>
  p.bin .sub t35 t41 fun t42 =>
  p.bin .lss t42 (.sc (.int .i64 0)) fun t44 =>
  p.cond t44
  (k (.sc (.int .i64 (-1))) H)
  (p.fadr 19 t2 fun t45 =>
  p.load false 1 t45 H fun t46 =>
  p.call 3 (.fn 32 [] []) [t46, t42] H fun t48 H =>
  p.bin .lss t48 (.sc (.int .i64 0)) fun t50 =>
  p.cond t50
  (k (.sc (.int .i64 (-1))) H)
  (p.fadr 22 t2 fun t51 =>
  p.load false 1 t51 H fun t52 =>
  p.call 3 (.fn 74 [] []) [t52, t48] H fun t54 H =>
  p.bin .lss t54 (.sc (.int .i64 0)) fun t56 =>
  p.cond t56
  (k (.sc (.int .i64 (-1))) H)
  (p.fadr 23 t2 fun t57 =>
  p.load false 1 t57 H fun t58 =>
  p.call 3 (.fn 75 [] []) [t58, t54] H fun t60 H =>
  p.bin .lss t60 (.sc (.int .i64 0)) fun t62 =>
  p.cond t62
  (k (.sc (.int .i64 (-1))) H)
  (p.fadr 24 t2 fun t63 =>
  p.load false 1 t63 H fun t64 =>
  p.call 3 (.fn 42 [] []) [t64, t60] H fun t66 H =>
  p.bin .lss t66 (.sc (.int .i64 0)) fun t68 =>
  p.cond t68
  (k (.sc (.int .i64 (-1))) H)
  (k t66 H))))))))))
theorem f40_body (p : Pr β) (n : Nat) (a0 a1 : AV) (H : Heap) (k : AV → Heap → Option β) : evalBody ti0 p n ⟨c40, 70, Go.Proofs.Tryd.f40.results.toList, o40⟩ [a0, a1] H k = f40 p n a0 a1 H k := by kernel_rfl

/-! 76 loop.example/g00480/laws.szSub -/
noncomputable def f76 (p : Pr β) (n : Nat) (a0 a1 : AV) (H : Heap) (k : AV → Heap → Option β) : Option β :=
  p.box a0 H fun t2 H =>
  p.fadr 0 t2 fun t6 =>
  p.load false 1 t6 H fun t7 =>
  p.lenS t7 fun t8 =>
  p.bin .sub a1 t8 fun t9 =>
  p.bin .lss t9 (.sc (.int .i64 0)) fun t11 =>
  p.cond t11
  (k (.sc (.int .i64 (-1))) H)
  (k t9 H)
theorem f76_body (p : Pr β) (n : Nat) (a0 a1 : AV) (H : Heap) (k : AV → Heap → Option β) : evalBody ti0 p n ⟨c76, 13, Go.Proofs.Tryd.f76.results.toList, o76⟩ [a0, a1] H k = f76 p n a0 a1 H k := by kernel_rfl

/-! 41 loop.example/g00480/laws.szSubS -/
noncomputable def f41_l0 (p : Pr β) (n : Nat)  (k : AV → Heap → Option β) : Nat → AV → AV → AV → Heap → Option β
  | 0, _, _, _, _ => none
  | m + 1, t0, t1, t5, H => p.len t0 fun t14 =>
      p.bin .lss t5 t14 fun t15 =>
      p.cond t15
      (p.iadr 3 t0 t5 fun t20 =>
      p.load true 3 t20 H fun t21 =>
      p.call 3 (.fn 76 [] []) [t21, t1] H fun t23 H =>
      p.bin .lss t23 (.sc (.int .i64 0)) fun t25 =>
      p.cond t25
      (k (.sc (.int .i64 (-1))) H)
      (p.bin .add t5 (.sc (.int .i64 1)) fun t17 =>
      f41_l0 p n  k m t0 t23 t17 H))
      (k t1 H)
noncomputable def f41 (p : Pr β) (n : Nat) (a0 a1 : AV) (H : Heap) (k : AV → Heap → Option β) : Option β :=
  p.len a0 fun t8 =>
  p.bin .sub a1 t8 fun t9 =>
  p.bin .lss t9 (.sc (.int .i64 0)) fun t11 =>
  p.cond t11
  (k (.sc (.int .i64 (-1))) H)
  (f41_l0 p n  k n a0 t9 (.sc (.int .i64 0)) H)
noncomputable def f41_L0 (p : Pr β) (n : Nat)  (k : AV → Heap → Option β) (m : Nat) (tm : Tm) (H : Heap) : Option β :=
  iterC 27 (fun tm H k => evalCode ti0 p o41 27 n (cd c41 [1, 1, 1, 0, 1, 0, 0]) tm H k) (blkK 0 (seqK (fun tm H => evalCode ti0 p o41 27 n (cd c41 [1, 1, 1, 1]) tm H (endK ti0 p Go.Proofs.Tryd.f41.results.toList k)) (endK ti0 p Go.Proofs.Tryd.f41.results.toList k))) m tm H
theorem f41_L0_step (p : Pr β) (n : Nat)  (k : AV → Heap → Option β) (m0 : Nat) (t0 t1 t2 t3 t4 t5 t6 t7 t8 t9 t10 t11 t12 t13 t14 t15 t16 t17 t18 t19 t20 t21 t22 t23 t24 t25 t26 : AV) (H : Heap) : f41_L0 p n  k (m0 + 1) [(0, t0), (1, t1), (2, t2), (3, t3), (4, t4), (5, t5), (6, t6), (7, t7), (8, t8), (9, t9), (10, t10), (11, t11), (12, t12), (13, t13), (14, t14), (15, t15), (16, t16), (17, t17), (18, t18), (19, t19), (20, t20), (21, t21), (22, t22), (23, t23), (24, t24), (25, t25), (26, t26)] H =
  p.len t0 fun t14 =>
  p.bin .lss t5 t14 fun t15 =>
  p.cond t15
  (p.iadr 3 t0 t5 fun t20 =>
  p.load true 3 t20 H fun t21 =>
  p.call 3 (.fn 76 [] []) [t21, t1] H fun t23 H =>
  p.bin .lss t23 (.sc (.int .i64 0)) fun t25 =>
  p.cond t25
  (k (.sc (.int .i64 (-1))) H)
  (p.bin .add t5 (.sc (.int .i64 1)) fun t17 =>
  f41_L0 p n  k m0 [(0, t0), (1, t23), (2, t2), (3, t3), (4, t4), (5, t17), (6, t6), (7, t7), (8, t8), (9, t9), (10, t10), (11, t11), (12, t5), (13, t0), (14, t14), (15, t15), (16, t5), (17, t17), (18, t0), (19, t5), (20, t20), (21, t21), (22, t1), (23, t23), (24, t23), (25, t25), (26, t26)] H))
  (k t1 H) := by kernel_rfl
theorem f41_l0_eq (p : Pr β) (n : Nat)  (k : AV → Heap → Option β)   (m0 : Nat) : ∀ (t0 t1 t2 t3 t4 t5 t6 t7 t8 t9 t10 t11 t12 t13 t14 t15 t16 t17 t18 t19 t20 t21 t22 t23 t24 t25 t26 : AV) (H : Heap), f41_L0 p n  k m0 [(0, t0), (1, t1), (2, t2), (3, t3), (4, t4), (5, t5), (6, t6), (7, t7), (8, t8), (9, t9), (10, t10), (11, t11), (12, t12), (13, t13), (14, t14), (15, t15), (16, t16), (17, t17), (18, t18), (19, t19), (20, t20), (21, t21), (22, t22), (23, t23), (24, t24), (25, t25), (26, t26)] H = f41_l0 p n  k m0 t0 t1 t5 H := by
  induction m0 with
  | zero => intros; rfl
  | succ m0 ih =>
    intro t0 t1 t2 t3 t4 t5 t6 t7 t8 t9 t10 t11 t12 t13 t14 t15 t16 t17 t18 t19 t20 t21 t22 t23 t24 t25 t26 H
    rw [f41_L0_step]
    simp only [ih]
    rfl
theorem f41_raw (p : Pr β) (n : Nat) (a0 a1 : AV) (H : Heap) (k : AV → Heap → Option β) : evalBody ti0 p n ⟨c41, 27, Go.Proofs.Tryd.f41.results.toList, o41⟩ [a0, a1] H k =
  p.len a0 fun t8 =>
  p.bin .sub a1 t8 fun t9 =>
  p.bin .lss t9 (.sc (.int .i64 0)) fun t11 =>
  p.cond t11
  (k (.sc (.int .i64 (-1))) H)
  (f41_L0 p n  k n [(0, a0), (1, t9), (2, (.sc undef)), (3, (.sc undef)), (4, (.sc (.int .i64 0))), (5, (.sc (.int .i64 0))), (6, a1), (7, a0), (8, t8), (9, t9), (10, t9), (11, t11), (12, (.sc undef)), (13, (.sc undef)), (14, (.sc undef)), (15, (.sc undef)), (16, (.sc undef)), (17, (.sc undef)), (18, (.sc undef)), (19, (.sc undef)), (20, (.sc undef)), (21, (.sc undef)), (22, (.sc undef)), (23, (.sc undef)), (24, (.sc undef)), (25, (.sc undef)), (26, (.sc undef))] H) := by kernel_rfl
theorem f41_body (p : Pr β) (n : Nat) (a0 a1 : AV) (H : Heap) (k : AV → Heap → Option β) : evalBody ti0 p n ⟨c41, 27, Go.Proofs.Tryd.f41.results.toList, o41⟩ [a0, a1] H k = f41 p n a0 a1 H k := by
  rw [f41_raw]
  simp only [f41_l0_eq]
  rfl

/-! 7 loop.example/g00480/laws.szMsg -/
noncomputable def f7 (p : Pr β) (n : Nat) (a0 a1 : AV) (H : Heap) (k : AV → Heap → Option β) : Option β :=
  p.box a0 H fun t2 H =>
  p.fadr 0 t2 fun t6 =>
  p.load false 1 t6 H fun t7 =>
  p.lenS t7 fun t8 =>
  p.bin .sub a1 t8 fun t9 =>
  p.bin .lss t9 (.sc (.int .i64 0)) fun t11 =>
  p.cond t11
  (k (.sc (.int .i64 (-1))) H)
  (p.fadr 1 t2 fun t12 =>
  p.load false 1 t12 H fun t13 =>
  p.call 3 (.fn 32 [] []) [t13, t9] H fun t15 H =>
  p.bin .lss t15 (.sc (.int .i64 0)) fun t17 =>
  p.cond t17
  (k (.sc (.int .i64 (-1))) H)
  (k t15 H))
theorem f7_body (p : Pr β) (n : Nat) (a0 a1 : AV) (H : Heap) (k : AV → Heap → Option β) : evalBody ti0 p n ⟨c7, 19, Go.Proofs.Tryd.f7.results.toList, o7⟩ [a0, a1] H k = f7 p n a0 a1 H k := by kernel_rfl

/-! 12 loop.example/g00480/laws.szMsgS -/
noncomputable def f12_l0 (p : Pr β) (n : Nat)  (k : AV → Heap → Option β) : Nat → AV → AV → AV → Heap → Option β
  | 0, _, _, _, _ => none
  | m + 1, t0, t1, t5, H => p.len t0 fun t14 =>
      p.bin .lss t5 t14 fun t15 =>
      p.cond t15
      (p.iadr 4 t0 t5 fun t20 =>
      p.load true 4 t20 H fun t21 =>
      p.call 3 (.fn 7 [] []) [t21, t1] H fun t23 H =>
      p.bin .lss t23 (.sc (.int .i64 0)) fun t25 =>
      p.cond t25
      (k (.sc (.int .i64 (-1))) H)
      (p.bin .add t5 (.sc (.int .i64 1)) fun t17 =>
      f12_l0 p n  k m t0 t23 t17 H))
      (k t1 H)
noncomputable def f12 (p : Pr β) (n : Nat) (a0 a1 : AV) (H : Heap) (k : AV → Heap → Option β) : Option β :=
  p.len a0 fun t8 =>
  p.bin .sub a1 t8 fun t9 =>
  p.bin .lss t9 (.sc (.int .i64 0)) fun t11 =>
  p.cond t11
  (k (.sc (.int .i64 (-1))) H)
  (f12_l0 p n  k n a0 t9 (.sc (.int .i64 0)) H)
noncomputable def f12_L0 (p : Pr β) (n : Nat)  (k : AV → Heap → Option β) (m : Nat) (tm : Tm) (H : Heap) : Option β :=
  iterC 27 (fun tm H k => evalCode ti0 p o12 27 n (cd c12 [1, 1, 1, 0, 1, 0, 0]) tm H k) (blkK 0 (seqK (fun tm H => evalCode ti0 p o12 27 n (cd c12 [1, 1, 1, 1]) tm H (endK ti0 p Go.Proofs.Tryd.f12.results.toList k)) (endK ti0 p Go.Proofs.Tryd.f12.results.toList k))) m tm H
theorem f12_L0_step (p : Pr β) (n : Nat)  (k : AV → Heap → Option β) (m0 : Nat) (t0 t1 t2 t3 t4 t5 t6 t7 t8 t9 t10 t11 t12 t13 t14 t15 t16 t17 t18 t19 t20 t21 t22 t23 t24 t25 t26 : AV) (H : Heap) : f12_L0 p n  k (m0 + 1) [(0, t0), (1, t1), (2, t2), (3, t3), (4, t4), (5, t5), (6, t6), (7, t7), (8, t8), (9, t9), (10, t10), (11, t11), (12, t12), (13, t13), (14, t14), (15, t15), (16, t16), (17, t17), (18, t18), (19, t19), (20, t20), (21, t21), (22, t22), (23, t23), (24, t24), (25, t25), (26, t26)] H =
  p.len t0 fun t14 =>
  p.bin .lss t5 t14 fun t15 =>
  p.cond t15
  (p.iadr 4 t0 t5 fun t20 =>
  p.load true 4 t20 H fun t21 =>
  p.call 3 (.fn 7 [] []) [t21, t1] H fun t23 H =>
  p.bin .lss t23 (.sc (.int .i64 0)) fun t25 =>
  p.cond t25
  (k (.sc (.int .i64 (-1))) H)
  (p.bin .add t5 (.sc (.int .i64 1)) fun t17 =>
  f12_L0 p n  k m0 [(0, t0), (1, t23), (2, t2), (3, t3), (4, t4), (5, t17), (6, t6), (7, t7), (8, t8), (9, t9), (10, t10), (11, t11), (12, t5), (13, t0), (14, t14), (15, t15), (16, t5), (17, t17), (18, t0), (19, t5), (20, t20), (21, t21), (22, t1), (23, t23), (24, t23), (25, t25), (26, t26)] H))
  (k t1 H) := by kernel_rfl
theorem f12_l0_eq (p : Pr β) (n : Nat)  (k : AV → Heap → Option β)   (m0 : Nat) : ∀ (t0 t1 t2 t3 t4 t5 t6 t7 t8 t9 t10 t11 t12 t13 t14 t15 t16 t17 t18 t19 t20 t21 t22 t23 t24 t25 t26 : AV) (H : Heap), f12_L0 p n  k m0 [(0, t0), (1, t1), (2, t2), (3, t3), (4, t4), (5, t5), (6, t6), (7, t7), (8, t8), (9, t9), (10, t10), (11, t11), (12, t12), (13, t13), (14, t14), (15, t15), (16, t16), (17, t17), (18, t18), (19, t19), (20, t20), (21, t21), (22, t22), (23, t23), (24, t24), (25, t25), (26, t26)] H = f12_l0 p n  k m0 t0 t1 t5 H := by
  induction m0 with
  | zero => intros; rfl
  | succ m0 ih =>
    intro t0 t1 t2 t3 t4 t5 t6 t7 t8 t9 t10 t11 t12 t13 t14 t15 t16 t17 t18 t19 t20 t21 t22 t23 t24 t25 t26 H
    rw [f12_L0_step]
    simp only [ih]
    rfl
theorem f12_raw (p : Pr β) (n : Nat) (a0 a1 : AV) (H : Heap) (k : AV → Heap → Option β) : evalBody ti0 p n ⟨c12, 27, Go.Proofs.Tryd.f12.results.toList, o12⟩ [a0, a1] H k =
  p.len a0 fun t8 =>
  p.bin .sub a1 t8 fun t9 =>
  p.bin .lss t9 (.sc (.int .i64 0)) fun t11 =>
  p.cond t11
  (k (.sc (.int .i64 (-1))) H)
  (f12_L0 p n  k n [(0, a0), (1, t9), (2, (.sc undef)), (3, (.sc undef)), (4, (.sc (.int .i64 0))), (5, (.sc (.int .i64 0))), (6, a1), (7, a0), (8, t8), (9, t9), (10, t9), (11, t11), (12, (.sc undef)), (13, (.sc undef)), (14, (.sc undef)), (15, (.sc undef)), (16, (.sc undef)), (17, (.sc undef)), (18, (.sc undef)), (19, (.sc undef)), (20, (.sc undef)), (21, (.sc undef)), (22, (.sc undef)), (23, (.sc undef)), (24, (.sc undef)), (25, (.sc undef)), (26, (.sc undef))] H) := by kernel_rfl
theorem f12_body (p : Pr β) (n : Nat) (a0 a1 : AV) (H : Heap) (k : AV → Heap → Option β) : evalBody ti0 p n ⟨c12, 27, Go.Proofs.Tryd.f12.results.toList, o12⟩ [a0, a1] H k = f12 p n a0 a1 H k := by
  rw [f12_raw]
  simp only [f12_l0_eq]
  rfl

/-! 17 loop.example/g00480/laws.szDeed -/
noncomputable def f17 (p : Pr β) (n : Nat) (a0 a1 : AV) (H : Heap) (k : AV → Heap → Option β) : Option β :=
  p.box a0 H fun t2 H =>
  p.fadr 3 t2 fun t6 =>
  p.load false 1 t6 H fun t7 =>
  p.lenS t7 fun t8 =>
  p.bin .sub a1 t8 fun t9 =>
  p.bin .lss t9 (.sc (.int .i64 0)) fun t11 =>
  p.cond t11
  (k (.sc (.int .i64 (-1))) H)
  (p.fadr 4 t2 fun t12 =>
  p.load true 25 t12 H fun t13 =>
  p.call 3 (.fn 40 [] []) [t13, t9] H fun t15 H =>
  p.bin .lss t15 (.sc (.int .i64 0)) fun t17 =>
  p.cond t17
  (k (.sc (.int .i64 (-1))) H)
  (p.fadr 37 t2 fun t18 =>
  p.load false 1 t18 H fun t19 =>
  p.call 3 (.fn 41 [] []) [t19, t15] H fun t21 H =>
  p.bin .lss t21 (.sc (.int .i64 0)) fun t23 =>
  p.cond t23
  (k (.sc (.int .i64 (-1))) H)
  (p.fadr 38 t2 fun t24 =>
  p.load false 1 t24 H fun t25 =>
  p.call 3 (.fn 42 [] []) [t25, t21] H fun t27 H =>
  p.bin .lss t27 (.sc (.int .i64 0)) fun t29 =>
  p.cond t29
  (k (.sc (.int .i64 (-1))) H)
  (p.fadr 39 t2 fun t30 =>
  p.load false 1 t30 H fun t31 =>
  p.call 3 (.fn 12 [] []) [t31, t27] H fun t33 H =>
  p.bin .lss t33 (.sc (.int .i64 0)) fun t35 =>
  p.cond t35
  (k (.sc (.int .i64 (-1))) H)
  (k t33 H)))))
theorem f17_body (p : Pr β) (n : Nat) (a0 a1 : AV) (H : Heap) (k : AV → Heap → Option β) : evalBody ti0 p n ⟨c17, 37, Go.Proofs.Tryd.f17.results.toList, o17⟩ [a0, a1] H k = f17 p n a0 a1 H k := by kernel_rfl

/-! 35 loop.example/g00480/laws.toByteS -/
noncomputable def f35_l0 (p : Pr β) (n : Nat)  (k : AV → Heap → Option β) : Nat → AV → AV → AV → Heap → Option β
  | 0, _, _, _, _ => none
  | m + 1, t0, t3, t4, H => p.len t0 fun t10 =>
      p.bin .lss t4 t10 fun t11 =>
      p.cond t11
      (p.iadr 1 t0 t4 fun t18 =>
      p.load false 1 t18 H fun t19 =>
      p.iadr 1 t3 t4 fun t20 =>
      p.store 1 t20 t19 H fun H =>
      p.bin .add t4 (.sc (.int .i64 1)) fun t13 =>
      f35_l0 p n  k m t0 t3 t13 H)
      (k t3 H)
noncomputable def f35 (p : Pr β) (n : Nat) (a0 : AV) (H : Heap) (k : AV → Heap → Option β) : Option β :=
  p.len a0 fun t6 =>
  p.make 1 1 [(.sc (.int .u8 0))] t6 t6 H fun t7 H =>
  f35_l0 p n  k n a0 t7 (.sc (.int .i64 0)) H
noncomputable def f35_L0 (p : Pr β) (n : Nat)  (k : AV → Heap → Option β) (m : Nat) (tm : Tm) (H : Heap) : Option β :=
  iterC 22 (fun tm H k => evalCode ti0 p o35 22 n (cd c35 [1, 1, 0, 1, 0, 0]) tm H k) (blkK 0 (seqK (fun tm H => evalCode ti0 p o35 22 n (cd c35 [1, 1, 1]) tm H (endK ti0 p Go.Proofs.Tryd.f35.results.toList k)) (endK ti0 p Go.Proofs.Tryd.f35.results.toList k))) m tm H
theorem f35_L0_step (p : Pr β) (n : Nat)  (k : AV → Heap → Option β) (m0 : Nat) (t0 t1 t2 t3 t4 t5 t6 t7 t8 t9 t10 t11 t12 t13 t14 t15 t16 t17 t18 t19 t20 t21 : AV) (H : Heap) : f35_L0 p n  k (m0 + 1) [(0, t0), (1, t1), (2, t2), (3, t3), (4, t4), (5, t5), (6, t6), (7, t7), (8, t8), (9, t9), (10, t10), (11, t11), (12, t12), (13, t13), (14, t14), (15, t15), (16, t16), (17, t17), (18, t18), (19, t19), (20, t20), (21, t21)] H =
  p.len t0 fun t10 =>
  p.bin .lss t4 t10 fun t11 =>
  p.cond t11
  (p.iadr 1 t0 t4 fun t18 =>
  p.load false 1 t18 H fun t19 =>
  p.iadr 1 t3 t4 fun t20 =>
  p.store 1 t20 t19 H fun H =>
  p.bin .add t4 (.sc (.int .i64 1)) fun t13 =>
  f35_L0 p n  k m0 [(0, t0), (1, t1), (2, t2), (3, t3), (4, t13), (5, t5), (6, t6), (7, t7), (8, t4), (9, t0), (10, t10), (11, t11), (12, t4), (13, t13), (14, t3), (15, t4), (16, t0), (17, t4), (18, t18), (19, t19), (20, t20), (21, t21)] H)
  (k t3 H) := by kernel_rfl
theorem f35_l0_eq (p : Pr β) (n : Nat)  (k : AV → Heap → Option β)   (m0 : Nat) : ∀ (t0 t1 t2 t3 t4 t5 t6 t7 t8 t9 t10 t11 t12 t13 t14 t15 t16 t17 t18 t19 t20 t21 : AV) (H : Heap), f35_L0 p n  k m0 [(0, t0), (1, t1), (2, t2), (3, t3), (4, t4), (5, t5), (6, t6), (7, t7), (8, t8), (9, t9), (10, t10), (11, t11), (12, t12), (13, t13), (14, t14), (15, t15), (16, t16), (17, t17), (18, t18), (19, t19), (20, t20), (21, t21)] H = f35_l0 p n  k m0 t0 t3 t4 H := by
  induction m0 with
  | zero => intros; rfl
  | succ m0 ih =>
    intro t0 t1 t2 t3 t4 t5 t6 t7 t8 t9 t10 t11 t12 t13 t14 t15 t16 t17 t18 t19 t20 t21 H
    rw [f35_L0_step]
    simp only [ih]
    rfl
theorem f35_raw (p : Pr β) (n : Nat) (a0 : AV) (H : Heap) (k : AV → Heap → Option β) : evalBody ti0 p n ⟨c35, 22, Go.Proofs.Tryd.f35.results.toList, o35⟩ [a0] H k =
  p.len a0 fun t6 =>
  p.make 1 1 [(.sc (.int .u8 0))] t6 t6 H fun t7 H =>
  f35_L0 p n  k n [(0, a0), (1, (.sc undef)), (2, .nl), (3, t7), (4, (.sc (.int .i64 0))), (5, a0), (6, t6), (7, t7), (8, (.sc undef)), (9, (.sc undef)), (10, (.sc undef)), (11, (.sc undef)), (12, (.sc undef)), (13, (.sc undef)), (14, (.sc undef)), (15, (.sc undef)), (16, (.sc undef)), (17, (.sc undef)), (18, (.sc undef)), (19, (.sc undef)), (20, (.sc undef)), (21, (.sc undef))] H := by kernel_rfl
theorem f35_body (p : Pr β) (n : Nat) (a0 : AV) (H : Heap) (k : AV → Heap → Option β) : evalBody ti0 p n ⟨c35, 22, Go.Proofs.Tryd.f35.results.toList, o35⟩ [a0] H k = f35 p n a0 H k := by
  rw [f35_raw]
  simp only [f35_l0_eq]
  rfl

/-! 107 loop.example/g00480/laws.toWant -/
noncomputable def f107 (p : Pr β) (n : Nat) (a0 : AV) (H : Heap) (k : AV → Heap → Option β) : Option β :=
  p.box a0 H fun t1 H =>
  p.new [(.sc (.string ⟨#[]⟩)), (.sc (.int .i64 0))] H fun t2 H =>
  p.new [(.sc (.string ⟨#[]⟩)), (.sc (.int .i64 0))] H fun t3 H =>
  p.fadr 0 t1 fun t4 =>
  p.load false 1 t4 H fun t5 =>
  p.fadr 0 t3 fun t6 =>
  p.store 1 t6 t5 H fun H =>
  p.fadr 1 t1 fun t7 =>
  p.load false 1 t7 H fun t8 =>
  p.fadr 1 t3 fun t9 =>
  p.store 1 t9 t8 H fun H =>
  p.load true 2 t3 H fun t10 =>
  p.store 2 t2 t10 H fun H =>
  p.load true 2 t2 H fun r0 =>
  k r0 H
theorem f107_body (p : Pr β) (n : Nat) (a0 : AV) (H : Heap) (k : AV → Heap → Option β) : evalBody ti0 p n ⟨c107, 11, Go.Proofs.Tryd.f107.results.toList, o107⟩ [a0] H k = f107 p n a0 H k := by kernel_rfl

/-! 78 loop.example/g00480/laws.toWantS -/
noncomputable def f78_l0 (p : Pr β) (n : Nat)  (k : AV → Heap → Option β) : Nat → AV → AV → AV → Heap → Option β
  | 0, _, _, _, _ => none
  | m + 1, t0, t3, t4, H => p.len t0 fun t10 =>
      p.bin .lss t4 t10 fun t11 =>
      p.cond t11
      (p.iadr 2 t0 t4 fun t18 =>
      p.load true 2 t18 H fun t19 =>
      p.call 115 (.fn 107 [] []) [t19] H fun t20 H =>
      p.iadr 2 t3 t4 fun t21 =>
      p.store 2 t21 t20 H fun H =>
      p.bin .add t4 (.sc (.int .i64 1)) fun t13 =>
      f78_l0 p n  k m t0 t3 t13 H)
      (k t3 H)
noncomputable def f78 (p : Pr β) (n : Nat) (a0 : AV) (H : Heap) (k : AV → Heap → Option β) : Option β :=
  p.len a0 fun t6 =>
  p.make 2 24 [(.sc (.string ⟨#[]⟩)), (.sc (.int .i64 0))] t6 t6 H fun t7 H =>
  f78_l0 p n  k n a0 t7 (.sc (.int .i64 0)) H
noncomputable def f78_L0 (p : Pr β) (n : Nat)  (k : AV → Heap → Option β) (m : Nat) (tm : Tm) (H : Heap) : Option β :=
  iterC 23 (fun tm H k => evalCode ti0 p o78 23 n (cd c78 [1, 1, 0, 1, 0, 0]) tm H k) (blkK 0 (seqK (fun tm H => evalCode ti0 p o78 23 n (cd c78 [1, 1, 1]) tm H (endK ti0 p Go.Proofs.Tryd.f78.results.toList k)) (endK ti0 p Go.Proofs.Tryd.f78.results.toList k))) m tm H
theorem f78_L0_step (p : Pr β) (n : Nat)  (k : AV → Heap → Option β) (m0 : Nat) (t0 t1 t2 t3 t4 t5 t6 t7 t8 t9 t10 t11 t12 t13 t14 t15 t16 t17 t18 t19 t20 t21 t22 : AV) (H : Heap) : f78_L0 p n  k (m0 + 1) [(0, t0), (1, t1), (2, t2), (3, t3), (4, t4), (5, t5), (6, t6), (7, t7), (8, t8), (9, t9), (10, t10), (11, t11), (12, t12), (13, t13), (14, t14), (15, t15), (16, t16), (17, t17), (18, t18), (19, t19), (20, t20), (21, t21), (22, t22)] H =
  p.len t0 fun t10 =>
  p.bin .lss t4 t10 fun t11 =>
  p.cond t11
  (p.iadr 2 t0 t4 fun t18 =>
  p.load true 2 t18 H fun t19 =>
  p.call 115 (.fn 107 [] []) [t19] H fun t20 H =>
  p.iadr 2 t3 t4 fun t21 =>
  p.store 2 t21 t20 H fun H =>
  p.bin .add t4 (.sc (.int .i64 1)) fun t13 =>
  f78_L0 p n  k m0 [(0, t0), (1, t1), (2, t2), (3, t3), (4, t13), (5, t5), (6, t6), (7, t7), (8, t4), (9, t0), (10, t10), (11, t11), (12, t4), (13, t13), (14, t3), (15, t4), (16, t0), (17, t4), (18, t18), (19, t19), (20, t20), (21, t21), (22, t22)] H)
  (k t3 H) := by kernel_rfl
theorem f78_l0_eq (p : Pr β) (n : Nat)  (k : AV → Heap → Option β)   (m0 : Nat) : ∀ (t0 t1 t2 t3 t4 t5 t6 t7 t8 t9 t10 t11 t12 t13 t14 t15 t16 t17 t18 t19 t20 t21 t22 : AV) (H : Heap), f78_L0 p n  k m0 [(0, t0), (1, t1), (2, t2), (3, t3), (4, t4), (5, t5), (6, t6), (7, t7), (8, t8), (9, t9), (10, t10), (11, t11), (12, t12), (13, t13), (14, t14), (15, t15), (16, t16), (17, t17), (18, t18), (19, t19), (20, t20), (21, t21), (22, t22)] H = f78_l0 p n  k m0 t0 t3 t4 H := by
  induction m0 with
  | zero => intros; rfl
  | succ m0 ih =>
    intro t0 t1 t2 t3 t4 t5 t6 t7 t8 t9 t10 t11 t12 t13 t14 t15 t16 t17 t18 t19 t20 t21 t22 H
    rw [f78_L0_step]
    simp only [ih]
    rfl
theorem f78_raw (p : Pr β) (n : Nat) (a0 : AV) (H : Heap) (k : AV → Heap → Option β) : evalBody ti0 p n ⟨c78, 23, Go.Proofs.Tryd.f78.results.toList, o78⟩ [a0] H k =
  p.len a0 fun t6 =>
  p.make 2 24 [(.sc (.string ⟨#[]⟩)), (.sc (.int .i64 0))] t6 t6 H fun t7 H =>
  f78_L0 p n  k n [(0, a0), (1, (.sc undef)), (2, .nl), (3, t7), (4, (.sc (.int .i64 0))), (5, a0), (6, t6), (7, t7), (8, (.sc undef)), (9, (.sc undef)), (10, (.sc undef)), (11, (.sc undef)), (12, (.sc undef)), (13, (.sc undef)), (14, (.sc undef)), (15, (.sc undef)), (16, (.sc undef)), (17, (.sc undef)), (18, (.sc undef)), (19, (.sc undef)), (20, (.sc undef)), (21, (.sc undef)), (22, (.sc undef))] H := by kernel_rfl
theorem f78_body (p : Pr β) (n : Nat) (a0 : AV) (H : Heap) (k : AV → Heap → Option β) : evalBody ti0 p n ⟨c78, 23, Go.Proofs.Tryd.f78.results.toList, o78⟩ [a0] H k = f78 p n a0 H k := by
  rw [f78_raw]
  simp only [f78_l0_eq]
  rfl

/-! 79 loop.example/g00480/laws.toStringS -/
noncomputable def f79_l0 (p : Pr β) (n : Nat)  (k : AV → Heap → Option β) : Nat → AV → AV → AV → Heap → Option β
  | 0, _, _, _, _ => none
  | m + 1, t0, t3, t4, H => p.len t0 fun t10 =>
      p.bin .lss t4 t10 fun t11 =>
      p.cond t11
      (p.iadr 1 t0 t4 fun t18 =>
      p.load false 1 t18 H fun t19 =>
      p.iadr 1 t3 t4 fun t20 =>
      p.store 1 t20 t19 H fun H =>
      p.bin .add t4 (.sc (.int .i64 1)) fun t13 =>
      f79_l0 p n  k m t0 t3 t13 H)
      (k t3 H)
noncomputable def f79 (p : Pr β) (n : Nat) (a0 : AV) (H : Heap) (k : AV → Heap → Option β) : Option β :=
  p.len a0 fun t6 =>
  p.make 1 16 [(.sc (.string ⟨#[]⟩))] t6 t6 H fun t7 H =>
  f79_l0 p n  k n a0 t7 (.sc (.int .i64 0)) H
noncomputable def f79_L0 (p : Pr β) (n : Nat)  (k : AV → Heap → Option β) (m : Nat) (tm : Tm) (H : Heap) : Option β :=
  iterC 22 (fun tm H k => evalCode ti0 p o79 22 n (cd c79 [1, 1, 0, 1, 0, 0]) tm H k) (blkK 0 (seqK (fun tm H => evalCode ti0 p o79 22 n (cd c79 [1, 1, 1]) tm H (endK ti0 p Go.Proofs.Tryd.f79.results.toList k)) (endK ti0 p Go.Proofs.Tryd.f79.results.toList k))) m tm H
theorem f79_L0_step (p : Pr β) (n : Nat)  (k : AV → Heap → Option β) (m0 : Nat) (t0 t1 t2 t3 t4 t5 t6 t7 t8 t9 t10 t11 t12 t13 t14 t15 t16 t17 t18 t19 t20 t21 : AV) (H : Heap) : f79_L0 p n  k (m0 + 1) [(0, t0), (1, t1), (2, t2), (3, t3), (4, t4), (5, t5), (6, t6), (7, t7), (8, t8), (9, t9), (10, t10), (11, t11), (12, t12), (13, t13), (14, t14), (15, t15), (16, t16), (17, t17), (18, t18), (19, t19), (20, t20), (21, t21)] H =
  p.len t0 fun t10 =>
  p.bin .lss t4 t10 fun t11 =>
  p.cond t11
  (p.iadr 1 t0 t4 fun t18 =>
  p.load false 1 t18 H fun t19 =>
  p.iadr 1 t3 t4 fun t20 =>
  p.store 1 t20 t19 H fun H =>
  p.bin .add t4 (.sc (.int .i64 1)) fun t13 =>
  f79_L0 p n  k m0 [(0, t0), (1, t1), (2, t2), (3, t3), (4, t13), (5, t5), (6, t6), (7, t7), (8, t4), (9, t0), (10, t10), (11, t11), (12, t4), (13, t13), (14, t3), (15, t4), (16, t0), (17, t4), (18, t18), (19, t19), (20, t20), (21, t21)] H)
  (k t3 H) := by kernel_rfl
theorem f79_l0_eq (p : Pr β) (n : Nat)  (k : AV → Heap → Option β)   (m0 : Nat) : ∀ (t0 t1 t2 t3 t4 t5 t6 t7 t8 t9 t10 t11 t12 t13 t14 t15 t16 t17 t18 t19 t20 t21 : AV) (H : Heap), f79_L0 p n  k m0 [(0, t0), (1, t1), (2, t2), (3, t3), (4, t4), (5, t5), (6, t6), (7, t7), (8, t8), (9, t9), (10, t10), (11, t11), (12, t12), (13, t13), (14, t14), (15, t15), (16, t16), (17, t17), (18, t18), (19, t19), (20, t20), (21, t21)] H = f79_l0 p n  k m0 t0 t3 t4 H := by
  induction m0 with
  | zero => intros; rfl
  | succ m0 ih =>
    intro t0 t1 t2 t3 t4 t5 t6 t7 t8 t9 t10 t11 t12 t13 t14 t15 t16 t17 t18 t19 t20 t21 H
    rw [f79_L0_step]
    simp only [ih]
    rfl
theorem f79_raw (p : Pr β) (n : Nat) (a0 : AV) (H : Heap) (k : AV → Heap → Option β) : evalBody ti0 p n ⟨c79, 22, Go.Proofs.Tryd.f79.results.toList, o79⟩ [a0] H k =
  p.len a0 fun t6 =>
  p.make 1 16 [(.sc (.string ⟨#[]⟩))] t6 t6 H fun t7 H =>
  f79_L0 p n  k n [(0, a0), (1, (.sc undef)), (2, .nl), (3, t7), (4, (.sc (.int .i64 0))), (5, a0), (6, t6), (7, t7), (8, (.sc undef)), (9, (.sc undef)), (10, (.sc undef)), (11, (.sc undef)), (12, (.sc undef)), (13, (.sc undef)), (14, (.sc undef)), (15, (.sc undef)), (16, (.sc undef)), (17, (.sc undef)), (18, (.sc undef)), (19, (.sc undef)), (20, (.sc undef)), (21, (.sc undef))] H := by kernel_rfl
theorem f79_body (p : Pr β) (n : Nat) (a0 : AV) (H : Heap) (k : AV → Heap → Option β) : evalBody ti0 p n ⟨c79, 22, Go.Proofs.Tryd.f79.results.toList, o79⟩ [a0] H k = f79 p n a0 H k := by
  rw [f79_raw]
  simp only [f79_l0_eq]
  rfl

/-! 46 loop.example/g00480/laws.toIntS -/
noncomputable def f46_l0 (p : Pr β) (n : Nat)  (k : AV → Heap → Option β) : Nat → AV → AV → AV → Heap → Option β
  | 0, _, _, _, _ => none
  | m + 1, t0, t3, t4, H => p.len t0 fun t10 =>
      p.bin .lss t4 t10 fun t11 =>
      p.cond t11
      (p.iadr 1 t0 t4 fun t18 =>
      p.load false 1 t18 H fun t19 =>
      p.iadr 1 t3 t4 fun t20 =>
      p.store 1 t20 t19 H fun H =>
      p.bin .add t4 (.sc (.int .i64 1)) fun t13 =>
      f46_l0 p n  k m t0 t3 t13 H)
      (k t3 H)
noncomputable def f46 (p : Pr β) (n : Nat) (a0 : AV) (H : Heap) (k : AV → Heap → Option β) : Option β :=
  p.len a0 fun t6 =>
  p.make 1 8 [(.sc (.int .i64 0))] t6 t6 H fun t7 H =>
  f46_l0 p n  k n a0 t7 (.sc (.int .i64 0)) H
noncomputable def f46_L0 (p : Pr β) (n : Nat)  (k : AV → Heap → Option β) (m : Nat) (tm : Tm) (H : Heap) : Option β :=
  iterC 22 (fun tm H k => evalCode ti0 p o46 22 n (cd c46 [1, 1, 0, 1, 0, 0]) tm H k) (blkK 0 (seqK (fun tm H => evalCode ti0 p o46 22 n (cd c46 [1, 1, 1]) tm H (endK ti0 p Go.Proofs.Tryd.f46.results.toList k)) (endK ti0 p Go.Proofs.Tryd.f46.results.toList k))) m tm H
theorem f46_L0_step (p : Pr β) (n : Nat)  (k : AV → Heap → Option β) (m0 : Nat) (t0 t1 t2 t3 t4 t5 t6 t7 t8 t9 t10 t11 t12 t13 t14 t15 t16 t17 t18 t19 t20 t21 : AV) (H : Heap) : f46_L0 p n  k (m0 + 1) [(0, t0), (1, t1), (2, t2), (3, t3), (4, t4), (5, t5), (6, t6), (7, t7), (8, t8), (9, t9), (10, t10), (11, t11), (12, t12), (13, t13), (14, t14), (15, t15), (16, t16), (17, t17), (18, t18), (19, t19), (20, t20), (21, t21)] H =
  p.len t0 fun t10 =>
  p.bin .lss t4 t10 fun t11 =>
  p.cond t11
  (p.iadr 1 t0 t4 fun t18 =>
  p.load false 1 t18 H fun t19 =>
  p.iadr 1 t3 t4 fun t20 =>
  p.store 1 t20 t19 H fun H =>
  p.bin .add t4 (.sc (.int .i64 1)) fun t13 =>
  f46_L0 p n  k m0 [(0, t0), (1, t1), (2, t2), (3, t3), (4, t13), (5, t5), (6, t6), (7, t7), (8, t4), (9, t0), (10, t10), (11, t11), (12, t4), (13, t13), (14, t3), (15, t4), (16, t0), (17, t4), (18, t18), (19, t19), (20, t20), (21, t21)] H)
  (k t3 H) := by kernel_rfl
theorem f46_l0_eq (p : Pr β) (n : Nat)  (k : AV → Heap → Option β)   (m0 : Nat) : ∀ (t0 t1 t2 t3 t4 t5 t6 t7 t8 t9 t10 t11 t12 t13 t14 t15 t16 t17 t18 t19 t20 t21 : AV) (H : Heap), f46_L0 p n  k m0 [(0, t0), (1, t1), (2, t2), (3, t3), (4, t4), (5, t5), (6, t6), (7, t7), (8, t8), (9, t9), (10, t10), (11, t11), (12, t12), (13, t13), (14, t14), (15, t15), (16, t16), (17, t17), (18, t18), (19, t19), (20, t20), (21, t21)] H = f46_l0 p n  k m0 t0 t3 t4 H := by
  induction m0 with
  | zero => intros; rfl
  | succ m0 ih =>
    intro t0 t1 t2 t3 t4 t5 t6 t7 t8 t9 t10 t11 t12 t13 t14 t15 t16 t17 t18 t19 t20 t21 H
    rw [f46_L0_step]
    simp only [ih]
    rfl
theorem f46_raw (p : Pr β) (n : Nat) (a0 : AV) (H : Heap) (k : AV → Heap → Option β) : evalBody ti0 p n ⟨c46, 22, Go.Proofs.Tryd.f46.results.toList, o46⟩ [a0] H k =
  p.len a0 fun t6 =>
  p.make 1 8 [(.sc (.int .i64 0))] t6 t6 H fun t7 H =>
  f46_L0 p n  k n [(0, a0), (1, (.sc undef)), (2, .nl), (3, t7), (4, (.sc (.int .i64 0))), (5, a0), (6, t6), (7, t7), (8, (.sc undef)), (9, (.sc undef)), (10, (.sc undef)), (11, (.sc undef)), (12, (.sc undef)), (13, (.sc undef)), (14, (.sc undef)), (15, (.sc undef)), (16, (.sc undef)), (17, (.sc undef)), (18, (.sc undef)), (19, (.sc undef)), (20, (.sc undef)), (21, (.sc undef))] H := by kernel_rfl
theorem f46_body (p : Pr β) (n : Nat) (a0 : AV) (H : Heap) (k : AV → Heap → Option β) : evalBody ti0 p n ⟨c46, 22, Go.Proofs.Tryd.f46.results.toList, o46⟩ [a0] H k = f46 p n a0 H k := by
  rw [f46_raw]
  simp only [f46_l0_eq]
  rfl

/-! 44 loop.example/g00480/laws.toPacket -/
noncomputable def f44 (p : Pr β) (n : Nat) (a0 : AV) (H : Heap) (k : AV → Heap → Option β) : Option β :=
  p.box a0 H fun t1 H =>
  p.new [(.sc (.int .i64 0)), (.sc (.bool false)), (.sc (.int .i64 0)), (.sc (.bool false)), (.sc (.int .i64 0)), (.sc (.string ⟨#[]⟩)), .nl, (.sc (.string ⟨#[]⟩)), (.sc (.int .i64 0)), (.sc (.bool false)), (.sc (.int .i64 0)), (.sc (.bool false)), (.sc (.string ⟨#[]⟩)), .nl, (.sc (.int .i64 0)), (.sc (.bool false)), (.sc (.bool false)), (.sc (.string ⟨#[]⟩)), (.sc (.bool false)), .nl, (.sc (.int .i64 0)), (.sc (.bool false)), .nl, .nl, .nl] H fun t2 H =>
  p.new [(.sc (.int .i64 0)), (.sc (.bool false)), (.sc (.int .i64 0)), (.sc (.bool false)), (.sc (.int .i64 0)), (.sc (.string ⟨#[]⟩)), .nl, (.sc (.string ⟨#[]⟩)), (.sc (.int .i64 0)), (.sc (.bool false)), (.sc (.int .i64 0)), (.sc (.bool false)), (.sc (.string ⟨#[]⟩)), .nl, (.sc (.int .i64 0)), (.sc (.bool false)), (.sc (.bool false)), (.sc (.string ⟨#[]⟩)), (.sc (.bool false)), .nl, (.sc (.int .i64 0)), (.sc (.bool false)), .nl, .nl, .nl] H fun t3 H =>
  p.fadr 0 t1 fun t4 =>
  p.load false 1 t4 H fun t5 =>
  p.fadr 0 t3 fun t6 =>
  p.store 1 t6 t5 H fun H =>
  p.fadr 1 t1 fun t7 =>
  p.load false 1 t7 H fun t8 =>
  p.fadr 1 t3 fun t9 =>
  p.store 1 t9 t8 H fun H =>
  p.fadr 2 t1 fun t10 =>
  p.load false 1 t10 H fun t11 =>
  p.fadr 2 t3 fun t12 =>
  p.store 1 t12 t11 H fun H =>
  p.fadr 3 t1 fun t13 =>
  p.load false 1 t13 H fun t14 =>
  p.fadr 3 t3 fun t15 =>
  p.store 1 t15 t14 H fun H =>
  p.fadr 4 t1 fun t16 =>
  p.load false 1 t16 H fun t17 =>
  p.fadr 4 t3 fun t18 =>
  p.store 1 t18 t17 H fun H =>
  p.fadr 5 t1 fun t19 =>
  p.load false 1 t19 H fun t20 =>
  p.fadr 5 t3 fun t21 =>
  p.store 1 t21 t20 H fun H =>
  p.fadr 6 t1 fun t22 =>
  p.load false 1 t22 H fun t23 =>
  p.call 22 (.fn 35 [] []) [t23] H fun t24 H =>
  p.fadr 6 t3 fun t25 =>
  p.store 1 t25 t24 H fun H =>
  p.fadr 7 t1 fun t26 =>
  p.load false 1 t26 H fun t27 =>
  p.fadr 7 t3 fun t28 =>
  p.store 1 t28 t27 H fun H =>
  p.fadr 8 t1 fun t29 =>
  p.load false 1 t29 H fun t30 =>
  p.fadr 8 t3 fun t31 =>
  p.store 1 t31 t30 H fun H =>
  p.fadr 9 t1 fun t32 =>
  p.load false 1 t32 H fun t33 =>
  p.fadr 9 t3 fun t34 =>
  p.store 1 t34 t33 H fun H =>
  p.fadr 10 t1 fun t35 =>
  p.load false 1 t35 H fun t36 =>
  p.fadr 10 t3 fun t37 =>
  p.store 1 t37 t36 H fun H =>
  p.fadr 11 t1 fun t38 =>
  p.load false 1 t38 H fun t39 =>
  p.fadr 11 t3 fun t40 =>
  p.store 1 t40 t39 H fun H =>
  p.fadr 12 t1 fun t41 =>
  p.load false 1 t41 H fun t42 =>
  p.fadr 12 t3 fun t43 =>
  p.store 1 t43 t42 H fun H =>
  p.fadr 13 t1 fun t44 =>
  p.load false 1 t44 H fun t45 =>
  p.call 22 (.fn 35 [] []) [t45] H fun t46 H =>
  p.fadr 13 t3 fun t47 =>
  p.store 1 t47 t46 H fun H =>
  p.fadr 14 t1 fun t48 =>
  p.load false 1 t48 H fun t49 =>
  p.fadr 14 t3 fun t50 =>
  p.store 1 t50 t49 H fun H =>
  p.fadr 15 t1 fun t51 =>
  p.load false 1 t51 H fun t52 =>
  p.fadr 15 t3 fun t53 =>
  p.store 1 t53 t52 H fun H =>
  p.fadr 16 t1 fun t54 =>
  p.load false 1 t54 H fun t55 =>
  p.fadr 16 t3 fun t56 =>
  p.store 1 t56 t55 H fun H =>
  p.fadr 17 t1 fun t57 =>
  p.load false 1 t57 H fun t58 =>
  p.fadr 17 t3 fun t59 =>
  p.store 1 t59 t58 H fun H =>
  p.fadr 18 t1 fun t60 =>
  p.load false 1 t60 H fun t61 =>
  p.fadr 18 t3 fun t62 =>
  p.store 1 t62 t61 H fun H =>
  p.fadr 19 t1 fun t63 =>
  p.load false 1 t63 H fun t64 =>
  p.call 22 (.fn 35 [] []) [t64] H fun t65 H =>
  p.fadr 19 t3 fun t66 =>
  p.store 1 t66 t65 H fun H =>
  p.fadr 20 t1 fun t67 =>
  p.load false 1 t67 H fun t68 =>
  p.fadr 20 t3 fun t69 =>
  p.store 1 t69 t68 H fun H =>
  p.fadr 21 t1 fun t70 =>
  p.load false 1 t70 H fun t71 =>
  p.fadr 21 t3 fun t72 =>
  p.store 1 t72 t71 H fun H =>
  p.fadr 22 t1 fun t73 =>
  p.load false 1 t73 H fun t74 =>
  p.call 48 (.fn 78 [] []) [t74] H fun t75 H =>
  p.fadr 22 t3 fun t76 =>
  p.store 1 t76 t75 H fun H =>
  p.fadr 23 t1 fun t77 =>
  p.load false 1 t77 H fun t78 =>
  p.call 39 (.fn 79 [] []) [t78] H fun t79 H =>
  p.fadr 23 t3 fun t80 =>
  p.store 1 t80 t79 H fun H =>
  p.fadr 24 t1 fun t81 =>
  p.load false 1 t81 H fun t82 =>
  p.call 40 (.fn 46 [] []) [t82] H fun t83 H =>
  p.fadr 24 t3 fun t84 =>
  p.store 1 t84 t83 H fun H =>
  p.load true 25 t3 H fun t85 =>
  p.store 25 t2 t85 H fun H =>
  p.load true 25 t2 H fun r0 =>
  k r0 H
theorem f44_body (p : Pr β) (n : Nat) (a0 : AV) (H : Heap) (k : AV → Heap → Option β) : evalBody ti0 p n ⟨c44, 86, Go.Proofs.Tryd.f44.results.toList, o44⟩ [a0] H k = f44 p n a0 H k := by kernel_rfl

/-! 80 loop.example/g00480/laws.toSub -/
noncomputable def f80 (p : Pr β) (n : Nat) (a0 : AV) (H : Heap) (k : AV → Heap → Option β) : Option β :=
  p.box a0 H fun t1 H =>
  p.new [(.sc (.string ⟨#[]⟩)), (.sc (.int .i64 0)), (.sc (.int .i64 0))] H fun t2 H =>
  p.new [(.sc (.string ⟨#[]⟩)), (.sc (.int .i64 0)), (.sc (.int .i64 0))] H fun t3 H =>
  p.fadr 0 t1 fun t4 =>
  p.load false 1 t4 H fun t5 =>
  p.fadr 0 t3 fun t6 =>
  p.store 1 t6 t5 H fun H =>
  p.fadr 1 t1 fun t7 =>
  p.load false 1 t7 H fun t8 =>
  p.fadr 1 t3 fun t9 =>
  p.store 1 t9 t8 H fun H =>
  p.fadr 2 t1 fun t10 =>
  p.load false 1 t10 H fun t11 =>
  p.fadr 2 t3 fun t12 =>
  p.store 1 t12 t11 H fun H =>
  p.load true 3 t3 H fun t13 =>
  p.store 3 t2 t13 H fun H =>
  p.load true 3 t2 H fun r0 =>
  k r0 H
theorem f80_body (p : Pr β) (n : Nat) (a0 : AV) (H : Heap) (k : AV → Heap → Option β) : evalBody ti0 p n ⟨c80, 14, Go.Proofs.Tryd.f80.results.toList, o80⟩ [a0] H k = f80 p n a0 H k := by kernel_rfl

/-! 45 loop.example/g00480/laws.toSubS -/
noncomputable def f45_l0 (p : Pr β) (n : Nat)  (k : AV → Heap → Option β) : Nat → AV → AV → AV → Heap → Option β
  | 0, _, _, _, _ => none
  | m + 1, t0, t3, t4, H => p.len t0 fun t10 =>
      p.bin .lss t4 t10 fun t11 =>
      p.cond t11
      (p.iadr 3 t0 t4 fun t18 =>
      p.load true 3 t18 H fun t19 =>
      p.call 87 (.fn 80 [] []) [t19] H fun t20 H =>
      p.iadr 3 t3 t4 fun t21 =>
      p.store 3 t21 t20 H fun H =>
      p.bin .add t4 (.sc (.int .i64 1)) fun t13 =>
      f45_l0 p n  k m t0 t3 t13 H)
      (k t3 H)
noncomputable def f45 (p : Pr β) (n : Nat) (a0 : AV) (H : Heap) (k : AV → Heap → Option β) : Option β :=
  p.len a0 fun t6 =>
  p.make 3 32 [(.sc (.string ⟨#[]⟩)), (.sc (.int .i64 0)), (.sc (.int .i64 0))] t6 t6 H fun t7 H =>
  f45_l0 p n  k n a0 t7 (.sc (.int .i64 0)) H
noncomputable def f45_L0 (p : Pr β) (n : Nat)  (k : AV → Heap → Option β) (m : Nat) (tm : Tm) (H : Heap) : Option β :=
  iterC 23 (fun tm H k => evalCode ti0 p o45 23 n (cd c45 [1, 1, 0, 1, 0, 0]) tm H k) (blkK 0 (seqK (fun tm H => evalCode ti0 p o45 23 n (cd c45 [1, 1, 1]) tm H (endK ti0 p Go.Proofs.Tryd.f45.results.toList k)) (endK ti0 p Go.Proofs.Tryd.f45.results.toList k))) m tm H
theorem f45_L0_step (p : Pr β) (n : Nat)  (k : AV → Heap → Option β) (m0 : Nat) (t0 t1 t2 t3 t4 t5 t6 t7 t8 t9 t10 t11 t12 t13 t14 t15 t16 t17 t18 t19 t20 t21 t22 : AV) (H : Heap) : f45_L0 p n  k (m0 + 1) [(0, t0), (1, t1), (2, t2), (3, t3), (4, t4), (5, t5), (6, t6), (7, t7), (8, t8), (9, t9), (10, t10), (11, t11), (12, t12), (13, t13), (14, t14), (15, t15), (16, t16), (17, t17), (18, t18), (19, t19), (20, t20), (21, t21), (22, t22)] H =
  p.len t0 fun t10 =>
  p.bin .lss t4 t10 fun t11 =>
  p.cond t11
  (p.iadr 3 t0 t4 fun t18 =>
  p.load true 3 t18 H fun t19 =>
  p.call 87 (.fn 80 [] []) [t19] H fun t20 H =>
  p.iadr 3 t3 t4 fun t21 =>
  p.store 3 t21 t20 H fun H =>
  p.bin .add t4 (.sc (.int .i64 1)) fun t13 =>
  f45_L0 p n  k m0 [(0, t0), (1, t1), (2, t2), (3, t3), (4, t13), (5, t5), (6, t6), (7, t7), (8, t4), (9, t0), (10, t10), (11, t11), (12, t4), (13, t13), (14, t3), (15, t4), (16, t0), (17, t4), (18, t18), (19, t19), (20, t20), (21, t21), (22, t22)] H)
  (k t3 H) := by kernel_rfl
theorem f45_l0_eq (p : Pr β) (n : Nat)  (k : AV → Heap → Option β)   (m0 : Nat) : ∀ (t0 t1 t2 t3 t4 t5 t6 t7 t8 t9 t10 t11 t12 t13 t14 t15 t16 t17 t18 t19 t20 t21 t22 : AV) (H : Heap), f45_L0 p n  k m0 [(0, t0), (1, t1), (2, t2), (3, t3), (4, t4), (5, t5), (6, t6), (7, t7), (8, t8), (9, t9), (10, t10), (11, t11), (12, t12), (13, t13), (14, t14), (15, t15), (16, t16), (17, t17), (18, t18), (19, t19), (20, t20), (21, t21), (22, t22)] H = f45_l0 p n  k m0 t0 t3 t4 H := by
  induction m0 with
  | zero => intros; rfl
  | succ m0 ih =>
    intro t0 t1 t2 t3 t4 t5 t6 t7 t8 t9 t10 t11 t12 t13 t14 t15 t16 t17 t18 t19 t20 t21 t22 H
    rw [f45_L0_step]
    simp only [ih]
    rfl
theorem f45_raw (p : Pr β) (n : Nat) (a0 : AV) (H : Heap) (k : AV → Heap → Option β) : evalBody ti0 p n ⟨c45, 23, Go.Proofs.Tryd.f45.results.toList, o45⟩ [a0] H k =
  p.len a0 fun t6 =>
  p.make 3 32 [(.sc (.string ⟨#[]⟩)), (.sc (.int .i64 0)), (.sc (.int .i64 0))] t6 t6 H fun t7 H =>
  f45_L0 p n  k n [(0, a0), (1, (.sc undef)), (2, .nl), (3, t7), (4, (.sc (.int .i64 0))), (5, a0), (6, t6), (7, t7), (8, (.sc undef)), (9, (.sc undef)), (10, (.sc undef)), (11, (.sc undef)), (12, (.sc undef)), (13, (.sc undef)), (14, (.sc undef)), (15, (.sc undef)), (16, (.sc undef)), (17, (.sc undef)), (18, (.sc undef)), (19, (.sc undef)), (20, (.sc undef)), (21, (.sc undef)), (22, (.sc undef))] H := by kernel_rfl
theorem f45_body (p : Pr β) (n : Nat) (a0 : AV) (H : Heap) (k : AV → Heap → Option β) : evalBody ti0 p n ⟨c45, 23, Go.Proofs.Tryd.f45.results.toList, o45⟩ [a0] H k = f45 p n a0 H k := by
  rw [f45_raw]
  simp only [f45_l0_eq]
  rfl

/-! 9 loop.example/g00480/laws.toMsg -/
noncomputable def f9 (p : Pr β) (n : Nat) (a0 : AV) (H : Heap) (k : AV → Heap → Option β) : Option β :=
  p.box a0 H fun t1 H =>
  p.new [(.sc (.string ⟨#[]⟩)), .nl, (.sc (.int .i64 0)), (.sc (.bool false))] H fun t2 H =>
  p.new [(.sc (.string ⟨#[]⟩)), .nl, (.sc (.int .i64 0)), (.sc (.bool false))] H fun t3 H =>
  p.fadr 0 t1 fun t4 =>
  p.load false 1 t4 H fun t5 =>
  p.fadr 0 t3 fun t6 =>
  p.store 1 t6 t5 H fun H =>
  p.fadr 1 t1 fun t7 =>
  p.load false 1 t7 H fun t8 =>
  p.call 22 (.fn 35 [] []) [t8] H fun t9 H =>
  p.fadr 1 t3 fun t10 =>
  p.store 1 t10 t9 H fun H =>
  p.fadr 2 t1 fun t11 =>
  p.load false 1 t11 H fun t12 =>
  p.fadr 2 t3 fun t13 =>
  p.store 1 t13 t12 H fun H =>
  p.fadr 3 t1 fun t14 =>
  p.load false 1 t14 H fun t15 =>
  p.fadr 3 t3 fun t16 =>
  p.store 1 t16 t15 H fun H =>
  p.load true 4 t3 H fun t17 =>
  p.store 4 t2 t17 H fun H =>
  p.load true 4 t2 H fun r0 =>
  k r0 H
theorem f9_body (p : Pr β) (n : Nat) (a0 : AV) (H : Heap) (k : AV → Heap → Option β) : evalBody ti0 p n ⟨c9, 18, Go.Proofs.Tryd.f9.results.toList, o9⟩ [a0] H k = f9 p n a0 H k := by kernel_rfl

/-! 14 loop.example/g00480/laws.toMsgS -/
noncomputable def f14_l0 (p : Pr β) (n : Nat)  (k : AV → Heap → Option β) : Nat → AV → AV → AV → Heap → Option β
  | 0, _, _, _, _ => none
  | m + 1, t0, t3, t4, H => p.len t0 fun t10 =>
      p.bin .lss t4 t10 fun t11 =>
      p.cond t11
      (p.iadr 4 t0 t4 fun t18 =>
      p.load true 4 t18 H fun t19 =>
      p.call 27 (.fn 9 [] []) [t19] H fun t20 H =>
      p.iadr 4 t3 t4 fun t21 =>
      p.store 4 t21 t20 H fun H =>
      p.bin .add t4 (.sc (.int .i64 1)) fun t13 =>
      f14_l0 p n  k m t0 t3 t13 H)
      (k t3 H)
noncomputable def f14 (p : Pr β) (n : Nat) (a0 : AV) (H : Heap) (k : AV → Heap → Option β) : Option β :=
  p.len a0 fun t6 =>
  p.make 4 56 [(.sc (.string ⟨#[]⟩)), .nl, (.sc (.int .i64 0)), (.sc (.bool false))] t6 t6 H fun t7 H =>
  f14_l0 p n  k n a0 t7 (.sc (.int .i64 0)) H
noncomputable def f14_L0 (p : Pr β) (n : Nat)  (k : AV → Heap → Option β) (m : Nat) (tm : Tm) (H : Heap) : Option β :=
  iterC 23 (fun tm H k => evalCode ti0 p o14 23 n (cd c14 [1, 1, 0, 1, 0, 0]) tm H k) (blkK 0 (seqK (fun tm H => evalCode ti0 p o14 23 n (cd c14 [1, 1, 1]) tm H (endK ti0 p Go.Proofs.Tryd.f14.results.toList k)) (endK ti0 p Go.Proofs.Tryd.f14.results.toList k))) m tm H
theorem f14_L0_step (p : Pr β) (n : Nat)  (k : AV → Heap → Option β) (m0 : Nat) (t0 t1 t2 t3 t4 t5 t6 t7 t8 t9 t10 t11 t12 t13 t14 t15 t16 t17 t18 t19 t20 t21 t22 : AV) (H : Heap) : f14_L0 p n  k (m0 + 1) [(0, t0), (1, t1), (2, t2), (3, t3), (4, t4), (5, t5), (6, t6), (7, t7), (8, t8), (9, t9), (10, t10), (11, t11), (12, t12), (13, t13), (14, t14), (15, t15), (16, t16), (17, t17), (18, t18), (19, t19), (20, t20), (21, t21), (22, t22)] H =
  p.len t0 fun t10 =>
  p.bin .lss t4 t10 fun t11 =>
  p.cond t11
  (p.iadr 4 t0 t4 fun t18 =>
  p.load true 4 t18 H fun t19 =>
  p.call 27 (.fn 9 [] []) [t19] H fun t20 H =>
  p.iadr 4 t3 t4 fun t21 =>
  p.store 4 t21 t20 H fun H =>
  p.bin .add t4 (.sc (.int .i64 1)) fun t13 =>
  f14_L0 p n  k m0 [(0, t0), (1, t1), (2, t2), (3, t3), (4, t13), (5, t5), (6, t6), (7, t7), (8, t4), (9, t0), (10, t10), (11, t11), (12, t4), (13, t13), (14, t3), (15, t4), (16, t0), (17, t4), (18, t18), (19, t19), (20, t20), (21, t21), (22, t22)] H)
  (k t3 H) := by kernel_rfl
theorem f14_l0_eq (p : Pr β) (n : Nat)  (k : AV → Heap → Option β)   (m0 : Nat) : ∀ (t0 t1 t2 t3 t4 t5 t6 t7 t8 t9 t10 t11 t12 t13 t14 t15 t16 t17 t18 t19 t20 t21 t22 : AV) (H : Heap), f14_L0 p n  k m0 [(0, t0), (1, t1), (2, t2), (3, t3), (4, t4), (5, t5), (6, t6), (7, t7), (8, t8), (9, t9), (10, t10), (11, t11), (12, t12), (13, t13), (14, t14), (15, t15), (16, t16), (17, t17), (18, t18), (19, t19), (20, t20), (21, t21), (22, t22)] H = f14_l0 p n  k m0 t0 t3 t4 H := by
  induction m0 with
  | zero => intros; rfl
  | succ m0 ih =>
    intro t0 t1 t2 t3 t4 t5 t6 t7 t8 t9 t10 t11 t12 t13 t14 t15 t16 t17 t18 t19 t20 t21 t22 H
    rw [f14_L0_step]
    simp only [ih]
    rfl
theorem f14_raw (p : Pr β) (n : Nat) (a0 : AV) (H : Heap) (k : AV → Heap → Option β) : evalBody ti0 p n ⟨c14, 23, Go.Proofs.Tryd.f14.results.toList, o14⟩ [a0] H k =
  p.len a0 fun t6 =>
  p.make 4 56 [(.sc (.string ⟨#[]⟩)), .nl, (.sc (.int .i64 0)), (.sc (.bool false))] t6 t6 H fun t7 H =>
  f14_L0 p n  k n [(0, a0), (1, (.sc undef)), (2, .nl), (3, t7), (4, (.sc (.int .i64 0))), (5, a0), (6, t6), (7, t7), (8, (.sc undef)), (9, (.sc undef)), (10, (.sc undef)), (11, (.sc undef)), (12, (.sc undef)), (13, (.sc undef)), (14, (.sc undef)), (15, (.sc undef)), (16, (.sc undef)), (17, (.sc undef)), (18, (.sc undef)), (19, (.sc undef)), (20, (.sc undef)), (21, (.sc undef)), (22, (.sc undef))] H := by kernel_rfl
theorem f14_body (p : Pr β) (n : Nat) (a0 : AV) (H : Heap) (k : AV → Heap → Option β) : evalBody ti0 p n ⟨c14, 23, Go.Proofs.Tryd.f14.results.toList, o14⟩ [a0] H k = f14 p n a0 H k := by
  rw [f14_raw]
  simp only [f14_l0_eq]
  rfl

/-! 19 loop.example/g00480/laws.toDeed -/
noncomputable def f19 (p : Pr β) (n : Nat) (a0 : AV) (H : Heap) (k : AV → Heap → Option β) : Option β :=
  p.box a0 H fun t1 H =>
  p.new [(.sc (.int .i64 0)), (.sc (.int .i64 0)), (.sc (.int .i64 0)), (.sc (.string ⟨#[]⟩)), (.sc (.int .i64 0)), (.sc (.bool false)), (.sc (.int .i64 0)), (.sc (.bool false)), (.sc (.int .i64 0)), (.sc (.string ⟨#[]⟩)), .nl, (.sc (.string ⟨#[]⟩)), (.sc (.int .i64 0)), (.sc (.bool false)), (.sc (.int .i64 0)), (.sc (.bool false)), (.sc (.string ⟨#[]⟩)), .nl, (.sc (.int .i64 0)), (.sc (.bool false)), (.sc (.bool false)), (.sc (.string ⟨#[]⟩)), (.sc (.bool false)), .nl, (.sc (.int .i64 0)), (.sc (.bool false)), .nl, .nl, .nl, (.sc (.int .i64 0)), (.sc (.int .i64 0)), (.sc (.int .i64 0)), (.sc (.bool false)), (.sc (.int .i64 0)), (.sc (.int .i64 0)), (.sc (.bool false)), (.sc (.bool false)), .nl, .nl, .nl] H fun t2 H =>
  p.new [(.sc (.int .i64 0)), (.sc (.int .i64 0)), (.sc (.int .i64 0)), (.sc (.string ⟨#[]⟩)), (.sc (.int .i64 0)), (.sc (.bool false)), (.sc (.int .i64 0)), (.sc (.bool false)), (.sc (.int .i64 0)), (.sc (.string ⟨#[]⟩)), .nl, (.sc (.string ⟨#[]⟩)), (.sc (.int .i64 0)), (.sc (.bool false)), (.sc (.int .i64 0)), (.sc (.bool false)), (.sc (.string ⟨#[]⟩)), .nl, (.sc (.int .i64 0)), (.sc (.bool false)), (.sc (.bool false)), (.sc (.string ⟨#[]⟩)), (.sc (.bool false)), .nl, (.sc (.int .i64 0)), (.sc (.bool false)), .nl, .nl, .nl, (.sc (.int .i64 0)), (.sc (.int .i64 0)), (.sc (.int .i64 0)), (.sc (.bool false)), (.sc (.int .i64 0)), (.sc (.int .i64 0)), (.sc (.bool false)), (.sc (.bool false)), .nl, .nl, .nl] H fun t3 H =>
  p.fadr 0 t1 fun t4 =>
  p.load false 1 t4 H fun t5 =>
  p.fadr 0 t3 fun t6 =>
  p.store 1 t6 t5 H fun H =>
  p.fadr 1 t1 fun t7 =>
  p.load false 1 t7 H fun t8 =>
  p.fadr 1 t3 fun t9 =>
  p.store 1 t9 t8 H fun H =>
  p.fadr 2 t1 fun t10 =>
  p.load false 1 t10 H fun t11 =>
  p.fadr 2 t3 fun t12 =>
  p.store 1 t12 t11 H fun H =>
  p.fadr 3 t1 fun t13 =>
  p.load false 1 t13 H fun t14 =>
  p.fadr 3 t3 fun t15 =>
  p.store 1 t15 t14 H fun H =>
  p.fadr 4 t1 fun t16 =>
  p.load true 25 t16 H fun t17 =>
  p.call 50 (.fn 44 [] []) [t17] H fun t18 H =>
  p.fadr 4 t3 fun t19 =>
  p.store 25 t19 t18 H fun H =>
  p.fadr 29 t1 fun t20 =>
  p.load false 1 t20 H fun t21 =>
  p.fadr 29 t3 fun t22 =>
  p.store 1 t22 t21 H fun H =>
  p.fadr 30 t1 fun t23 =>
  p.load false 1 t23 H fun t24 =>
  p.fadr 30 t3 fun t25 =>
  p.store 1 t25 t24 H fun H =>
  p.fadr 31 t1 fun t26 =>
  p.load false 1 t26 H fun t27 =>
  p.fadr 31 t3 fun t28 =>
  p.store 1 t28 t27 H fun H =>
  p.fadr 32 t1 fun t29 =>
  p.load false 1 t29 H fun t30 =>
  p.fadr 32 t3 fun t31 =>
  p.store 1 t31 t30 H fun H =>
  p.fadr 33 t1 fun t32 =>
  p.load false 1 t32 H fun t33 =>
  p.fadr 33 t3 fun t34 =>
  p.store 1 t34 t33 H fun H =>
  p.fadr 34 t1 fun t35 =>
  p.load false 1 t35 H fun t36 =>
  p.fadr 34 t3 fun t37 =>
  p.store 1 t37 t36 H fun H =>
  p.fadr 35 t1 fun t38 =>
  p.load false 1 t38 H fun t39 =>
  p.fadr 35 t3 fun t40 =>
  p.store 1 t40 t39 H fun H =>
  p.fadr 36 t1 fun t41 =>
  p.load false 1 t41 H fun t42 =>
  p.fadr 36 t3 fun t43 =>
  p.store 1 t43 t42 H fun H =>
  p.fadr 37 t1 fun t44 =>
  p.load false 1 t44 H fun t45 =>
  p.call 51 (.fn 45 [] []) [t45] H fun t46 H =>
  p.fadr 37 t3 fun t47 =>
  p.store 1 t47 t46 H fun H =>
  p.fadr 38 t1 fun t48 =>
  p.load false 1 t48 H fun t49 =>
  p.call 40 (.fn 46 [] []) [t49] H fun t50 H =>
  p.fadr 38 t3 fun t51 =>
  p.store 1 t51 t50 H fun H =>
  p.fadr 39 t1 fun t52 =>
  p.load false 1 t52 H fun t53 =>
  p.call 34 (.fn 14 [] []) [t53] H fun t54 H =>
  p.fadr 39 t3 fun t55 =>
  p.store 1 t55 t54 H fun H =>
  p.load true 40 t3 H fun t56 =>
  p.store 40 t2 t56 H fun H =>
  p.load true 40 t2 H fun r0 =>
  k r0 H
theorem f19_body (p : Pr β) (n : Nat) (a0 : AV) (H : Heap) (k : AV → Heap → Option β) : evalBody ti0 p n ⟨c19, 57, Go.Proofs.Tryd.f19.results.toList, o19⟩ [a0] H k = f19 p n a0 H k := by kernel_rfl

/-! 34 loop.example/g00480/spec.l1In -/
noncomputable def f34 (p : Pr β) (n : Nat) (a0 a1 a2 : AV) (H : Heap) (k : AV → Heap → Option β) : Option β :=
  p.bin .geq a0 a1 fun t9 =>
  p.guard t9 true H (fun k' => k' a0 H) fun t11 H =>
  p.guard t9 true H (fun k' => k' a2 H) fun t12 H =>
  p.guard t9 true H (fun k' => p.bin .leq t11 t12 fun t' => k' t' H) fun t13 H =>
  p.pick t9 t13 (.sc (.bool false)) fun t14 =>
  k t14 H
theorem f34_body (p : Pr β) (n : Nat) (a0 a1 a2 : AV) (H : Heap) (k : AV → Heap → Option β) : evalBody ti0 p n ⟨c34, 15, Go.Proofs.Tryd.f34.results.toList, o34⟩ [a0, a1, a2] H k = f34 p n a0 a1 a2 H k := by kernel_rfl

/-! 106 loop.example/g00480/spec.RuneAt -/
noncomputable def f106_l0 (p : Pr β) (n : Nat)  (k : AV → Heap → Option β) : Nat → AV → AV → AV → AV → AV → AV → Heap → Option β
  | 0, _, _, _, _, _, _, _ => none
  | m + 1, t0, t1, t8, t9, t10, t11, H => p.bin .leq t11 t8 fun t67 =>
      p.cond t67
      (p.bin .add t1 t11 fun t73 =>
      p.iadr 1 t0 t73 fun t74 =>
      p.load false 1 t74 H fun t75 =>
      p.cvI .i64 t75 fun t76 =>
      p.bin .lss t76 (.sc (.int .i64 128)) fun t78 =>
      p.guard t78 false H (fun k' => k' t76 H) fun t80 H =>
      p.guard t78 false H (fun k' => p.bin .gtr t80 (.sc (.int .i64 191)) fun t' => k' t' H) fun t81 H =>
      p.pick t78 (.sc (.bool true)) t81 fun t82 =>
      p.cond t82
      (k (packA [(.sc (.int .i64 0)), (.sc (.int .i64 0)), (.sc (.bool false))]) H)
      (p.bin .mul t10 (.sc (.int .i64 64)) fun t84 =>
      p.bin .add t84 t76 fun t86 =>
      p.bin .sub t86 (.sc (.int .i64 128)) fun t87 =>
      p.bin .add t11 (.sc (.int .i64 1)) fun t69 =>
      f106_l0 p n  k m t0 t1 t8 t9 t87 t69 H))
      (p.bin .lss t10 t9 fun t90 =>
      p.guard t90 false H (fun k' => k' t10 H) fun t92 H =>
      p.guard t90 false H (fun k' => p.bin .gtr t92 (.sc (.int .i64 1114111)) fun t' => k' t' H) fun t93 H =>
      p.pick t90 (.sc (.bool true)) t93 fun t94 =>
      p.guard t94 false H (fun k' => k' t10 H) fun t96 H =>
      p.guard t94 false H (fun k' => p.call 4 (.fn 34 [] []) [t96, (.sc (.int .i64 55296)), (.sc (.int .i64 57343))] H fun t' H => k' t' H) fun t97 H =>
      p.pick t94 (.sc (.bool true)) t97 fun t98 =>
      p.cond t98
      (k (packA [(.sc (.int .i64 0)), (.sc (.int .i64 0)), (.sc (.bool false))]) H)
      (p.bin .add t1 (.sc (.int .i64 1)) fun t101 =>
      p.bin .add t101 t8 fun t103 =>
      k (packA [t10, t103, (.sc (.bool true))]) H))
noncomputable def f106 (p : Pr β) (n : Nat) (a0 a1 : AV) (H : Heap) (k : AV → Heap → Option β) : Option β :=
  p.bin .lss a1 (.sc (.int .i64 0)) fun t14 =>
  p.guard t14 false H (fun k' => k' a1 H) fun t16 H =>
  p.guard t14 false H (fun k' => k' a0 H) fun t17 H =>
  p.guard t14 false H (fun k' => p.len t17 fun t' => k' t' H) fun t18 H =>
  p.guard t14 false H (fun k' => p.bin .geq t16 t18 fun t' => k' t' H) fun t19 H =>
  p.pick t14 (.sc (.bool true)) t19 fun t20 =>
  p.cond t20
  (k (packA [(.sc (.int .i64 0)), (.sc (.int .i64 0)), (.sc (.bool false))]) H)
  (p.iadr 1 a0 a1 fun t23 =>
  p.load false 1 t23 H fun t24 =>
  p.cvI .i64 t24 fun t25 =>
  p.bin .lss t25 (.sc (.int .i64 128)) fun t27 =>
  p.cond t27
  (p.bin .add a1 (.sc (.int .i64 1)) fun t30 =>
  k (packA [t25, t30, (.sc (.bool true))]) H)
  (p.bin .geq t25 (.sc (.int .i64 192)) fun t33 =>
  p.guard t33 true H (fun k' => k' t25 H) fun t35 H =>
  p.guard t33 true H (fun k' => p.bin .lss t35 (.sc (.int .i64 224)) fun t' => k' t' H) fun t36 H =>
  p.pick t33 t36 (.sc (.bool false)) fun t37 =>
  p.cond t37
  (p.bin .and t25 (.sc (.int .i64 31)) fun t39 =>
  p.len a0 fun t60 =>
  p.bin .sub t60 (.sc (.int .i64 1)) fun t61 =>
  p.bin .sub t61 (.sc (.int .i64 1)) fun t63 =>
  p.bin .gtr a1 t63 fun t64 =>
  p.cond t64
  (k (packA [(.sc (.int .i64 0)), (.sc (.int .i64 0)), (.sc (.bool false))]) H)
  (f106_l0 p n  k n a0 a1 (.sc (.int .i64 1)) (.sc (.int .i64 128)) t39 (.sc (.int .i64 1)) H))
  (p.bin .geq t25 (.sc (.int .i64 224)) fun t42 =>
  p.guard t42 true H (fun k' => k' t25 H) fun t44 H =>
  p.guard t42 true H (fun k' => p.bin .lss t44 (.sc (.int .i64 240)) fun t' => k' t' H) fun t45 H =>
  p.pick t42 t45 (.sc (.bool false)) fun t46 =>
  p.cond t46
  (p.bin .and t25 (.sc (.int .i64 15)) fun t48 =>
  p.len a0 fun t60 =>
  p.bin .sub t60 (.sc (.int .i64 1)) fun t61 =>
  p.bin .sub t61 (.sc (.int .i64 2)) fun t63 =>
  p.bin .gtr a1 t63 fun t64 =>
  p.cond t64
  (k (packA [(.sc (.int .i64 0)), (.sc (.int .i64 0)), (.sc (.bool false))]) H)
  (f106_l0 p n  k n a0 a1 (.sc (.int .i64 2)) (.sc (.int .i64 2048)) t48 (.sc (.int .i64 1)) H))
  (p.bin .geq t25 (.sc (.int .i64 240)) fun t51 =>
  p.guard t51 true H (fun k' => k' t25 H) fun t53 H =>
  p.guard t51 true H (fun k' => p.bin .lss t53 (.sc (.int .i64 248)) fun t' => k' t' H) fun t54 H =>
  p.pick t51 t54 (.sc (.bool false)) fun t55 =>
  p.cond t55
  (p.bin .and t25 (.sc (.int .i64 7)) fun t57 =>
  p.len a0 fun t60 =>
  p.bin .sub t60 (.sc (.int .i64 1)) fun t61 =>
  p.bin .sub t61 (.sc (.int .i64 3)) fun t63 =>
  p.bin .gtr a1 t63 fun t64 =>
  p.cond t64
  (k (packA [(.sc (.int .i64 0)), (.sc (.int .i64 0)), (.sc (.bool false))]) H)
  (f106_l0 p n  k n a0 a1 (.sc (.int .i64 3)) (.sc (.int .i64 65536)) t57 (.sc (.int .i64 1)) H))
  (k (packA [(.sc (.int .i64 0)), (.sc (.int .i64 0)), (.sc (.bool false))]) H)))))
noncomputable def f106_L0 (p : Pr β) (n : Nat)  (k : AV → Heap → Option β) (m : Nat) (tm : Tm) (H : Heap) : Option β :=
  iterC 104 (fun tm H k => evalCode ti0 p o106 104 n (cd c106 [1, 1, 1, 1, 1, 1, 1, 1, 1, 0, 1, 0, 0]) tm H k) (blkK 1 (seqK (fun tm H => evalCode ti0 p o106 104 n (cd c106 [1, 1, 1, 1, 1, 1, 1, 1, 1, 1]) tm H (endK ti0 p Go.Proofs.Tryd.f106.results.toList k)) (endK ti0 p Go.Proofs.Tryd.f106.results.toList k))) m tm H
theorem f106_L0_step (p : Pr β) (n : Nat)  (k : AV → Heap → Option β) (m0 : Nat) (t0 t1 t2 t3 t4 t5 t6 t7 t8 t9 t10 t11 t12 t13 t14 t15 t16 t17 t18 t19 t20 t21 t22 t23 t24 t25 t26 t27 t28 t29 t30 t31 t32 t33 t34 t35 t36 t37 t38 t39 t40 t41 t42 t43 t44 t45 t46 t47 t48 t49 t50 t51 t52 t53 t54 t55 t56 t57 t58 t59 t60 t61 t62 t63 t64 t65 t66 t67 t68 t69 t70 t71 t72 t73 t74 t75 t76 t77 t78 t79 t80 t81 t82 t83 t84 t85 t86 t87 t88 t89 t90 t91 t92 t93 t94 t95 t96 t97 t98 t99 t100 t101 t102 t103 : AV) (H : Heap) : f106_L0 p n  k (m0 + 1) [(0, t0), (1, t1), (2, t2), (3, t3), (4, t4), (5, t5), (6, t6), (7, t7), (8, t8), (9, t9), (10, t10), (11, t11), (12, t12), (13, t13), (14, t14), (15, t15), (16, t16), (17, t17), (18, t18), (19, t19), (20, t20), (21, t21), (22, t22), (23, t23), (24, t24), (25, t25), (26, t26), (27, t27), (28, t28), (29, t29), (30, t30), (31, t31), (32, t32), (33, t33), (34, t34), (35, t35), (36, t36), (37, t37), (38, t38), (39, t39), (40, t40), (41, t41), (42, t42), (43, t43), (44, t44), (45, t45), (46, t46), (47, t47), (48, t48), (49, t49), (50, t50), (51, t51), (52, t52), (53, t53), (54, t54), (55, t55), (56, t56), (57, t57), (58, t58), (59, t59), (60, t60), (61, t61), (62, t62), (63, t63), (64, t64), (65, t65), (66, t66), (67, t67), (68, t68), (69, t69), (70, t70), (71, t71), (72, t72), (73, t73), (74, t74), (75, t75), (76, t76), (77, t77), (78, t78), (79, t79), (80, t80), (81, t81), (82, t82), (83, t83), (84, t84), (85, t85), (86, t86), (87, t87), (88, t88), (89, t89), (90, t90), (91, t91), (92, t92), (93, t93), (94, t94), (95, t95), (96, t96), (97, t97), (98, t98), (99, t99), (100, t100), (101, t101), (102, t102), (103, t103)] H =
  p.bin .leq t11 t8 fun t67 =>
  p.cond t67
  (p.bin .add t1 t11 fun t73 =>
  p.iadr 1 t0 t73 fun t74 =>
  p.load false 1 t74 H fun t75 =>
  p.cvI .i64 t75 fun t76 =>
  p.bin .lss t76 (.sc (.int .i64 128)) fun t78 =>
  p.guard t78 false H (fun k' => k' t76 H) fun t80 H =>
  p.guard t78 false H (fun k' => p.bin .gtr t80 (.sc (.int .i64 191)) fun t' => k' t' H) fun t81 H =>
  p.pick t78 (.sc (.bool true)) t81 fun t82 =>
  p.cond t82
  (k (packA [(.sc (.int .i64 0)), (.sc (.int .i64 0)), (.sc (.bool false))]) H)
  (p.bin .mul t10 (.sc (.int .i64 64)) fun t84 =>
  p.bin .add t84 t76 fun t86 =>
  p.bin .sub t86 (.sc (.int .i64 128)) fun t87 =>
  p.bin .add t11 (.sc (.int .i64 1)) fun t69 =>
  f106_L0 p n  k m0 [(0, t0), (1, t1), (2, t2), (3, t3), (4, t4), (5, t5), (6, t6), (7, t7), (8, t8), (9, t9), (10, t87), (11, t69), (12, t76), (13, t13), (14, t14), (15, t15), (16, t16), (17, t17), (18, t18), (19, t19), (20, t20), (21, t21), (22, t22), (23, t23), (24, t24), (25, t25), (26, t26), (27, t27), (28, t28), (29, t29), (30, t30), (31, t31), (32, t32), (33, t33), (34, t34), (35, t35), (36, t36), (37, t37), (38, t38), (39, t39), (40, t40), (41, t41), (42, t42), (43, t43), (44, t44), (45, t45), (46, t46), (47, t47), (48, t48), (49, t49), (50, t50), (51, t51), (52, t52), (53, t53), (54, t54), (55, t55), (56, t56), (57, t57), (58, t58), (59, t59), (60, t60), (61, t61), (62, t62), (63, t63), (64, t64), (65, t11), (66, t8), (67, t67), (68, t11), (69, t69), (70, t0), (71, t1), (72, t11), (73, t73), (74, t74), (75, t75), (76, t76), (77, t76), (78, t78), (79, t78), (80, t80), (81, t81), (82, t82), (83, t10), (84, t84), (85, t76), (86, t86), (87, t87), (88, t88), (89, t89), (90, t90), (91, t91), (92, t92), (93, t93), (94, t94), (95, t95), (96, t96), (97, t97), (98, t98), (99, t99), (100, t100), (101, t101), (102, t102), (103, t103)] H))
  (p.bin .lss t10 t9 fun t90 =>
  p.guard t90 false H (fun k' => k' t10 H) fun t92 H =>
  p.guard t90 false H (fun k' => p.bin .gtr t92 (.sc (.int .i64 1114111)) fun t' => k' t' H) fun t93 H =>
  p.pick t90 (.sc (.bool true)) t93 fun t94 =>
  p.guard t94 false H (fun k' => k' t10 H) fun t96 H =>
  p.guard t94 false H (fun k' => p.call 4 (.fn 34 [] []) [t96, (.sc (.int .i64 55296)), (.sc (.int .i64 57343))] H fun t' H => k' t' H) fun t97 H =>
  p.pick t94 (.sc (.bool true)) t97 fun t98 =>
  p.cond t98
  (k (packA [(.sc (.int .i64 0)), (.sc (.int .i64 0)), (.sc (.bool false))]) H)
  (p.bin .add t1 (.sc (.int .i64 1)) fun t101 =>
  p.bin .add t101 t8 fun t103 =>
  k (packA [t10, t103, (.sc (.bool true))]) H)) := by kernel_rfl
theorem f106_l0_eq (p : Pr β) (n : Nat)  (k : AV → Heap → Option β)   (m0 : Nat) : ∀ (t0 t1 t2 t3 t4 t5 t6 t7 t8 t9 t10 t11 t12 t13 t14 t15 t16 t17 t18 t19 t20 t21 t22 t23 t24 t25 t26 t27 t28 t29 t30 t31 t32 t33 t34 t35 t36 t37 t38 t39 t40 t41 t42 t43 t44 t45 t46 t47 t48 t49 t50 t51 t52 t53 t54 t55 t56 t57 t58 t59 t60 t61 t62 t63 t64 t65 t66 t67 t68 t69 t70 t71 t72 t73 t74 t75 t76 t77 t78 t79 t80 t81 t82 t83 t84 t85 t86 t87 t88 t89 t90 t91 t92 t93 t94 t95 t96 t97 t98 t99 t100 t101 t102 t103 : AV) (H : Heap), f106_L0 p n  k m0 [(0, t0), (1, t1), (2, t2), (3, t3), (4, t4), (5, t5), (6, t6), (7, t7), (8, t8), (9, t9), (10, t10), (11, t11), (12, t12), (13, t13), (14, t14), (15, t15), (16, t16), (17, t17), (18, t18), (19, t19), (20, t20), (21, t21), (22, t22), (23, t23), (24, t24), (25, t25), (26, t26), (27, t27), (28, t28), (29, t29), (30, t30), (31, t31), (32, t32), (33, t33), (34, t34), (35, t35), (36, t36), (37, t37), (38, t38), (39, t39), (40, t40), (41, t41), (42, t42), (43, t43), (44, t44), (45, t45), (46, t46), (47, t47), (48, t48), (49, t49), (50, t50), (51, t51), (52, t52), (53, t53), (54, t54), (55, t55), (56, t56), (57, t57), (58, t58), (59, t59), (60, t60), (61, t61), (62, t62), (63, t63), (64, t64), (65, t65), (66, t66), (67, t67), (68, t68), (69, t69), (70, t70), (71, t71), (72, t72), (73, t73), (74, t74), (75, t75), (76, t76), (77, t77), (78, t78), (79, t79), (80, t80), (81, t81), (82, t82), (83, t83), (84, t84), (85, t85), (86, t86), (87, t87), (88, t88), (89, t89), (90, t90), (91, t91), (92, t92), (93, t93), (94, t94), (95, t95), (96, t96), (97, t97), (98, t98), (99, t99), (100, t100), (101, t101), (102, t102), (103, t103)] H = f106_l0 p n  k m0 t0 t1 t8 t9 t10 t11 H := by
  induction m0 with
  | zero => intros; rfl
  | succ m0 ih =>
    intro t0 t1 t2 t3 t4 t5 t6 t7 t8 t9 t10 t11 t12 t13 t14 t15 t16 t17 t18 t19 t20 t21 t22 t23 t24 t25 t26 t27 t28 t29 t30 t31 t32 t33 t34 t35 t36 t37 t38 t39 t40 t41 t42 t43 t44 t45 t46 t47 t48 t49 t50 t51 t52 t53 t54 t55 t56 t57 t58 t59 t60 t61 t62 t63 t64 t65 t66 t67 t68 t69 t70 t71 t72 t73 t74 t75 t76 t77 t78 t79 t80 t81 t82 t83 t84 t85 t86 t87 t88 t89 t90 t91 t92 t93 t94 t95 t96 t97 t98 t99 t100 t101 t102 t103 H
    rw [f106_L0_step]
    simp only [ih]
    rfl
theorem f106_raw (p : Pr β) (n : Nat) (a0 a1 : AV) (H : Heap) (k : AV → Heap → Option β) : evalBody ti0 p n ⟨c106, 104, Go.Proofs.Tryd.f106.results.toList, o106⟩ [a0, a1] H k =
  p.bin .lss a1 (.sc (.int .i64 0)) fun t14 =>
  p.guard t14 false H (fun k' => k' a1 H) fun t16 H =>
  p.guard t14 false H (fun k' => k' a0 H) fun t17 H =>
  p.guard t14 false H (fun k' => p.len t17 fun t' => k' t' H) fun t18 H =>
  p.guard t14 false H (fun k' => p.bin .geq t16 t18 fun t' => k' t' H) fun t19 H =>
  p.pick t14 (.sc (.bool true)) t19 fun t20 =>
  p.cond t20
  (k (packA [(.sc (.int .i64 0)), (.sc (.int .i64 0)), (.sc (.bool false))]) H)
  (p.iadr 1 a0 a1 fun t23 =>
  p.load false 1 t23 H fun t24 =>
  p.cvI .i64 t24 fun t25 =>
  p.bin .lss t25 (.sc (.int .i64 128)) fun t27 =>
  p.cond t27
  (p.bin .add a1 (.sc (.int .i64 1)) fun t30 =>
  k (packA [t25, t30, (.sc (.bool true))]) H)
  (p.bin .geq t25 (.sc (.int .i64 192)) fun t33 =>
  p.guard t33 true H (fun k' => k' t25 H) fun t35 H =>
  p.guard t33 true H (fun k' => p.bin .lss t35 (.sc (.int .i64 224)) fun t' => k' t' H) fun t36 H =>
  p.pick t33 t36 (.sc (.bool false)) fun t37 =>
  p.cond t37
  (p.bin .and t25 (.sc (.int .i64 31)) fun t39 =>
  p.len a0 fun t60 =>
  p.bin .sub t60 (.sc (.int .i64 1)) fun t61 =>
  p.bin .sub t61 (.sc (.int .i64 1)) fun t63 =>
  p.bin .gtr a1 t63 fun t64 =>
  p.cond t64
  (k (packA [(.sc (.int .i64 0)), (.sc (.int .i64 0)), (.sc (.bool false))]) H)
  (f106_L0 p n  k n [(0, a0), (1, a1), (2, (.sc undef)), (3, (.sc undef)), (4, (.sc (.int .i64 0))), (5, (.sc (.int .i64 0))), (6, (.sc (.bool false))), (7, t25), (8, (.sc (.int .i64 1))), (9, (.sc (.int .i64 128))), (10, t39), (11, (.sc (.int .i64 1))), (12, (.sc undef)), (13, a1), (14, t14), (15, t14), (16, t16), (17, t17), (18, t18), (19, t19), (20, t20), (21, a0), (22, a1), (23, t23), (24, t24), (25, t25), (26, t25), (27, t27), (28, (.sc undef)), (29, (.sc undef)), (30, (.sc undef)), (31, t37), (32, t25), (33, t33), (34, t33), (35, t35), (36, t36), (37, t37), (38, t25), (39, t39), (40, (.sc undef)), (41, (.sc undef)), (42, (.sc undef)), (43, (.sc undef)), (44, (.sc undef)), (45, (.sc undef)), (46, (.sc undef)), (47, (.sc undef)), (48, (.sc undef)), (49, (.sc undef)), (50, (.sc undef)), (51, (.sc undef)), (52, (.sc undef)), (53, (.sc undef)), (54, (.sc undef)), (55, (.sc undef)), (56, (.sc undef)), (57, (.sc undef)), (58, a1), (59, a0), (60, t60), (61, t61), (62, (.sc (.int .i64 1))), (63, t63), (64, t64), (65, (.sc undef)), (66, (.sc undef)), (67, (.sc undef)), (68, (.sc undef)), (69, (.sc undef)), (70, (.sc undef)), (71, (.sc undef)), (72, (.sc undef)), (73, (.sc undef)), (74, (.sc undef)), (75, (.sc undef)), (76, (.sc undef)), (77, (.sc undef)), (78, (.sc undef)), (79, (.sc undef)), (80, (.sc undef)), (81, (.sc undef)), (82, (.sc undef)), (83, (.sc undef)), (84, (.sc undef)), (85, (.sc undef)), (86, (.sc undef)), (87, (.sc undef)), (88, (.sc undef)), (89, (.sc undef)), (90, (.sc undef)), (91, (.sc undef)), (92, (.sc undef)), (93, (.sc undef)), (94, (.sc undef)), (95, (.sc undef)), (96, (.sc undef)), (97, (.sc undef)), (98, (.sc undef)), (99, (.sc undef)), (100, (.sc undef)), (101, (.sc undef)), (102, (.sc undef)), (103, (.sc undef))] H))
  (p.bin .geq t25 (.sc (.int .i64 224)) fun t42 =>
  p.guard t42 true H (fun k' => k' t25 H) fun t44 H =>
  p.guard t42 true H (fun k' => p.bin .lss t44 (.sc (.int .i64 240)) fun t' => k' t' H) fun t45 H =>
  p.pick t42 t45 (.sc (.bool false)) fun t46 =>
  p.cond t46
  (p.bin .and t25 (.sc (.int .i64 15)) fun t48 =>
  p.len a0 fun t60 =>
  p.bin .sub t60 (.sc (.int .i64 1)) fun t61 =>
  p.bin .sub t61 (.sc (.int .i64 2)) fun t63 =>
  p.bin .gtr a1 t63 fun t64 =>
  p.cond t64
  (k (packA [(.sc (.int .i64 0)), (.sc (.int .i64 0)), (.sc (.bool false))]) H)
  (f106_L0 p n  k n [(0, a0), (1, a1), (2, (.sc undef)), (3, (.sc undef)), (4, (.sc (.int .i64 0))), (5, (.sc (.int .i64 0))), (6, (.sc (.bool false))), (7, t25), (8, (.sc (.int .i64 2))), (9, (.sc (.int .i64 2048))), (10, t48), (11, (.sc (.int .i64 1))), (12, (.sc undef)), (13, a1), (14, t14), (15, t14), (16, t16), (17, t17), (18, t18), (19, t19), (20, t20), (21, a0), (22, a1), (23, t23), (24, t24), (25, t25), (26, t25), (27, t27), (28, (.sc undef)), (29, (.sc undef)), (30, (.sc undef)), (31, t37), (32, t25), (33, t33), (34, t33), (35, t35), (36, t36), (37, t37), (38, (.sc undef)), (39, (.sc undef)), (40, t46), (41, t25), (42, t42), (43, t42), (44, t44), (45, t45), (46, t46), (47, t25), (48, t48), (49, (.sc undef)), (50, (.sc undef)), (51, (.sc undef)), (52, (.sc undef)), (53, (.sc undef)), (54, (.sc undef)), (55, (.sc undef)), (56, (.sc undef)), (57, (.sc undef)), (58, a1), (59, a0), (60, t60), (61, t61), (62, (.sc (.int .i64 2))), (63, t63), (64, t64), (65, (.sc undef)), (66, (.sc undef)), (67, (.sc undef)), (68, (.sc undef)), (69, (.sc undef)), (70, (.sc undef)), (71, (.sc undef)), (72, (.sc undef)), (73, (.sc undef)), (74, (.sc undef)), (75, (.sc undef)), (76, (.sc undef)), (77, (.sc undef)), (78, (.sc undef)), (79, (.sc undef)), (80, (.sc undef)), (81, (.sc undef)), (82, (.sc undef)), (83, (.sc undef)), (84, (.sc undef)), (85, (.sc undef)), (86, (.sc undef)), (87, (.sc undef)), (88, (.sc undef)), (89, (.sc undef)), (90, (.sc undef)), (91, (.sc undef)), (92, (.sc undef)), (93, (.sc undef)), (94, (.sc undef)), (95, (.sc undef)), (96, (.sc undef)), (97, (.sc undef)), (98, (.sc undef)), (99, (.sc undef)), (100, (.sc undef)), (101, (.sc undef)), (102, (.sc undef)), (103, (.sc undef))] H))
  (p.bin .geq t25 (.sc (.int .i64 240)) fun t51 =>
  p.guard t51 true H (fun k' => k' t25 H) fun t53 H =>
  p.guard t51 true H (fun k' => p.bin .lss t53 (.sc (.int .i64 248)) fun t' => k' t' H) fun t54 H =>
  p.pick t51 t54 (.sc (.bool false)) fun t55 =>
  p.cond t55
  (p.bin .and t25 (.sc (.int .i64 7)) fun t57 =>
  p.len a0 fun t60 =>
  p.bin .sub t60 (.sc (.int .i64 1)) fun t61 =>
  p.bin .sub t61 (.sc (.int .i64 3)) fun t63 =>
  p.bin .gtr a1 t63 fun t64 =>
  p.cond t64
  (k (packA [(.sc (.int .i64 0)), (.sc (.int .i64 0)), (.sc (.bool false))]) H)
  (f106_L0 p n  k n [(0, a0), (1, a1), (2, (.sc undef)), (3, (.sc undef)), (4, (.sc (.int .i64 0))), (5, (.sc (.int .i64 0))), (6, (.sc (.bool false))), (7, t25), (8, (.sc (.int .i64 3))), (9, (.sc (.int .i64 65536))), (10, t57), (11, (.sc (.int .i64 1))), (12, (.sc undef)), (13, a1), (14, t14), (15, t14), (16, t16), (17, t17), (18, t18), (19, t19), (20, t20), (21, a0), (22, a1), (23, t23), (24, t24), (25, t25), (26, t25), (27, t27), (28, (.sc undef)), (29, (.sc undef)), (30, (.sc undef)), (31, t37), (32, t25), (33, t33), (34, t33), (35, t35), (36, t36), (37, t37), (38, (.sc undef)), (39, (.sc undef)), (40, t46), (41, t25), (42, t42), (43, t42), (44, t44), (45, t45), (46, t46), (47, (.sc undef)), (48, (.sc undef)), (49, t55), (50, t25), (51, t51), (52, t51), (53, t53), (54, t54), (55, t55), (56, t25), (57, t57), (58, a1), (59, a0), (60, t60), (61, t61), (62, (.sc (.int .i64 3))), (63, t63), (64, t64), (65, (.sc undef)), (66, (.sc undef)), (67, (.sc undef)), (68, (.sc undef)), (69, (.sc undef)), (70, (.sc undef)), (71, (.sc undef)), (72, (.sc undef)), (73, (.sc undef)), (74, (.sc undef)), (75, (.sc undef)), (76, (.sc undef)), (77, (.sc undef)), (78, (.sc undef)), (79, (.sc undef)), (80, (.sc undef)), (81, (.sc undef)), (82, (.sc undef)), (83, (.sc undef)), (84, (.sc undef)), (85, (.sc undef)), (86, (.sc undef)), (87, (.sc undef)), (88, (.sc undef)), (89, (.sc undef)), (90, (.sc undef)), (91, (.sc undef)), (92, (.sc undef)), (93, (.sc undef)), (94, (.sc undef)), (95, (.sc undef)), (96, (.sc undef)), (97, (.sc undef)), (98, (.sc undef)), (99, (.sc undef)), (100, (.sc undef)), (101, (.sc undef)), (102, (.sc undef)), (103, (.sc undef))] H))
  (k (packA [(.sc (.int .i64 0)), (.sc (.int .i64 0)), (.sc (.bool false))]) H))))) := by kernel_rfl
theorem f106_body (p : Pr β) (n : Nat) (a0 a1 : AV) (H : Heap) (k : AV → Heap → Option β) : evalBody ti0 p n ⟨c106, 104, Go.Proofs.Tryd.f106.results.toList, o106⟩ [a0, a1] H k = f106 p n a0 a1 H k := by
  rw [f106_raw]
  simp only [f106_l0_eq]
  rfl

/-! 77 loop.example/g00480/spec.CountRunes -/
noncomputable def f77_l0 (p : Pr β) (n : Nat)  (k : AV → Heap → Option β) : Nat → AV → AV → AV → Heap → Option β
  | 0, _, _, _, _ => none
  | m + 1, t3, t4, t5, H => p.len t3 fun t16 =>
      p.bin .lss t5 t16 fun t17 =>
      p.cond t17
      (p.call 121 (.fn 106 [] []) [t3, t5] H fun t21 H =>
      p.extr t21 0 fun t22 =>
      p.extr t21 1 fun t23 =>
      p.extr t21 2 fun t24 =>
      p.un .not t24 fun t26 =>
      p.guard t26 false H (fun k' => k' t22 H) fun t28 H =>
      p.guard t26 false H (fun k' => p.bin .eql t28 (.sc (.int .i64 0)) fun t' => k' t' H) fun t29 H =>
      p.pick t26 (.sc (.bool true)) t29 fun t30 =>
      p.cond t30
      (k (.sc (.int .i64 (-1))) H)
      (p.bin .add t4 (.sc (.int .i64 1)) fun t33 =>
      f77_l0 p n  k m t3 t33 t23 H))
      (k t4 H)
noncomputable def f77 (p : Pr β) (n : Nat) (a0 : AV) (H : Heap) (k : AV → Heap → Option β) : Option β :=
  p.lenS a0 fun t10 =>
  p.bin .gtr t10 (.sc (.int .i64 60)) fun t11 =>
  p.cond t11
  (k (.sc (.int .i64 (-1))) H)
  (p.cvSB a0 H fun t13 H =>
  f77_l0 p n  k n t13 (.sc (.int .i64 0)) (.sc (.int .i64 0)) H)
noncomputable def f77_L0 (p : Pr β) (n : Nat)  (k : AV → Heap → Option β) (m : Nat) (tm : Tm) (H : Heap) : Option β :=
  iterC 35 (fun tm H k => evalCode ti0 p o77 35 n (cd c77 [1, 1, 1, 1, 0, 1, 0, 0]) tm H k) (blkK 0 (seqK (fun tm H => evalCode ti0 p o77 35 n (cd c77 [1, 1, 1, 1, 1]) tm H (endK ti0 p Go.Proofs.Tryd.f77.results.toList k)) (endK ti0 p Go.Proofs.Tryd.f77.results.toList k))) m tm H
theorem f77_L0_step (p : Pr β) (n : Nat)  (k : AV → Heap → Option β) (m0 : Nat) (t0 t1 t2 t3 t4 t5 t6 t7 t8 t9 t10 t11 t12 t13 t14 t15 t16 t17 t18 t19 t20 t21 t22 t23 t24 t25 t26 t27 t28 t29 t30 t31 t32 t33 t34 : AV) (H : Heap) : f77_L0 p n  k (m0 + 1) [(0, t0), (1, t1), (2, t2), (3, t3), (4, t4), (5, t5), (6, t6), (7, t7), (8, t8), (9, t9), (10, t10), (11, t11), (12, t12), (13, t13), (14, t14), (15, t15), (16, t16), (17, t17), (18, t18), (19, t19), (20, t20), (21, t21), (22, t22), (23, t23), (24, t24), (25, t25), (26, t26), (27, t27), (28, t28), (29, t29), (30, t30), (31, t31), (32, t32), (33, t33), (34, t34)] H =
  p.len t3 fun t16 =>
  p.bin .lss t5 t16 fun t17 =>
  p.cond t17
  (p.call 121 (.fn 106 [] []) [t3, t5] H fun t21 H =>
  p.extr t21 0 fun t22 =>
  p.extr t21 1 fun t23 =>
  p.extr t21 2 fun t24 =>
  p.un .not t24 fun t26 =>
  p.guard t26 false H (fun k' => k' t22 H) fun t28 H =>
  p.guard t26 false H (fun k' => p.bin .eql t28 (.sc (.int .i64 0)) fun t' => k' t' H) fun t29 H =>
  p.pick t26 (.sc (.bool true)) t29 fun t30 =>
  p.cond t30
  (k (.sc (.int .i64 (-1))) H)
  (p.bin .add t4 (.sc (.int .i64 1)) fun t33 =>
  f77_L0 p n  k m0 [(0, t0), (1, t1), (2, t2), (3, t3), (4, t33), (5, t23), (6, t22), (7, t23), (8, t24), (9, t9), (10, t10), (11, t11), (12, t12), (13, t13), (14, t5), (15, t3), (16, t16), (17, t17), (18, t21), (19, t3), (20, t5), (21, t21), (22, t22), (23, t23), (24, t24), (25, t24), (26, t26), (27, t26), (28, t28), (29, t29), (30, t30), (31, t23), (32, t4), (33, t33), (34, t34)] H))
  (k t4 H) := by kernel_rfl
theorem f77_l0_eq (p : Pr β) (n : Nat)  (k : AV → Heap → Option β)   (m0 : Nat) : ∀ (t0 t1 t2 t3 t4 t5 t6 t7 t8 t9 t10 t11 t12 t13 t14 t15 t16 t17 t18 t19 t20 t21 t22 t23 t24 t25 t26 t27 t28 t29 t30 t31 t32 t33 t34 : AV) (H : Heap), f77_L0 p n  k m0 [(0, t0), (1, t1), (2, t2), (3, t3), (4, t4), (5, t5), (6, t6), (7, t7), (8, t8), (9, t9), (10, t10), (11, t11), (12, t12), (13, t13), (14, t14), (15, t15), (16, t16), (17, t17), (18, t18), (19, t19), (20, t20), (21, t21), (22, t22), (23, t23), (24, t24), (25, t25), (26, t26), (27, t27), (28, t28), (29, t29), (30, t30), (31, t31), (32, t32), (33, t33), (34, t34)] H = f77_l0 p n  k m0 t3 t4 t5 H := by
  induction m0 with
  | zero => intros; rfl
  | succ m0 ih =>
    intro t0 t1 t2 t3 t4 t5 t6 t7 t8 t9 t10 t11 t12 t13 t14 t15 t16 t17 t18 t19 t20 t21 t22 t23 t24 t25 t26 t27 t28 t29 t30 t31 t32 t33 t34 H
    rw [f77_L0_step]
    simp only [ih]
    rfl
theorem f77_raw (p : Pr β) (n : Nat) (a0 : AV) (H : Heap) (k : AV → Heap → Option β) : evalBody ti0 p n ⟨c77, 35, Go.Proofs.Tryd.f77.results.toList, o77⟩ [a0] H k =
  p.lenS a0 fun t10 =>
  p.bin .gtr t10 (.sc (.int .i64 60)) fun t11 =>
  p.cond t11
  (k (.sc (.int .i64 (-1))) H)
  (p.cvSB a0 H fun t13 H =>
  f77_L0 p n  k n [(0, a0), (1, (.sc undef)), (2, (.sc (.int .i64 0))), (3, t13), (4, (.sc (.int .i64 0))), (5, (.sc (.int .i64 0))), (6, (.sc undef)), (7, (.sc undef)), (8, (.sc undef)), (9, a0), (10, t10), (11, t11), (12, a0), (13, t13), (14, (.sc undef)), (15, (.sc undef)), (16, (.sc undef)), (17, (.sc undef)), (18, (.sc undef)), (19, (.sc undef)), (20, (.sc undef)), (21, (.sc undef)), (22, (.sc undef)), (23, (.sc undef)), (24, (.sc undef)), (25, (.sc undef)), (26, (.sc undef)), (27, (.sc undef)), (28, (.sc undef)), (29, (.sc undef)), (30, (.sc undef)), (31, (.sc undef)), (32, (.sc undef)), (33, (.sc undef)), (34, (.sc undef))] H) := by kernel_rfl
theorem f77_body (p : Pr β) (n : Nat) (a0 : AV) (H : Heap) (k : AV → Heap → Option β) : evalBody ti0 p n ⟨c77, 35, Go.Proofs.Tryd.f77.results.toList, o77⟩ [a0] H k = f77 p n a0 H k := by
  rw [f77_raw]
  simp only [f77_l0_eq]
  rfl

/-! 43 loop.example/g00480/spec.TextOk -/
noncomputable def f43 (p : Pr β) (n : Nat) (a0 : AV) (H : Heap) (k : AV → Heap → Option β) : Option β :=
  p.call 3 (.fn 77 [] []) [a0] H fun t4 H =>
  p.bin .geq t4 (.sc (.int .i64 0)) fun t5 =>
  k t5 H
theorem f43_body (p : Pr β) (n : Nat) (a0 : AV) (H : Heap) (k : AV → Heap → Option β) : evalBody ti0 p n ⟨c43, 6, Go.Proofs.Tryd.f43.results.toList, o43⟩ [a0] H k = f43 p n a0 H k := by kernel_rfl

/-! 18 loop.example/g00480/spec.DeedOk -/
noncomputable def f18 (p : Pr β) (n : Nat) (a0 : AV) (H : Heap) (k : AV → Heap → Option β) : Option β :=
  p.box a0 H fun t1 H =>
  p.fadr 0 t1 fun t3 =>
  p.load false 1 t3 H fun t4 =>
  p.call 4 (.fn 34 [] []) [t4, (.sc (.int .i64 1)), (.sc (.int .i64 6))] H fun t5 H =>
  p.un .not t5 fun t6 =>
  p.guard t6 true H (fun k' => p.fadr 0 t1 fun t' => k' t' H) fun t8 H =>
  p.guard t6 true H (fun k' => p.load false 1 t8 H fun t' => k' t' H) fun t9 H =>
  p.guard t6 true H (fun k' => p.bin .neq t9 (.sc (.int .i64 8)) fun t' => k' t' H) fun t10 H =>
  p.pick t6 t10 (.sc (.bool false)) fun t11 =>
  p.guard t11 false H (fun k' => p.fadr 1 t1 fun t' => k' t' H) fun t13 H =>
  p.guard t11 false H (fun k' => p.load false 1 t13 H fun t' => k' t' H) fun t14 H =>
  p.guard t11 false H (fun k' => p.call 4 (.fn 34 [] []) [t14, (.sc (.int .i64 0)), (.sc (.int .i64 3))] H fun t' H => k' t' H) fun t15 H =>
  p.guard t11 false H (fun k' => p.un .not t15 fun t' => k' t' H) fun t16 H =>
  p.pick t11 (.sc (.bool true)) t16 fun t17 =>
  p.guard t17 false H (fun k' => p.fadr 2 t1 fun t' => k' t' H) fun t19 H =>
  p.guard t17 false H (fun k' => p.load false 1 t19 H fun t' => k' t' H) fun t20 H =>
  p.guard t17 false H (fun k' => p.bin .lss t20 (.sc (.int .i64 1)) fun t' => k' t' H) fun t21 H =>
  p.pick t17 (.sc (.bool true)) t21 fun t22 =>
  p.guard t22 false H (fun k' => p.fadr 34 t1 fun t' => k' t' H) fun t24 H =>
  p.guard t22 false H (fun k' => p.load false 1 t24 H fun t' => k' t' H) fun t25 H =>
  p.guard t22 false H (fun k' => p.bin .lss t25 (.sc (.int .i64 0)) fun t' => k' t' H) fun t26 H =>
  p.pick t22 (.sc (.bool true)) t26 fun t27 =>
  p.guard t27 false H (fun k' => p.fadr 3 t1 fun t' => k' t' H) fun t29 H =>
  p.guard t27 false H (fun k' => p.load false 1 t29 H fun t' => k' t' H) fun t30 H =>
  p.guard t27 false H (fun k' => p.call 4 (.fn 43 [] []) [t30] H fun t' H => k' t' H) fun t31 H =>
  p.guard t27 false H (fun k' => p.un .not t31 fun t' => k' t' H) fun t32 H =>
  p.pick t27 (.sc (.bool true)) t32 fun t33 =>
  p.guard t33 false H (fun k' => p.fadr 29 t1 fun t' => k' t' H) fun t35 H =>
  p.guard t33 false H (fun k' => p.load false 1 t35 H fun t' => k' t' H) fun t36 H =>
  p.guard t33 false H (fun k' => p.bin .lss t36 (.sc (.int .i64 0)) fun t' => k' t' H) fun t37 H =>
  p.pick t33 (.sc (.bool true)) t37 fun t38 =>
  p.cond t38
  (k (.sc (.bool false)) H)
  (p.fadr 30 t1 fun t39 =>
  p.load false 1 t39 H fun t40 =>
  p.bin .neq t40 (.sc (.int .i64 (-1))) fun t41 =>
  p.guard t41 true H (fun k' => p.fadr 30 t1 fun t' => k' t' H) fun t43 H =>
  p.guard t41 true H (fun k' => p.load false 1 t43 H fun t' => k' t' H) fun t44 H =>
  p.guard t41 true H (fun k' => p.fadr 29 t1 fun t' => k' t' H) fun t45 H =>
  p.guard t41 true H (fun k' => p.load false 1 t45 H fun t' => k' t' H) fun t46 H =>
  p.guard t41 true H (fun k' => p.bin .lss t44 t46 fun t' => k' t' H) fun t47 H =>
  p.guard t41 true H (fun k' => k' t47 H) fun t48 H =>
  p.guard t48 false H (fun k' => p.fadr 32 t1 fun t' => k' t' H) fun t49 H =>
  p.guard t48 false H (fun k' => p.load false 1 t49 H fun t' => k' t' H) fun t50 H =>
  p.guard t41 true H (fun k' => p.pick t48 (.sc (.bool true)) t50 fun t' => k' t' H) fun t51 H =>
  p.pick t41 t51 (.sc (.bool false)) fun t52 =>
  p.guard t52 false H (fun k' => p.fadr 31 t1 fun t' => k' t' H) fun t54 H =>
  p.guard t52 false H (fun k' => p.load false 1 t54 H fun t' => k' t' H) fun t55 H =>
  p.guard t52 false H (fun k' => p.bin .neq t55 (.sc (.int .i64 (-1))) fun t' => k' t' H) fun t56 H =>
  p.guard t52 false H (fun k' => k' t56 H) fun t57 H =>
  p.guard t57 true H (fun k' => p.fadr 31 t1 fun t' => k' t' H) fun t58 H =>
  p.guard t57 true H (fun k' => p.load false 1 t58 H fun t' => k' t' H) fun t59 H =>
  p.guard t57 true H (fun k' => p.fadr 29 t1 fun t' => k' t' H) fun t60 H =>
  p.guard t57 true H (fun k' => p.load false 1 t60 H fun t' => k' t' H) fun t61 H =>
  p.guard t57 true H (fun k' => p.bin .lss t59 t61 fun t' => k' t' H) fun t62 H =>
  p.guard t57 true H (fun k' => k' t62 H) fun t63 H =>
  p.guard t63 false H (fun k' => p.fadr 31 t1 fun t' => k' t' H) fun t64 H =>
  p.guard t63 false H (fun k' => p.load false 1 t64 H fun t' => k' t' H) fun t65 H =>
  p.guard t63 false H (fun k' => p.fadr 30 t1 fun t' => k' t' H) fun t66 H =>
  p.guard t63 false H (fun k' => p.load false 1 t66 H fun t' => k' t' H) fun t67 H =>
  p.guard t63 false H (fun k' => p.bin .lss t65 t67 fun t' => k' t' H) fun t68 H =>
  p.guard t57 true H (fun k' => p.pick t63 (.sc (.bool true)) t68 fun t' => k' t' H) fun t69 H =>
  p.guard t52 false H (fun k' => p.pick t57 t69 (.sc (.bool false)) fun t' => k' t' H) fun t70 H =>
  p.pick t52 (.sc (.bool true)) t70 fun t71 =>
  p.cond t71
  (k (.sc (.bool false)) H)
  (p.fadr 31 t1 fun t72 =>
  p.load false 1 t72 H fun t73 =>
  p.bin .eql t73 (.sc (.int .i64 (-1))) fun t74 =>
  p.guard t74 false H (fun k' => p.fadr 30 t1 fun t' => k' t' H) fun t76 H =>
  p.guard t74 false H (fun k' => p.load false 1 t76 H fun t' => k' t' H) fun t77 H =>
  p.guard t74 false H (fun k' => p.bin .neq t77 (.sc (.int .i64 (-1))) fun t' => k' t' H) fun t78 H =>
  p.pick t74 (.sc (.bool true)) t78 fun t79 =>
  p.guard t79 false H (fun k' => p.fadr 32 t1 fun t' => k' t' H) fun t81 H =>
  p.guard t79 false H (fun k' => p.load false 1 t81 H fun t' => k' t' H) fun t82 H =>
  p.pick t79 (.sc (.bool true)) t82 fun t83 =>
  k t83 H))
theorem f18_body (p : Pr β) (n : Nat) (a0 : AV) (H : Heap) (k : AV → Heap → Option β) : evalBody ti0 p n ⟨c18, 84, Go.Proofs.Tryd.f18.results.toList, o18⟩ [a0] H k = f18 p n a0 H k := by kernel_rfl

/-! 47 loop.example/g00480/impl.within -/
noncomputable def f47 (p : Pr β) (n : Nat) (a0 a1 a2 : AV) (H : Heap) (k : AV → Heap → Option β) : Option β :=
  p.bin .geq a0 a1 fun t9 =>
  p.guard t9 true H (fun k' => k' a0 H) fun t11 H =>
  p.guard t9 true H (fun k' => k' a2 H) fun t12 H =>
  p.guard t9 true H (fun k' => p.bin .leq t11 t12 fun t' => k' t' H) fun t13 H =>
  p.pick t9 t13 (.sc (.bool false)) fun t14 =>
  k t14 H
theorem f47_body (p : Pr β) (n : Nat) (a0 a1 a2 : AV) (H : Heap) (k : AV → Heap → Option β) : evalBody ti0 p n ⟨c47, 15, Go.Proofs.Tryd.f47.results.toList, o47⟩ [a0, a1, a2] H k = f47 p n a0 a1 a2 H k := by kernel_rfl

/-! 20 loop.example/g00480/impl.DeedOk -/
noncomputable def f20 (p : Pr β) (n : Nat) (a0 : AV) (H : Heap) (k : AV → Heap → Option β) : Option β :=
  p.box a0 H fun t1 H =>
  p.fadr 0 t1 fun t3 =>
  p.load false 1 t3 H fun t4 =>
  p.call 4 (.fn 47 [] []) [t4, (.sc (.int .i64 1)), (.sc (.int .i64 6))] H fun t5 H =>
  p.un .not t5 fun t6 =>
  p.guard t6 true H (fun k' => p.fadr 0 t1 fun t' => k' t' H) fun t8 H =>
  p.guard t6 true H (fun k' => p.load false 1 t8 H fun t' => k' t' H) fun t9 H =>
  p.guard t6 true H (fun k' => p.bin .neq t9 (.sc (.int .i64 8)) fun t' => k' t' H) fun t10 H =>
  p.pick t6 t10 (.sc (.bool false)) fun t11 =>
  p.guard t11 false H (fun k' => p.fadr 34 t1 fun t' => k' t' H) fun t13 H =>
  p.guard t11 false H (fun k' => p.load false 1 t13 H fun t' => k' t' H) fun t14 H =>
  p.guard t11 false H (fun k' => p.bin .lss t14 (.sc (.int .i64 0)) fun t' => k' t' H) fun t15 H =>
  p.pick t11 (.sc (.bool true)) t15 fun t16 =>
  p.guard t16 false H (fun k' => p.fadr 1 t1 fun t' => k' t' H) fun t18 H =>
  p.guard t16 false H (fun k' => p.load false 1 t18 H fun t' => k' t' H) fun t19 H =>
  p.guard t16 false H (fun k' => p.call 4 (.fn 47 [] []) [t19, (.sc (.int .i64 0)), (.sc (.int .i64 3))] H fun t' H => k' t' H) fun t20 H =>
  p.guard t16 false H (fun k' => p.un .not t20 fun t' => k' t' H) fun t21 H =>
  p.pick t16 (.sc (.bool true)) t21 fun t22 =>
  p.guard t22 false H (fun k' => p.fadr 2 t1 fun t' => k' t' H) fun t24 H =>
  p.guard t22 false H (fun k' => p.load false 1 t24 H fun t' => k' t' H) fun t25 H =>
  p.guard t22 false H (fun k' => p.bin .lss t25 (.sc (.int .i64 1)) fun t' => k' t' H) fun t26 H =>
  p.pick t22 (.sc (.bool true)) t26 fun t27 =>
  p.cond t27
  (k (.sc (.bool false)) H)
  (p.fadr 3 t1 fun t28 =>
  p.load false 1 t28 H fun t29 =>
  p.call 4 (.fn 48 [] []) [t29] H fun t30 H =>
  p.un .not t30 fun t31 =>
  p.guard t31 false H (fun k' => p.fadr 29 t1 fun t' => k' t' H) fun t33 H =>
  p.guard t31 false H (fun k' => p.load false 1 t33 H fun t' => k' t' H) fun t34 H =>
  p.guard t31 false H (fun k' => p.bin .lss t34 (.sc (.int .i64 0)) fun t' => k' t' H) fun t35 H =>
  p.pick t31 (.sc (.bool true)) t35 fun t36 =>
  p.guard t36 false H (fun k' => p.fadr 30 t1 fun t' => k' t' H) fun t38 H =>
  p.guard t36 false H (fun k' => p.load false 1 t38 H fun t' => k' t' H) fun t39 H =>
  p.guard t36 false H (fun k' => p.bin .neq t39 (.sc (.int .i64 (-1))) fun t' => k' t' H) fun t40 H =>
  p.guard t36 false H (fun k' => k' t40 H) fun t41 H =>
  p.guard t41 true H (fun k' => p.fadr 30 t1 fun t' => k' t' H) fun t42 H =>
  p.guard t41 true H (fun k' => p.load false 1 t42 H fun t' => k' t' H) fun t43 H =>
  p.guard t41 true H (fun k' => p.fadr 29 t1 fun t' => k' t' H) fun t44 H =>
  p.guard t41 true H (fun k' => p.load false 1 t44 H fun t' => k' t' H) fun t45 H =>
  p.guard t41 true H (fun k' => p.bin .lss t43 t45 fun t' => k' t' H) fun t46 H =>
  p.guard t36 false H (fun k' => p.pick t41 t46 (.sc (.bool false)) fun t' => k' t' H) fun t47 H =>
  p.pick t36 (.sc (.bool true)) t47 fun t48 =>
  p.guard t48 false H (fun k' => p.fadr 31 t1 fun t' => k' t' H) fun t50 H =>
  p.guard t48 false H (fun k' => p.load false 1 t50 H fun t' => k' t' H) fun t51 H =>
  p.guard t48 false H (fun k' => p.bin .neq t51 (.sc (.int .i64 (-1))) fun t' => k' t' H) fun t52 H =>
  p.guard t48 false H (fun k' => k' t52 H) fun t53 H =>
  p.guard t53 true H (fun k' => p.fadr 31 t1 fun t' => k' t' H) fun t54 H =>
  p.guard t53 true H (fun k' => p.load false 1 t54 H fun t' => k' t' H) fun t55 H =>
  p.guard t53 true H (fun k' => p.fadr 29 t1 fun t' => k' t' H) fun t56 H =>
  p.guard t53 true H (fun k' => p.load false 1 t56 H fun t' => k' t' H) fun t57 H =>
  p.guard t53 true H (fun k' => p.bin .lss t55 t57 fun t' => k' t' H) fun t58 H =>
  p.guard t48 false H (fun k' => p.pick t53 t58 (.sc (.bool false)) fun t' => k' t' H) fun t59 H =>
  p.pick t48 (.sc (.bool true)) t59 fun t60 =>
  p.cond t60
  (k (.sc (.bool false)) H)
  (p.fadr 31 t1 fun t61 =>
  p.load false 1 t61 H fun t62 =>
  p.bin .neq t62 (.sc (.int .i64 (-1))) fun t63 =>
  p.guard t63 true H (fun k' => p.fadr 31 t1 fun t' => k' t' H) fun t65 H =>
  p.guard t63 true H (fun k' => p.load false 1 t65 H fun t' => k' t' H) fun t66 H =>
  p.guard t63 true H (fun k' => p.fadr 30 t1 fun t' => k' t' H) fun t67 H =>
  p.guard t63 true H (fun k' => p.load false 1 t67 H fun t' => k' t' H) fun t68 H =>
  p.guard t63 true H (fun k' => p.bin .lss t66 t68 fun t' => k' t' H) fun t69 H =>
  p.guard t63 true H (fun k' => k' t69 H) fun t70 H =>
  p.guard t70 false H (fun k' => p.fadr 30 t1 fun t' => k' t' H) fun t71 H =>
  p.guard t70 false H (fun k' => p.load false 1 t71 H fun t' => k' t' H) fun t72 H =>
  p.guard t70 false H (fun k' => p.bin .eql t72 (.sc (.int .i64 (-1))) fun t' => k' t' H) fun t73 H =>
  p.guard t70 false H (fun k' => k' t73 H) fun t74 H =>
  p.guard t74 true H (fun k' => p.fadr 32 t1 fun t' => k' t' H) fun t75 H =>
  p.guard t74 true H (fun k' => p.load false 1 t75 H fun t' => k' t' H) fun t76 H =>
  p.guard t74 true H (fun k' => p.un .not t76 fun t' => k' t' H) fun t77 H =>
  p.guard t70 false H (fun k' => p.pick t74 t77 (.sc (.bool false)) fun t' => k' t' H) fun t78 H =>
  p.guard t63 true H (fun k' => p.pick t70 (.sc (.bool true)) t78 fun t' => k' t' H) fun t79 H =>
  p.pick t63 t79 (.sc (.bool false)) fun t80 =>
  p.cond t80
  (k (.sc (.bool false)) H)
  (p.fadr 32 t1 fun t81 =>
  p.load false 1 t81 H fun t82 =>
  p.un .not t82 fun t83 =>
  p.guard t83 false H (fun k' => p.fadr 30 t1 fun t' => k' t' H) fun t85 H =>
  p.guard t83 false H (fun k' => p.load false 1 t85 H fun t' => k' t' H) fun t86 H =>
  p.guard t83 false H (fun k' => p.bin .eql t86 (.sc (.int .i64 (-1))) fun t' => k' t' H) fun t87 H =>
  p.pick t83 (.sc (.bool true)) t87 fun t88 =>
  k t88 H)))
theorem f20_body (p : Pr β) (n : Nat) (a0 : AV) (H : Heap) (k : AV → Heap → Option β) : evalBody ti0 p n ⟨c20, 89, Go.Proofs.Tryd.f20.results.toList, o20⟩ [a0] H k = f20 p n a0 H k := by kernel_rfl

/-! 38 loop.example/g00480/laws.eqByteS -/
noncomputable def f38_l0 (p : Pr β) (n : Nat)  (k : AV → Heap → Option β) : Nat → AV → AV → AV → Heap → Option β
  | 0, _, _, _, _ => none
  | m + 1, t0, t1, t5, H => p.len t0 fun t13 =>
      p.bin .lss t5 t13 fun t14 =>
      p.cond t14
      (p.iadr 1 t0 t5 fun t19 =>
      p.load false 1 t19 H fun t20 =>
      p.iadr 1 t1 t5 fun t23 =>
      p.load false 1 t23 H fun t24 =>
      p.bin .neq t20 t24 fun t25 =>
      p.cond t25
      (k (.sc (.bool false)) H)
      (p.bin .add t5 (.sc (.int .i64 1)) fun t16 =>
      f38_l0 p n  k m t0 t1 t16 H))
      (k (.sc (.bool true)) H)
noncomputable def f38 (p : Pr β) (n : Nat) (a0 a1 : AV) (H : Heap) (k : AV → Heap → Option β) : Option β :=
  p.len a0 fun t7 =>
  p.len a1 fun t9 =>
  p.bin .neq t7 t9 fun t10 =>
  p.cond t10
  (k (.sc (.bool false)) H)
  (f38_l0 p n  k n a0 a1 (.sc (.int .i64 0)) H)
noncomputable def f38_L0 (p : Pr β) (n : Nat)  (k : AV → Heap → Option β) (m : Nat) (tm : Tm) (H : Heap) : Option β :=
  iterC 26 (fun tm H k => evalCode ti0 p o38 26 n (cd c38 [1, 1, 0, 1, 0, 0]) tm H k) (blkK 0 (seqK (fun tm H => evalCode ti0 p o38 26 n (cd c38 [1, 1, 1]) tm H (endK ti0 p Go.Proofs.Tryd.f38.results.toList k)) (endK ti0 p Go.Proofs.Tryd.f38.results.toList k))) m tm H
theorem f38_L0_step (p : Pr β) (n : Nat)  (k : AV → Heap → Option β) (m0 : Nat) (t0 t1 t2 t3 t4 t5 t6 t7 t8 t9 t10 t11 t12 t13 t14 t15 t16 t17 t18 t19 t20 t21 t22 t23 t24 t25 : AV) (H : Heap) : f38_L0 p n  k (m0 + 1) [(0, t0), (1, t1), (2, t2), (3, t3), (4, t4), (5, t5), (6, t6), (7, t7), (8, t8), (9, t9), (10, t10), (11, t11), (12, t12), (13, t13), (14, t14), (15, t15), (16, t16), (17, t17), (18, t18), (19, t19), (20, t20), (21, t21), (22, t22), (23, t23), (24, t24), (25, t25)] H =
  p.len t0 fun t13 =>
  p.bin .lss t5 t13 fun t14 =>
  p.cond t14
  (p.iadr 1 t0 t5 fun t19 =>
  p.load false 1 t19 H fun t20 =>
  p.iadr 1 t1 t5 fun t23 =>
  p.load false 1 t23 H fun t24 =>
  p.bin .neq t20 t24 fun t25 =>
  p.cond t25
  (k (.sc (.bool false)) H)
  (p.bin .add t5 (.sc (.int .i64 1)) fun t16 =>
  f38_L0 p n  k m0 [(0, t0), (1, t1), (2, t2), (3, t3), (4, t4), (5, t16), (6, t6), (7, t7), (8, t8), (9, t9), (10, t10), (11, t5), (12, t0), (13, t13), (14, t14), (15, t5), (16, t16), (17, t0), (18, t5), (19, t19), (20, t20), (21, t1), (22, t5), (23, t23), (24, t24), (25, t25)] H))
  (k (.sc (.bool true)) H) := by kernel_rfl
theorem f38_l0_eq (p : Pr β) (n : Nat)  (k : AV → Heap → Option β)   (m0 : Nat) : ∀ (t0 t1 t2 t3 t4 t5 t6 t7 t8 t9 t10 t11 t12 t13 t14 t15 t16 t17 t18 t19 t20 t21 t22 t23 t24 t25 : AV) (H : Heap), f38_L0 p n  k m0 [(0, t0), (1, t1), (2, t2), (3, t3), (4, t4), (5, t5), (6, t6), (7, t7), (8, t8), (9, t9), (10, t10), (11, t11), (12, t12), (13, t13), (14, t14), (15, t15), (16, t16), (17, t17), (18, t18), (19, t19), (20, t20), (21, t21), (22, t22), (23, t23), (24, t24), (25, t25)] H = f38_l0 p n  k m0 t0 t1 t5 H := by
  induction m0 with
  | zero => intros; rfl
  | succ m0 ih =>
    intro t0 t1 t2 t3 t4 t5 t6 t7 t8 t9 t10 t11 t12 t13 t14 t15 t16 t17 t18 t19 t20 t21 t22 t23 t24 t25 H
    rw [f38_L0_step]
    simp only [ih]
    rfl
theorem f38_raw (p : Pr β) (n : Nat) (a0 a1 : AV) (H : Heap) (k : AV → Heap → Option β) : evalBody ti0 p n ⟨c38, 26, Go.Proofs.Tryd.f38.results.toList, o38⟩ [a0, a1] H k =
  p.len a0 fun t7 =>
  p.len a1 fun t9 =>
  p.bin .neq t7 t9 fun t10 =>
  p.cond t10
  (k (.sc (.bool false)) H)
  (f38_L0 p n  k n [(0, a0), (1, a1), (2, (.sc undef)), (3, (.sc undef)), (4, (.sc (.bool false))), (5, (.sc (.int .i64 0))), (6, a0), (7, t7), (8, a1), (9, t9), (10, t10), (11, (.sc undef)), (12, (.sc undef)), (13, (.sc undef)), (14, (.sc undef)), (15, (.sc undef)), (16, (.sc undef)), (17, (.sc undef)), (18, (.sc undef)), (19, (.sc undef)), (20, (.sc undef)), (21, (.sc undef)), (22, (.sc undef)), (23, (.sc undef)), (24, (.sc undef)), (25, (.sc undef))] H) := by kernel_rfl
theorem f38_body (p : Pr β) (n : Nat) (a0 a1 : AV) (H : Heap) (k : AV → Heap → Option β) : evalBody ti0 p n ⟨c38, 26, Go.Proofs.Tryd.f38.results.toList, o38⟩ [a0, a1] H k = f38 p n a0 a1 H k := by
  rw [f38_raw]
  simp only [f38_l0_eq]
  rfl

/-! 109 loop.example/g00480/laws.eqWant -/
noncomputable def f109 (p : Pr β) (n : Nat) (a0 a1 : AV) (H : Heap) (k : AV → Heap → Option β) : Option β :=
  p.box a0 H fun t2 H =>
  p.box a1 H fun t3 H =>
  p.fadr 0 t2 fun t5 =>
  p.load false 1 t5 H fun t6 =>
  p.fadr 0 t3 fun t7 =>
  p.load false 1 t7 H fun t8 =>
  p.bin .neq t6 t8 fun t9 =>
  p.cond t9
  (k (.sc (.bool false)) H)
  (p.fadr 1 t2 fun t10 =>
  p.load false 1 t10 H fun t11 =>
  p.fadr 1 t3 fun t12 =>
  p.load false 1 t12 H fun t13 =>
  p.bin .neq t11 t13 fun t14 =>
  p.cond t14
  (k (.sc (.bool false)) H)
  (k (.sc (.bool true)) H))
theorem f109_body (p : Pr β) (n : Nat) (a0 a1 : AV) (H : Heap) (k : AV → Heap → Option β) : evalBody ti0 p n ⟨c109, 15, Go.Proofs.Tryd.f109.results.toList, o109⟩ [a0, a1] H k = f109 p n a0 a1 H k := by kernel_rfl

/-! 82 loop.example/g00480/laws.eqWantS -/
noncomputable def f82_l0 (p : Pr β) (n : Nat)  (k : AV → Heap → Option β) : Nat → AV → AV → AV → Heap → Option β
  | 0, _, _, _, _ => none
  | m + 1, t0, t1, t5, H => p.len t0 fun t13 =>
      p.bin .lss t5 t13 fun t14 =>
      p.cond t14
      (p.iadr 2 t0 t5 fun t19 =>
      p.load true 2 t19 H fun t20 =>
      p.iadr 2 t1 t5 fun t23 =>
      p.load true 2 t23 H fun t24 =>
      p.call 4 (.fn 109 [] []) [t20, t24] H fun t25 H =>
      p.un .not t25 fun t26 =>
      p.cond t26
      (k (.sc (.bool false)) H)
      (p.bin .add t5 (.sc (.int .i64 1)) fun t16 =>
      f82_l0 p n  k m t0 t1 t16 H))
      (k (.sc (.bool true)) H)
noncomputable def f82 (p : Pr β) (n : Nat) (a0 a1 : AV) (H : Heap) (k : AV → Heap → Option β) : Option β :=
  p.len a0 fun t7 =>
  p.len a1 fun t9 =>
  p.bin .neq t7 t9 fun t10 =>
  p.cond t10
  (k (.sc (.bool false)) H)
  (f82_l0 p n  k n a0 a1 (.sc (.int .i64 0)) H)
noncomputable def f82_L0 (p : Pr β) (n : Nat)  (k : AV → Heap → Option β) (m : Nat) (tm : Tm) (H : Heap) : Option β :=
  iterC 27 (fun tm H k => evalCode ti0 p o82 27 n (cd c82 [1, 1, 0, 1, 0, 0]) tm H k) (blkK 0 (seqK (fun tm H => evalCode ti0 p o82 27 n (cd c82 [1, 1, 1]) tm H (endK ti0 p Go.Proofs.Tryd.f82.results.toList k)) (endK ti0 p Go.Proofs.Tryd.f82.results.toList k))) m tm H
theorem f82_L0_step (p : Pr β) (n : Nat)  (k : AV → Heap → Option β) (m0 : Nat) (t0 t1 t2 t3 t4 t5 t6 t7 t8 t9 t10 t11 t12 t13 t14 t15 t16 t17 t18 t19 t20 t21 t22 t23 t24 t25 t26 : AV) (H : Heap) : f82_L0 p n  k (m0 + 1) [(0, t0), (1, t1), (2, t2), (3, t3), (4, t4), (5, t5), (6, t6), (7, t7), (8, t8), (9, t9), (10, t10), (11, t11), (12, t12), (13, t13), (14, t14), (15, t15), (16, t16), (17, t17), (18, t18), (19, t19), (20, t20), (21, t21), (22, t22), (23, t23), (24, t24), (25, t25), (26, t26)] H =
  p.len t0 fun t13 =>
  p.bin .lss t5 t13 fun t14 =>
  p.cond t14
  (p.iadr 2 t0 t5 fun t19 =>
  p.load true 2 t19 H fun t20 =>
  p.iadr 2 t1 t5 fun t23 =>
  p.load true 2 t23 H fun t24 =>
  p.call 4 (.fn 109 [] []) [t20, t24] H fun t25 H =>
  p.un .not t25 fun t26 =>
  p.cond t26
  (k (.sc (.bool false)) H)
  (p.bin .add t5 (.sc (.int .i64 1)) fun t16 =>
  f82_L0 p n  k m0 [(0, t0), (1, t1), (2, t2), (3, t3), (4, t4), (5, t16), (6, t6), (7, t7), (8, t8), (9, t9), (10, t10), (11, t5), (12, t0), (13, t13), (14, t14), (15, t5), (16, t16), (17, t0), (18, t5), (19, t19), (20, t20), (21, t1), (22, t5), (23, t23), (24, t24), (25, t25), (26, t26)] H))
  (k (.sc (.bool true)) H) := by kernel_rfl
theorem f82_l0_eq (p : Pr β) (n : Nat)  (k : AV → Heap → Option β)   (m0 : Nat) : ∀ (t0 t1 t2 t3 t4 t5 t6 t7 t8 t9 t10 t11 t12 t13 t14 t15 t16 t17 t18 t19 t20 t21 t22 t23 t24 t25 t26 : AV) (H : Heap), f82_L0 p n  k m0 [(0, t0), (1, t1), (2, t2), (3, t3), (4, t4), (5, t5), (6, t6), (7, t7), (8, t8), (9, t9), (10, t10), (11, t11), (12, t12), (13, t13), (14, t14), (15, t15), (16, t16), (17, t17), (18, t18), (19, t19), (20, t20), (21, t21), (22, t22), (23, t23), (24, t24), (25, t25), (26, t26)] H = f82_l0 p n  k m0 t0 t1 t5 H := by
  induction m0 with
  | zero => intros; rfl
  | succ m0 ih =>
    intro t0 t1 t2 t3 t4 t5 t6 t7 t8 t9 t10 t11 t12 t13 t14 t15 t16 t17 t18 t19 t20 t21 t22 t23 t24 t25 t26 H
    rw [f82_L0_step]
    simp only [ih]
    rfl
theorem f82_raw (p : Pr β) (n : Nat) (a0 a1 : AV) (H : Heap) (k : AV → Heap → Option β) : evalBody ti0 p n ⟨c82, 27, Go.Proofs.Tryd.f82.results.toList, o82⟩ [a0, a1] H k =
  p.len a0 fun t7 =>
  p.len a1 fun t9 =>
  p.bin .neq t7 t9 fun t10 =>
  p.cond t10
  (k (.sc (.bool false)) H)
  (f82_L0 p n  k n [(0, a0), (1, a1), (2, (.sc undef)), (3, (.sc undef)), (4, (.sc (.bool false))), (5, (.sc (.int .i64 0))), (6, a0), (7, t7), (8, a1), (9, t9), (10, t10), (11, (.sc undef)), (12, (.sc undef)), (13, (.sc undef)), (14, (.sc undef)), (15, (.sc undef)), (16, (.sc undef)), (17, (.sc undef)), (18, (.sc undef)), (19, (.sc undef)), (20, (.sc undef)), (21, (.sc undef)), (22, (.sc undef)), (23, (.sc undef)), (24, (.sc undef)), (25, (.sc undef)), (26, (.sc undef))] H) := by kernel_rfl
theorem f82_body (p : Pr β) (n : Nat) (a0 a1 : AV) (H : Heap) (k : AV → Heap → Option β) : evalBody ti0 p n ⟨c82, 27, Go.Proofs.Tryd.f82.results.toList, o82⟩ [a0, a1] H k = f82 p n a0 a1 H k := by
  rw [f82_raw]
  simp only [f82_l0_eq]
  rfl

/-! 83 loop.example/g00480/laws.eqStringS -/
noncomputable def f83_l0 (p : Pr β) (n : Nat)  (k : AV → Heap → Option β) : Nat → AV → AV → AV → Heap → Option β
  | 0, _, _, _, _ => none
  | m + 1, t0, t1, t5, H => p.len t0 fun t13 =>
      p.bin .lss t5 t13 fun t14 =>
      p.cond t14
      (p.iadr 1 t0 t5 fun t19 =>
      p.load false 1 t19 H fun t20 =>
      p.iadr 1 t1 t5 fun t23 =>
      p.load false 1 t23 H fun t24 =>
      p.bin .neq t20 t24 fun t25 =>
      p.cond t25
      (k (.sc (.bool false)) H)
      (p.bin .add t5 (.sc (.int .i64 1)) fun t16 =>
      f83_l0 p n  k m t0 t1 t16 H))
      (k (.sc (.bool true)) H)
noncomputable def f83 (p : Pr β) (n : Nat) (a0 a1 : AV) (H : Heap) (k : AV → Heap → Option β) : Option β :=
  p.len a0 fun t7 =>
  p.len a1 fun t9 =>
  p.bin .neq t7 t9 fun t10 =>
  p.cond t10
  (k (.sc (.bool false)) H)
  (f83_l0 p n  k n a0 a1 (.sc (.int .i64 0)) H)
noncomputable def f83_L0 (p : Pr β) (n : Nat)  (k : AV → Heap → Option β) (m : Nat) (tm : Tm) (H : Heap) : Option β :=
  iterC 26 (fun tm H k => evalCode ti0 p o83 26 n (cd c83 [1, 1, 0, 1, 0, 0]) tm H k) (blkK 0 (seqK (fun tm H => evalCode ti0 p o83 26 n (cd c83 [1, 1, 1]) tm H (endK ti0 p Go.Proofs.Tryd.f83.results.toList k)) (endK ti0 p Go.Proofs.Tryd.f83.results.toList k))) m tm H
theorem f83_L0_step (p : Pr β) (n : Nat)  (k : AV → Heap → Option β) (m0 : Nat) (t0 t1 t2 t3 t4 t5 t6 t7 t8 t9 t10 t11 t12 t13 t14 t15 t16 t17 t18 t19 t20 t21 t22 t23 t24 t25 : AV) (H : Heap) : f83_L0 p n  k (m0 + 1) [(0, t0), (1, t1), (2, t2), (3, t3), (4, t4), (5, t5), (6, t6), (7, t7), (8, t8), (9, t9), (10, t10), (11, t11), (12, t12), (13, t13), (14, t14), (15, t15), (16, t16), (17, t17), (18, t18), (19, t19), (20, t20), (21, t21), (22, t22), (23, t23), (24, t24), (25, t25)] H =
  p.len t0 fun t13 =>
  p.bin .lss t5 t13 fun t14 =>
  p.cond t14
  (p.iadr 1 t0 t5 fun t19 =>
  p.load false 1 t19 H fun t20 =>
  p.iadr 1 t1 t5 fun t23 =>
  p.load false 1 t23 H fun t24 =>
  p.bin .neq t20 t24 fun t25 =>
  p.cond t25
  (k (.sc (.bool false)) H)
  (p.bin .add t5 (.sc (.int .i64 1)) fun t16 =>
  f83_L0 p n  k m0 [(0, t0), (1, t1), (2, t2), (3, t3), (4, t4), (5, t16), (6, t6), (7, t7), (8, t8), (9, t9), (10, t10), (11, t5), (12, t0), (13, t13), (14, t14), (15, t5), (16, t16), (17, t0), (18, t5), (19, t19), (20, t20), (21, t1), (22, t5), (23, t23), (24, t24), (25, t25)] H))
  (k (.sc (.bool true)) H) := by kernel_rfl
theorem f83_l0_eq (p : Pr β) (n : Nat)  (k : AV → Heap → Option β)   (m0 : Nat) : ∀ (t0 t1 t2 t3 t4 t5 t6 t7 t8 t9 t10 t11 t12 t13 t14 t15 t16 t17 t18 t19 t20 t21 t22 t23 t24 t25 : AV) (H : Heap), f83_L0 p n  k m0 [(0, t0), (1, t1), (2, t2), (3, t3), (4, t4), (5, t5), (6, t6), (7, t7), (8, t8), (9, t9), (10, t10), (11, t11), (12, t12), (13, t13), (14, t14), (15, t15), (16, t16), (17, t17), (18, t18), (19, t19), (20, t20), (21, t21), (22, t22), (23, t23), (24, t24), (25, t25)] H = f83_l0 p n  k m0 t0 t1 t5 H := by
  induction m0 with
  | zero => intros; rfl
  | succ m0 ih =>
    intro t0 t1 t2 t3 t4 t5 t6 t7 t8 t9 t10 t11 t12 t13 t14 t15 t16 t17 t18 t19 t20 t21 t22 t23 t24 t25 H
    rw [f83_L0_step]
    simp only [ih]
    rfl
theorem f83_raw (p : Pr β) (n : Nat) (a0 a1 : AV) (H : Heap) (k : AV → Heap → Option β) : evalBody ti0 p n ⟨c83, 26, Go.Proofs.Tryd.f83.results.toList, o83⟩ [a0, a1] H k =
  p.len a0 fun t7 =>
  p.len a1 fun t9 =>
  p.bin .neq t7 t9 fun t10 =>
  p.cond t10
  (k (.sc (.bool false)) H)
  (f83_L0 p n  k n [(0, a0), (1, a1), (2, (.sc undef)), (3, (.sc undef)), (4, (.sc (.bool false))), (5, (.sc (.int .i64 0))), (6, a0), (7, t7), (8, a1), (9, t9), (10, t10), (11, (.sc undef)), (12, (.sc undef)), (13, (.sc undef)), (14, (.sc undef)), (15, (.sc undef)), (16, (.sc undef)), (17, (.sc undef)), (18, (.sc undef)), (19, (.sc undef)), (20, (.sc undef)), (21, (.sc undef)), (22, (.sc undef)), (23, (.sc undef)), (24, (.sc undef)), (25, (.sc undef))] H) := by kernel_rfl
theorem f83_body (p : Pr β) (n : Nat) (a0 a1 : AV) (H : Heap) (k : AV → Heap → Option β) : evalBody ti0 p n ⟨c83, 26, Go.Proofs.Tryd.f83.results.toList, o83⟩ [a0, a1] H k = f83 p n a0 a1 H k := by
  rw [f83_raw]
  simp only [f83_l0_eq]
  rfl

/-! 51 loop.example/g00480/laws.eqIntS -/
noncomputable def f51_l0 (p : Pr β) (n : Nat)  (k : AV → Heap → Option β) : Nat → AV → AV → AV → Heap → Option β
  | 0, _, _, _, _ => none
  | m + 1, t0, t1, t5, H => p.len t0 fun t13 =>
      p.bin .lss t5 t13 fun t14 =>
      p.cond t14
      (p.iadr 1 t0 t5 fun t19 =>
      p.load false 1 t19 H fun t20 =>
      p.iadr 1 t1 t5 fun t23 =>
      p.load false 1 t23 H fun t24 =>
      p.bin .neq t20 t24 fun t25 =>
      p.cond t25
      (k (.sc (.bool false)) H)
      (p.bin .add t5 (.sc (.int .i64 1)) fun t16 =>
      f51_l0 p n  k m t0 t1 t16 H))
      (k (.sc (.bool true)) H)
noncomputable def f51 (p : Pr β) (n : Nat) (a0 a1 : AV) (H : Heap) (k : AV → Heap → Option β) : Option β :=
  p.len a0 fun t7 =>
  p.len a1 fun t9 =>
  p.bin .neq t7 t9 fun t10 =>
  p.cond t10
  (k (.sc (.bool false)) H)
  (f51_l0 p n  k n a0 a1 (.sc (.int .i64 0)) H)
noncomputable def f51_L0 (p : Pr β) (n : Nat)  (k : AV → Heap → Option β) (m : Nat) (tm : Tm) (H : Heap) : Option β :=
  iterC 26 (fun tm H k => evalCode ti0 p o51 26 n (cd c51 [1, 1, 0, 1, 0, 0]) tm H k) (blkK 0 (seqK (fun tm H => evalCode ti0 p o51 26 n (cd c51 [1, 1, 1]) tm H (endK ti0 p Go.Proofs.Tryd.f51.results.toList k)) (endK ti0 p Go.Proofs.Tryd.f51.results.toList k))) m tm H
theorem f51_L0_step (p : Pr β) (n : Nat)  (k : AV → Heap → Option β) (m0 : Nat) (t0 t1 t2 t3 t4 t5 t6 t7 t8 t9 t10 t11 t12 t13 t14 t15 t16 t17 t18 t19 t20 t21 t22 t23 t24 t25 : AV) (H : Heap) : f51_L0 p n  k (m0 + 1) [(0, t0), (1, t1), (2, t2), (3, t3), (4, t4), (5, t5), (6, t6), (7, t7), (8, t8), (9, t9), (10, t10), (11, t11), (12, t12), (13, t13), (14, t14), (15, t15), (16, t16), (17, t17), (18, t18), (19, t19), (20, t20), (21, t21), (22, t22), (23, t23), (24, t24), (25, t25)] H =
  p.len t0 fun t13 =>
  p.bin .lss t5 t13 fun t14 =>
  p.cond t14
  (p.iadr 1 t0 t5 fun t19 =>
  p.load false 1 t19 H fun t20 =>
  p.iadr 1 t1 t5 fun t23 =>
  p.load false 1 t23 H fun t24 =>
  p.bin .neq t20 t24 fun t25 =>
  p.cond t25
  (k (.sc (.bool false)) H)
  (p.bin .add t5 (.sc (.int .i64 1)) fun t16 =>
  f51_L0 p n  k m0 [(0, t0), (1, t1), (2, t2), (3, t3), (4, t4), (5, t16), (6, t6), (7, t7), (8, t8), (9, t9), (10, t10), (11, t5), (12, t0), (13, t13), (14, t14), (15, t5), (16, t16), (17, t0), (18, t5), (19, t19), (20, t20), (21, t1), (22, t5), (23, t23), (24, t24), (25, t25)] H))
  (k (.sc (.bool true)) H) := by kernel_rfl
theorem f51_l0_eq (p : Pr β) (n : Nat)  (k : AV → Heap → Option β)   (m0 : Nat) : ∀ (t0 t1 t2 t3 t4 t5 t6 t7 t8 t9 t10 t11 t12 t13 t14 t15 t16 t17 t18 t19 t20 t21 t22 t23 t24 t25 : AV) (H : Heap), f51_L0 p n  k m0 [(0, t0), (1, t1), (2, t2), (3, t3), (4, t4), (5, t5), (6, t6), (7, t7), (8, t8), (9, t9), (10, t10), (11, t11), (12, t12), (13, t13), (14, t14), (15, t15), (16, t16), (17, t17), (18, t18), (19, t19), (20, t20), (21, t21), (22, t22), (23, t23), (24, t24), (25, t25)] H = f51_l0 p n  k m0 t0 t1 t5 H := by
  induction m0 with
  | zero => intros; rfl
  | succ m0 ih =>
    intro t0 t1 t2 t3 t4 t5 t6 t7 t8 t9 t10 t11 t12 t13 t14 t15 t16 t17 t18 t19 t20 t21 t22 t23 t24 t25 H
    rw [f51_L0_step]
    simp only [ih]
    rfl
theorem f51_raw (p : Pr β) (n : Nat) (a0 a1 : AV) (H : Heap) (k : AV → Heap → Option β) : evalBody ti0 p n ⟨c51, 26, Go.Proofs.Tryd.f51.results.toList, o51⟩ [a0, a1] H k =
  p.len a0 fun t7 =>
  p.len a1 fun t9 =>
  p.bin .neq t7 t9 fun t10 =>
  p.cond t10
  (k (.sc (.bool false)) H)
  (f51_L0 p n  k n [(0, a0), (1, a1), (2, (.sc undef)), (3, (.sc undef)), (4, (.sc (.bool false))), (5, (.sc (.int .i64 0))), (6, a0), (7, t7), (8, a1), (9, t9), (10, t10), (11, (.sc undef)), (12, (.sc undef)), (13, (.sc undef)), (14, (.sc undef)), (15, (.sc undef)), (16, (.sc undef)), (17, (.sc undef)), (18, (.sc undef)), (19, (.sc undef)), (20, (.sc undef)), (21, (.sc undef)), (22, (.sc undef)), (23, (.sc undef)), (24, (.sc undef)), (25, (.sc undef))] H) := by kernel_rfl
theorem f51_body (p : Pr β) (n : Nat) (a0 a1 : AV) (H : Heap) (k : AV → Heap → Option β) : evalBody ti0 p n ⟨c51, 26, Go.Proofs.Tryd.f51.results.toList, o51⟩ [a0, a1] H k = f51 p n a0 a1 H k := by
  rw [f51_raw]
  simp only [f51_l0_eq]
  rfl

/-! 49 loop.example/g00480/laws.eqPacket -/
noncomputable def f49 (p : Pr β) (n : Nat) (a0 a1 : AV) (H : Heap) (k : AV → Heap → Option β) : Option β :=
  p.box a0 H fun t2 H =>
  p.box a1 H fun t3 H =>
  p.fadr 0 t2 fun t5 =>
  p.load false 1 t5 H fun t6 =>
  p.fadr 0 t3 fun t7 =>
  p.load false 1 t7 H fun t8 =>
  p.bin .neq t6 t8 fun t9 =>
  p.cond t9
  (k (.sc (.bool false)) H)
  (p.fadr 1 t2 fun t10 =>
  p.load false 1 t10 H fun t11 =>
  p.fadr 1 t3 fun t12 =>
  p.load false 1 t12 H fun t13 =>
  p.binB .neq t11 t13 fun t14 =>
  p.cond t14
  (k (.sc (.bool false)) H)
  (p.fadr 2 t2 fun t15 =>
  p.load false 1 t15 H fun t16 =>
  p.fadr 2 t3 fun t17 =>
  p.load false 1 t17 H fun t18 =>
  p.bin .neq t16 t18 fun t19 =>
  p.cond t19
  (k (.sc (.bool false)) H)
  (p.fadr 3 t2 fun t20 =>
  p.load false 1 t20 H fun t21 =>
  p.fadr 3 t3 fun t22 =>
  p.load false 1 t22 H fun t23 =>
  p.binB .neq t21 t23 fun t24 =>
  p.cond t24
  (k (.sc (.bool false)) H)
  (p.fadr 4 t2 fun t25 =>
  p.load false 1 t25 H fun t26 =>
  p.fadr 4 t3 fun t27 =>
  p.load false 1 t27 H fun t28 =>
  p.bin .neq t26 t28 fun t29 =>
  p.cond t29
  (k (.sc (.bool false)) H)
  (p.fadr 5 t2 fun t30 =>
  p.load false 1 t30 H fun t31 =>
  p.fadr 5 t3 fun t32 =>
  p.load false 1 t32 H fun t33 =>
  p.bin .neq t31 t33 fun t34 =>
  p.cond t34
  (k (.sc (.bool false)) H)
  (p.fadr 6 t2 fun t35 =>
  p.load false 1 t35 H fun t36 =>
  p.fadr 6 t3 fun t37 =>
  p.load false 1 t37 H fun t38 =>
  p.call 4 (.fn 38 [] []) [t36, t38] H fun t39 H =>
  p.un .not t39 fun t40 =>
  p.cond t40
  (k (.sc (.bool false)) H)
  (p.fadr 7 t2 fun t41 =>
  p.load false 1 t41 H fun t42 =>
  p.fadr 7 t3 fun t43 =>
  p.load false 1 t43 H fun t44 =>
  p.bin .neq t42 t44 fun t45 =>
  p.cond t45
  (k (.sc (.bool false)) H)
  (p.fadr 8 t2 fun t46 =>
  p.load false 1 t46 H fun t47 =>
  p.fadr 8 t3 fun t48 =>
  p.load false 1 t48 H fun t49 =>
  p.bin .neq t47 t49 fun t50 =>
  p.cond t50
  (k (.sc (.bool false)) H)
  (p.fadr 9 t2 fun t51 =>
  p.load false 1 t51 H fun t52 =>
  p.fadr 9 t3 fun t53 =>
  p.load false 1 t53 H fun t54 =>
  p.binB .neq t52 t54 fun t55 =>
  p.cond t55
  (k (.sc (.bool false)) H)
  (p.fadr 10 t2 fun t56 =>
  p.load false 1 t56 H fun t57 =>
  p.fadr 10 t3 fun t58 =>
  p.load false 1 t58 H fun t59 =>
  p.bin .neq t57 t59 fun t60 =>
  p.cond t60
  (k (.sc (.bool false)) H)
  (p.fadr 11 t2 fun t61 =>
  p.load false 1 t61 H fun t62 =>
  p.fadr 11 t3 fun t63 =>
  p.load false 1 t63 H fun t64 =>
  p.binB .neq t62 t64 fun t65 =>
  p.cond t65
  (k (.sc (.bool false)) H)
  (p.fadr 12 t2 fun t66 =>
  p.load false 1 t66 H fun t67 =>
  p.fadr 12 t3 fun t68 =>
  p.load false 1 t68 H fun t69 =>
  p.bin .neq t67 t69 fun t70 =>
  p.cond t70
  (k (.sc (.bool false)) H)
  (p.fadr 13 t2 fun t71 =>
  p.load false 1 t71 H fun t72 =>
  p.fadr 13 t3 fun t73 =>
  p.load false 1 t73 H fun t74 =>
  p.call 4 (.fn 38 [] []) [t72, t74] H fun t75 H =>
  p.un .not t75 fun t76 =>
  p.cond t76
  (k (.sc (.bool false)) H)
  (p.fadr 14 t2 fun t77 =>
  p.load false 1 t77 H fun t78 =>
  p.fadr 14 t3 fun t79 =>
  p.load false 1 t79 H fun t80 =>
  p.bin .neq t78 t80 fun t81 =>
  p.cond t81
  (k (.sc (.bool false)) H)
  (p.fadr 15 t2 fun t82 =>
  p.load false 1 t82 H fun t83 =>
  p.fadr 15 t3 fun t84 =>
  p.load false 1 t84 H fun t85 =>
  p.binB .neq t83 t85 fun t86 =>
  p.cond t86
  (k (.sc (.bool false)) H)
  (p.fadr 16 t2 fun t87 =>
  p.load false 1 t87 H fun t88 =>
  p.fadr 16 t3 fun t89 =>
  p.load false 1 t89 H fun t90 =>
  p.binB .neq t88 t90 fun t91 =>
  p.cond t91
  (k (.sc (.bool false)) H)
  (p.fadr 17 t2 fun t92 =>
  p.load false 1 t92 H fun t93 =>
  p.fadr 17 t3 fun t94 =>
  p.load false 1 t94 H fun t95 =>
  p.bin .neq t93 t95 fun t96 =>
  p.cond t96
  (k (.sc (.bool false)) H)
  (p.fadr 18 t2 fun t97 =>
  p.load false 1 t97 H fun t98 =>
  p.fadr 18 t3 fun t99 =>
  p.load false 1 t99 H fun t100 =>
  p.binB .neq t98 t100 fun t101 =>
  p.cond t101
  (k (.sc (.bool false)) H)
  (p.fadr 19 t2 fun t102 =>
  p.load false 1 t102 H fun t103 =>
  p.fadr 19 t3 fun t104 =>
  p.load false 1 t104 H fun t105 =>
  p.call 4 (.fn 38 [] []) [t103, t105] H fun t106 H =>
  p.un .not t106 fun t107 =>
  p.cond t107
  (k (.sc (.bool false)) H)
  (p.fadr 20 t2 fun t108 =>
  p.load false 1 t108 H fun t109 =>
  p.fadr 20 t3 fun t110 =>
  p.load false 1 t110 H fun t111 =>
  p.bin .neq t109 t111 fun t112 =>
  p.cond t112
  (k (.sc (.bool false)) H)
  (p.fadr 21 t2 fun t113 =>
  p.load false 1 t113 H fun t114 =>
  p.fadr 21 t3 fun t115 =>
  p.load false 1 t115 H fun t116 =>
  p.binB .neq t114 t116 fun t117 =>
  p.cond t117
  (k (.sc (.bool false)) H)
  (p.fadr 22 t2 fun t118 =>
  p.load false 1 t118 H fun t119 =>
  p.fadr 22 t3 fun t120 =>
  p.load false 1 t120 H fun t121 =>
  p.call 4 (.fn 82 [] []) [t119, t121] H fun t122 H =>
  p.un .not t122 fun t123 =>
  p.cond t123
  (k (.sc (.bool false)) H)
  (p.fadr 23 t2 fun t124 =>
  p.load false 1 t124 H fun t125 =>
  p.fadr 23 t3 fun t126 =>
  p.load false 1 t126 H fun t127 =>
  p.call 4 (.fn 83 [] []) [t125, t127] H fun t128 H =>
  p.un .not t128 fun t129 =>
  p.cond t129
  (k (.sc (.bool false)) H)
  (p.fadr 24 t2 fun t130 =>
  p.load false 1 t130 H fun t131 =>
  p.fadr 24 t3 fun t132 =>
  p.load false 1 t132 H fun t133 =>
  p.call 4 (.fn 51 [] []) [t131, t133] H fun t134 H =>
  p.un .not t134 fun t135 =>
  p.cond t135
  (k (.sc (.bool false)) H)
  (k (.sc (.bool true)) H)))))))))))))))))))))))))
theorem f49_body (p : Pr β) (n : Nat) (a0 a1 : AV) (H : Heap) (k : AV → Heap → Option β) : evalBody ti0 p n ⟨c49, 136, Go.Proofs.Tryd.f49.results.toList, o49⟩ [a0, a1] H k = f49 p n a0 a1 H k := by kernel_rfl

/-! 84 loop.example/g00480/laws.eqSub -/
noncomputable def f84 (p : Pr β) (n : Nat) (a0 a1 : AV) (H : Heap) (k : AV → Heap → Option β) : Option β :=
  p.box a0 H fun t2 H =>
  p.box a1 H fun t3 H =>
  p.fadr 0 t2 fun t5 =>
  p.load false 1 t5 H fun t6 =>
  p.fadr 0 t3 fun t7 =>
  p.load false 1 t7 H fun t8 =>
  p.bin .neq t6 t8 fun t9 =>
  p.cond t9
  (k (.sc (.bool false)) H)
  (p.fadr 1 t2 fun t10 =>
  p.load false 1 t10 H fun t11 =>
  p.fadr 1 t3 fun t12 =>
  p.load false 1 t12 H fun t13 =>
  p.bin .neq t11 t13 fun t14 =>
  p.cond t14
  (k (.sc (.bool false)) H)
  (p.fadr 2 t2 fun t15 =>
  p.load false 1 t15 H fun t16 =>
  p.fadr 2 t3 fun t17 =>
  p.load false 1 t17 H fun t18 =>
  p.bin .neq t16 t18 fun t19 =>
  p.cond t19
  (k (.sc (.bool false)) H)
  (k (.sc (.bool true)) H)))
theorem f84_body (p : Pr β) (n : Nat) (a0 a1 : AV) (H : Heap) (k : AV → Heap → Option β) : evalBody ti0 p n ⟨c84, 20, Go.Proofs.Tryd.f84.results.toList, o84⟩ [a0, a1] H k = f84 p n a0 a1 H k := by kernel_rfl

/-! 50 loop.example/g00480/laws.eqSubS -/
noncomputable def f50_l0 (p : Pr β) (n : Nat)  (k : AV → Heap → Option β) : Nat → AV → AV → AV → Heap → Option β
  | 0, _, _, _, _ => none
  | m + 1, t0, t1, t5, H => p.len t0 fun t13 =>
      p.bin .lss t5 t13 fun t14 =>
      p.cond t14
      (p.iadr 3 t0 t5 fun t19 =>
      p.load true 3 t19 H fun t20 =>
      p.iadr 3 t1 t5 fun t23 =>
      p.load true 3 t23 H fun t24 =>
      p.call 4 (.fn 84 [] []) [t20, t24] H fun t25 H =>
      p.un .not t25 fun t26 =>
      p.cond t26
      (k (.sc (.bool false)) H)
      (p.bin .add t5 (.sc (.int .i64 1)) fun t16 =>
      f50_l0 p n  k m t0 t1 t16 H))
      (k (.sc (.bool true)) H)
noncomputable def f50 (p : Pr β) (n : Nat) (a0 a1 : AV) (H : Heap) (k : AV → Heap → Option β) : Option β :=
  p.len a0 fun t7 =>
  p.len a1 fun t9 =>
  p.bin .neq t7 t9 fun t10 =>
  p.cond t10
  (k (.sc (.bool false)) H)
  (f50_l0 p n  k n a0 a1 (.sc (.int .i64 0)) H)
noncomputable def f50_L0 (p : Pr β) (n : Nat)  (k : AV → Heap → Option β) (m : Nat) (tm : Tm) (H : Heap) : Option β :=
  iterC 27 (fun tm H k => evalCode ti0 p o50 27 n (cd c50 [1, 1, 0, 1, 0, 0]) tm H k) (blkK 0 (seqK (fun tm H => evalCode ti0 p o50 27 n (cd c50 [1, 1, 1]) tm H (endK ti0 p Go.Proofs.Tryd.f50.results.toList k)) (endK ti0 p Go.Proofs.Tryd.f50.results.toList k))) m tm H
theorem f50_L0_step (p : Pr β) (n : Nat)  (k : AV → Heap → Option β) (m0 : Nat) (t0 t1 t2 t3 t4 t5 t6 t7 t8 t9 t10 t11 t12 t13 t14 t15 t16 t17 t18 t19 t20 t21 t22 t23 t24 t25 t26 : AV) (H : Heap) : f50_L0 p n  k (m0 + 1) [(0, t0), (1, t1), (2, t2), (3, t3), (4, t4), (5, t5), (6, t6), (7, t7), (8, t8), (9, t9), (10, t10), (11, t11), (12, t12), (13, t13), (14, t14), (15, t15), (16, t16), (17, t17), (18, t18), (19, t19), (20, t20), (21, t21), (22, t22), (23, t23), (24, t24), (25, t25), (26, t26)] H =
  p.len t0 fun t13 =>
  p.bin .lss t5 t13 fun t14 =>
  p.cond t14
  (p.iadr 3 t0 t5 fun t19 =>
  p.load true 3 t19 H fun t20 =>
  p.iadr 3 t1 t5 fun t23 =>
  p.load true 3 t23 H fun t24 =>
  p.call 4 (.fn 84 [] []) [t20, t24] H fun t25 H =>
  p.un .not t25 fun t26 =>
  p.cond t26
  (k (.sc (.bool false)) H)
  (p.bin .add t5 (.sc (.int .i64 1)) fun t16 =>
  f50_L0 p n  k m0 [(0, t0), (1, t1), (2, t2), (3, t3), (4, t4), (5, t16), (6, t6), (7, t7), (8, t8), (9, t9), (10, t10), (11, t5), (12, t0), (13, t13), (14, t14), (15, t5), (16, t16), (17, t0), (18, t5), (19, t19), (20, t20), (21, t1), (22, t5), (23, t23), (24, t24), (25, t25), (26, t26)] H))
  (k (.sc (.bool true)) H) := by kernel_rfl
theorem f50_l0_eq (p : Pr β) (n : Nat)  (k : AV → Heap → Option β)   (m0 : Nat) : ∀ (t0 t1 t2 t3 t4 t5 t6 t7 t8 t9 t10 t11 t12 t13 t14 t15 t16 t17 t18 t19 t20 t21 t22 t23 t24 t25 t26 : AV) (H : Heap), f50_L0 p n  k m0 [(0, t0), (1, t1), (2, t2), (3, t3), (4, t4), (5, t5), (6, t6), (7, t7), (8, t8), (9, t9), (10, t10), (11, t11), (12, t12), (13, t13), (14, t14), (15, t15), (16, t16), (17, t17), (18, t18), (19, t19), (20, t20), (21, t21), (22, t22), (23, t23), (24, t24), (25, t25), (26, t26)] H = f50_l0 p n  k m0 t0 t1 t5 H := by
  induction m0 with
  | zero => intros; rfl
  | succ m0 ih =>
    intro t0 t1 t2 t3 t4 t5 t6 t7 t8 t9 t10 t11 t12 t13 t14 t15 t16 t17 t18 t19 t20 t21 t22 t23 t24 t25 t26 H
    rw [f50_L0_step]
    simp only [ih]
    rfl
theorem f50_raw (p : Pr β) (n : Nat) (a0 a1 : AV) (H : Heap) (k : AV → Heap → Option β) : evalBody ti0 p n ⟨c50, 27, Go.Proofs.Tryd.f50.results.toList, o50⟩ [a0, a1] H k =
  p.len a0 fun t7 =>
  p.len a1 fun t9 =>
  p.bin .neq t7 t9 fun t10 =>
  p.cond t10
  (k (.sc (.bool false)) H)
  (f50_L0 p n  k n [(0, a0), (1, a1), (2, (.sc undef)), (3, (.sc undef)), (4, (.sc (.bool false))), (5, (.sc (.int .i64 0))), (6, a0), (7, t7), (8, a1), (9, t9), (10, t10), (11, (.sc undef)), (12, (.sc undef)), (13, (.sc undef)), (14, (.sc undef)), (15, (.sc undef)), (16, (.sc undef)), (17, (.sc undef)), (18, (.sc undef)), (19, (.sc undef)), (20, (.sc undef)), (21, (.sc undef)), (22, (.sc undef)), (23, (.sc undef)), (24, (.sc undef)), (25, (.sc undef)), (26, (.sc undef))] H) := by kernel_rfl
theorem f50_body (p : Pr β) (n : Nat) (a0 a1 : AV) (H : Heap) (k : AV → Heap → Option β) : evalBody ti0 p n ⟨c50, 27, Go.Proofs.Tryd.f50.results.toList, o50⟩ [a0, a1] H k = f50 p n a0 a1 H k := by
  rw [f50_raw]
  simp only [f50_l0_eq]
  rfl

/-! 11 loop.example/g00480/laws.eqMsg -/
noncomputable def f11 (p : Pr β) (n : Nat) (a0 a1 : AV) (H : Heap) (k : AV → Heap → Option β) : Option β :=
  p.box a0 H fun t2 H =>
  p.box a1 H fun t3 H =>
  p.fadr 0 t2 fun t5 =>
  p.load false 1 t5 H fun t6 =>
  p.fadr 0 t3 fun t7 =>
  p.load false 1 t7 H fun t8 =>
  p.bin .neq t6 t8 fun t9 =>
  p.cond t9
  (k (.sc (.bool false)) H)
  (p.fadr 1 t2 fun t10 =>
  p.load false 1 t10 H fun t11 =>
  p.fadr 1 t3 fun t12 =>
  p.load false 1 t12 H fun t13 =>
  p.call 4 (.fn 38 [] []) [t11, t13] H fun t14 H =>
  p.un .not t14 fun t15 =>
  p.cond t15
  (k (.sc (.bool false)) H)
  (p.fadr 2 t2 fun t16 =>
  p.load false 1 t16 H fun t17 =>
  p.fadr 2 t3 fun t18 =>
  p.load false 1 t18 H fun t19 =>
  p.bin .neq t17 t19 fun t20 =>
  p.cond t20
  (k (.sc (.bool false)) H)
  (p.fadr 3 t2 fun t21 =>
  p.load false 1 t21 H fun t22 =>
  p.fadr 3 t3 fun t23 =>
  p.load false 1 t23 H fun t24 =>
  p.binB .neq t22 t24 fun t25 =>
  p.cond t25
  (k (.sc (.bool false)) H)
  (k (.sc (.bool true)) H))))
theorem f11_body (p : Pr β) (n : Nat) (a0 a1 : AV) (H : Heap) (k : AV → Heap → Option β) : evalBody ti0 p n ⟨c11, 26, Go.Proofs.Tryd.f11.results.toList, o11⟩ [a0, a1] H k = f11 p n a0 a1 H k := by kernel_rfl

/-! 16 loop.example/g00480/laws.eqMsgS -/
noncomputable def f16_l0 (p : Pr β) (n : Nat)  (k : AV → Heap → Option β) : Nat → AV → AV → AV → Heap → Option β
  | 0, _, _, _, _ => none
  | m + 1, t0, t1, t5, H => p.len t0 fun t13 =>
      p.bin .lss t5 t13 fun t14 =>
      p.cond t14
      (p.iadr 4 t0 t5 fun t19 =>
      p.load true 4 t19 H fun t20 =>
      p.iadr 4 t1 t5 fun t23 =>
      p.load true 4 t23 H fun t24 =>
      p.call 4 (.fn 11 [] []) [t20, t24] H fun t25 H =>
      p.un .not t25 fun t26 =>
      p.cond t26
      (k (.sc (.bool false)) H)
      (p.bin .add t5 (.sc (.int .i64 1)) fun t16 =>
      f16_l0 p n  k m t0 t1 t16 H))
      (k (.sc (.bool true)) H)
noncomputable def f16 (p : Pr β) (n : Nat) (a0 a1 : AV) (H : Heap) (k : AV → Heap → Option β) : Option β :=
  p.len a0 fun t7 =>
  p.len a1 fun t9 =>
  p.bin .neq t7 t9 fun t10 =>
  p.cond t10
  (k (.sc (.bool false)) H)
  (f16_l0 p n  k n a0 a1 (.sc (.int .i64 0)) H)
noncomputable def f16_L0 (p : Pr β) (n : Nat)  (k : AV → Heap → Option β) (m : Nat) (tm : Tm) (H : Heap) : Option β :=
  iterC 27 (fun tm H k => evalCode ti0 p o16 27 n (cd c16 [1, 1, 0, 1, 0, 0]) tm H k) (blkK 0 (seqK (fun tm H => evalCode ti0 p o16 27 n (cd c16 [1, 1, 1]) tm H (endK ti0 p Go.Proofs.Tryd.f16.results.toList k)) (endK ti0 p Go.Proofs.Tryd.f16.results.toList k))) m tm H
theorem f16_L0_step (p : Pr β) (n : Nat)  (k : AV → Heap → Option β) (m0 : Nat) (t0 t1 t2 t3 t4 t5 t6 t7 t8 t9 t10 t11 t12 t13 t14 t15 t16 t17 t18 t19 t20 t21 t22 t23 t24 t25 t26 : AV) (H : Heap) : f16_L0 p n  k (m0 + 1) [(0, t0), (1, t1), (2, t2), (3, t3), (4, t4), (5, t5), (6, t6), (7, t7), (8, t8), (9, t9), (10, t10), (11, t11), (12, t12), (13, t13), (14, t14), (15, t15), (16, t16), (17, t17), (18, t18), (19, t19), (20, t20), (21, t21), (22, t22), (23, t23), (24, t24), (25, t25), (26, t26)] H =
  p.len t0 fun t13 =>
  p.bin .lss t5 t13 fun t14 =>
  p.cond t14
  (p.iadr 4 t0 t5 fun t19 =>
  p.load true 4 t19 H fun t20 =>
  p.iadr 4 t1 t5 fun t23 =>
  p.load true 4 t23 H fun t24 =>
  p.call 4 (.fn 11 [] []) [t20, t24] H fun t25 H =>
  p.un .not t25 fun t26 =>
  p.cond t26
  (k (.sc (.bool false)) H)
  (p.bin .add t5 (.sc (.int .i64 1)) fun t16 =>
  f16_L0 p n  k m0 [(0, t0), (1, t1), (2, t2), (3, t3), (4, t4), (5, t16), (6, t6), (7, t7), (8, t8), (9, t9), (10, t10), (11, t5), (12, t0), (13, t13), (14, t14), (15, t5), (16, t16), (17, t0), (18, t5), (19, t19), (20, t20), (21, t1), (22, t5), (23, t23), (24, t24), (25, t25), (26, t26)] H))
  (k (.sc (.bool true)) H) := by kernel_rfl
theorem f16_l0_eq (p : Pr β) (n : Nat)  (k : AV → Heap → Option β)   (m0 : Nat) : ∀ (t0 t1 t2 t3 t4 t5 t6 t7 t8 t9 t10 t11 t12 t13 t14 t15 t16 t17 t18 t19 t20 t21 t22 t23 t24 t25 t26 : AV) (H : Heap), f16_L0 p n  k m0 [(0, t0), (1, t1), (2, t2), (3, t3), (4, t4), (5, t5), (6, t6), (7, t7), (8, t8), (9, t9), (10, t10), (11, t11), (12, t12), (13, t13), (14, t14), (15, t15), (16, t16), (17, t17), (18, t18), (19, t19), (20, t20), (21, t21), (22, t22), (23, t23), (24, t24), (25, t25), (26, t26)] H = f16_l0 p n  k m0 t0 t1 t5 H := by
  induction m0 with
  | zero => intros; rfl
  | succ m0 ih =>
    intro t0 t1 t2 t3 t4 t5 t6 t7 t8 t9 t10 t11 t12 t13 t14 t15 t16 t17 t18 t19 t20 t21 t22 t23 t24 t25 t26 H
    rw [f16_L0_step]
    simp only [ih]
    rfl
theorem f16_raw (p : Pr β) (n : Nat) (a0 a1 : AV) (H : Heap) (k : AV → Heap → Option β) : evalBody ti0 p n ⟨c16, 27, Go.Proofs.Tryd.f16.results.toList, o16⟩ [a0, a1] H k =
  p.len a0 fun t7 =>
  p.len a1 fun t9 =>
  p.bin .neq t7 t9 fun t10 =>
  p.cond t10
  (k (.sc (.bool false)) H)
  (f16_L0 p n  k n [(0, a0), (1, a1), (2, (.sc undef)), (3, (.sc undef)), (4, (.sc (.bool false))), (5, (.sc (.int .i64 0))), (6, a0), (7, t7), (8, a1), (9, t9), (10, t10), (11, (.sc undef)), (12, (.sc undef)), (13, (.sc undef)), (14, (.sc undef)), (15, (.sc undef)), (16, (.sc undef)), (17, (.sc undef)), (18, (.sc undef)), (19, (.sc undef)), (20, (.sc undef)), (21, (.sc undef)), (22, (.sc undef)), (23, (.sc undef)), (24, (.sc undef)), (25, (.sc undef)), (26, (.sc undef))] H) := by kernel_rfl
theorem f16_body (p : Pr β) (n : Nat) (a0 a1 : AV) (H : Heap) (k : AV → Heap → Option β) : evalBody ti0 p n ⟨c16, 27, Go.Proofs.Tryd.f16.results.toList, o16⟩ [a0, a1] H k = f16 p n a0 a1 H k := by
  rw [f16_raw]
  simp only [f16_l0_eq]
  rfl

/-! 21 loop.example/g00480/laws.eqDeed -/
noncomputable def f21 (p : Pr β) (n : Nat) (a0 a1 : AV) (H : Heap) (k : AV → Heap → Option β) : Option β :=
  p.box a0 H fun t2 H =>
  p.box a1 H fun t3 H =>
  p.fadr 0 t2 fun t5 =>
  p.load false 1 t5 H fun t6 =>
  p.fadr 0 t3 fun t7 =>
  p.load false 1 t7 H fun t8 =>
  p.bin .neq t6 t8 fun t9 =>
  p.cond t9
  (k (.sc (.bool false)) H)
  (p.fadr 1 t2 fun t10 =>
  p.load false 1 t10 H fun t11 =>
  p.fadr 1 t3 fun t12 =>
  p.load false 1 t12 H fun t13 =>
  p.bin .neq t11 t13 fun t14 =>
  p.cond t14
  (k (.sc (.bool false)) H)
  (p.fadr 2 t2 fun t15 =>
  p.load false 1 t15 H fun t16 =>
  p.fadr 2 t3 fun t17 =>
  p.load false 1 t17 H fun t18 =>
  p.bin .neq t16 t18 fun t19 =>
  p.cond t19
  (k (.sc (.bool false)) H)
  (p.fadr 3 t2 fun t20 =>
  p.load false 1 t20 H fun t21 =>
  p.fadr 3 t3 fun t22 =>
  p.load false 1 t22 H fun t23 =>
  p.bin .neq t21 t23 fun t24 =>
  p.cond t24
  (k (.sc (.bool false)) H)
  (p.fadr 4 t2 fun t25 =>
  p.load true 25 t25 H fun t26 =>
  p.fadr 4 t3 fun t27 =>
  p.load true 25 t27 H fun t28 =>
  p.call 4 (.fn 49 [] []) [t26, t28] H fun t29 H =>
  p.un .not t29 fun t30 =>
  p.cond t30
  (k (.sc (.bool false)) H)
  (p.fadr 29 t2 fun t31 =>
  p.load false 1 t31 H fun t32 =>
  p.fadr 29 t3 fun t33 =>
  p.load false 1 t33 H fun t34 =>
  p.bin .neq t32 t34 fun t35 =>
  p.cond t35
  (k (.sc (.bool false)) H)
  (p.fadr 30 t2 fun t36 =>
  p.load false 1 t36 H fun t37 =>
  p.fadr 30 t3 fun t38 =>
  p.load false 1 t38 H fun t39 =>
  p.bin .neq t37 t39 fun t40 =>
  p.cond t40
  (k (.sc (.bool false)) H)
  (p.fadr 31 t2 fun t41 =>
  p.load false 1 t41 H fun t42 =>
  p.fadr 31 t3 fun t43 =>
  p.load false 1 t43 H fun t44 =>
  p.bin .neq t42 t44 fun t45 =>
  p.cond t45
  (k (.sc (.bool false)) H)
  (p.fadr 32 t2 fun t46 =>
  p.load false 1 t46 H fun t47 =>
  p.fadr 32 t3 fun t48 =>
  p.load false 1 t48 H fun t49 =>
  p.binB .neq t47 t49 fun t50 =>
  p.cond t50
  (k (.sc (.bool false)) H)
  (p.fadr 33 t2 fun t51 =>
  p.load false 1 t51 H fun t52 =>
  p.fadr 33 t3 fun t53 =>
  p.load false 1 t53 H fun t54 =>
  p.bin .neq t52 t54 fun t55 =>
  p.cond t55
  (k (.sc (.bool false)) H)
  (p.fadr 34 t2 fun t56 =>
  p.load false 1 t56 H fun t57 =>
  p.fadr 34 t3 fun t58 =>
  p.load false 1 t58 H fun t59 =>
  p.bin .neq t57 t59 fun t60 =>
  p.cond t60
  (k (.sc (.bool false)) H)
  (p.fadr 35 t2 fun t61 =>
  p.load false 1 t61 H fun t62 =>
  p.fadr 35 t3 fun t63 =>
  p.load false 1 t63 H fun t64 =>
  p.binB .neq t62 t64 fun t65 =>
  p.cond t65
  (k (.sc (.bool false)) H)
  (p.fadr 36 t2 fun t66 =>
  p.load false 1 t66 H fun t67 =>
  p.fadr 36 t3 fun t68 =>
  p.load false 1 t68 H fun t69 =>
  p.binB .neq t67 t69 fun t70 =>
  p.cond t70
  (k (.sc (.bool false)) H)
  (p.fadr 37 t2 fun t71 =>
  p.load false 1 t71 H fun t72 =>
  p.fadr 37 t3 fun t73 =>
  p.load false 1 t73 H fun t74 =>
  p.call 4 (.fn 50 [] []) [t72, t74] H fun t75 H =>
  p.un .not t75 fun t76 =>
  p.cond t76
  (k (.sc (.bool false)) H)
  (p.fadr 38 t2 fun t77 =>
  p.load false 1 t77 H fun t78 =>
  p.fadr 38 t3 fun t79 =>
  p.load false 1 t79 H fun t80 =>
  p.call 4 (.fn 51 [] []) [t78, t80] H fun t81 H =>
  p.un .not t81 fun t82 =>
  p.cond t82
  (k (.sc (.bool false)) H)
  (p.fadr 39 t2 fun t83 =>
  p.load false 1 t83 H fun t84 =>
  p.fadr 39 t3 fun t85 =>
  p.load false 1 t85 H fun t86 =>
  p.call 4 (.fn 16 [] []) [t84, t86] H fun t87 H =>
  p.un .not t87 fun t88 =>
  p.cond t88
  (k (.sc (.bool false)) H)
  (k (.sc (.bool true)) H))))))))))))))))
theorem f21_body (p : Pr β) (n : Nat) (a0 a1 : AV) (H : Heap) (k : AV → Heap → Option β) : evalBody ti0 p n ⟨c21, 89, Go.Proofs.Tryd.f21.results.toList, o21⟩ [a0, a1] H k = f21 p n a0 a1 H k := by kernel_rfl

/-! 5 loop.example/g00480/laws.FnExactDeedOk -/
noncomputable def f5 (p : Pr β) (n : Nat) (a0 : AV) (H : Heap) (k : AV → Heap → Option β) : Option β :=
  p.box a0 H fun t1 H =>
  p.load true 40 t1 H fun t7 =>
  p.call 3 (.fn 17 [] []) [t7, (.sc (.int .i64 1048576))] H fun t9 H =>
  p.bin .lss t9 (.sc (.int .i64 0)) fun t11 =>
  p.cond t11
  (k (.sc (.bool true)) H)
  (p.load true 40 t1 H fun t12 =>
  p.call 53 (.fn 19 [] []) [t12] H fun t13 H =>
  p.call 4 (.fn 18 [] []) [t13] H fun t14 H =>
  p.load true 40 t1 H fun t15 =>
  p.call 53 (.fn 19 [] []) [t15] H fun t16 H =>
  p.new [(.sc (.int .i64 0)), (.sc (.int .i64 0)), (.sc (.int .i64 0)), (.sc (.string ⟨#[]⟩)), (.sc (.int .i64 0)), (.sc (.bool false)), (.sc (.int .i64 0)), (.sc (.bool false)), (.sc (.int .i64 0)), (.sc (.string ⟨#[]⟩)), .nl, (.sc (.string ⟨#[]⟩)), (.sc (.int .i64 0)), (.sc (.bool false)), (.sc (.int .i64 0)), (.sc (.bool false)), (.sc (.string ⟨#[]⟩)), .nl, (.sc (.int .i64 0)), (.sc (.bool false)), (.sc (.bool false)), (.sc (.string ⟨#[]⟩)), (.sc (.bool false)), .nl, (.sc (.int .i64 0)), (.sc (.bool false)), .nl, .nl, .nl, (.sc (.int .i64 0)), (.sc (.int .i64 0)), (.sc (.int .i64 0)), (.sc (.bool false)), (.sc (.int .i64 0)), (.sc (.int .i64 0)), (.sc (.bool false)), (.sc (.bool false)), .nl, .nl, .nl] H fun t5 H =>
  p.store 40 t5 t16 H fun H =>
  p.load true 40 t5 H fun t17 =>
  p.call 4 (.fn 20 [] []) [t17] H fun t18 H =>
  p.binB .neq t18 t14 fun t21 =>
  p.cond t21
  (k (.sc (.bool false)) H)
  (p.load true 40 t5 H fun t22 =>
  p.load true 40 t1 H fun t23 =>
  p.call 53 (.fn 19 [] []) [t23] H fun t24 H =>
  p.call 4 (.fn 21 [] []) [t22, t24] H fun t25 H =>
  p.un .not t25 fun t26 =>
  p.cond t26
  (k (.sc (.bool false)) H)
  (k (.sc (.bool true)) H)))
theorem f5_body (p : Pr β) (n : Nat) (a0 : AV) (H : Heap) (k : AV → Heap → Option β) : evalBody ti0 p n ⟨c5, 27, Go.Proofs.Tryd.f5.results.toList, o5⟩ [a0] H k = f5 p n a0 H k := by kernel_rfl

noncomputable def fss : List (Option FnI) := [none, none, none, none, none, some ⟨c5, 27, Go.Proofs.Tryd.f5.results.toList, o5⟩, none, some ⟨c7, 19, Go.Proofs.Tryd.f7.results.toList, o7⟩, none, some ⟨c9, 18, Go.Proofs.Tryd.f9.results.toList, o9⟩, none, some ⟨c11, 26, Go.Proofs.Tryd.f11.results.toList, o11⟩, some ⟨c12, 27, Go.Proofs.Tryd.f12.results.toList, o12⟩, none, some ⟨c14, 23, Go.Proofs.Tryd.f14.results.toList, o14⟩, none, some ⟨c16, 27, Go.Proofs.Tryd.f16.results.toList, o16⟩, some ⟨c17, 37, Go.Proofs.Tryd.f17.results.toList, o17⟩, some ⟨c18, 84, Go.Proofs.Tryd.f18.results.toList, o18⟩, some ⟨c19, 57, Go.Proofs.Tryd.f19.results.toList, o19⟩, some ⟨c20, 89, Go.Proofs.Tryd.f20.results.toList, o20⟩, some ⟨c21, 89, Go.Proofs.Tryd.f21.results.toList, o21⟩, none, none, none, none, none, none, none, none, none, none, some ⟨c32, 12, Go.Proofs.Tryd.f32.results.toList, o32⟩, none, some ⟨c34, 15, Go.Proofs.Tryd.f34.results.toList, o34⟩, some ⟨c35, 22, Go.Proofs.Tryd.f35.results.toList, o35⟩, none, none, some ⟨c38, 26, Go.Proofs.Tryd.f38.results.toList, o38⟩, none, some ⟨c40, 70, Go.Proofs.Tryd.f40.results.toList, o40⟩, some ⟨c41, 27, Go.Proofs.Tryd.f41.results.toList, o41⟩, some ⟨c42, 12, Go.Proofs.Tryd.f42.results.toList, o42⟩, some ⟨c43, 6, Go.Proofs.Tryd.f43.results.toList, o43⟩, some ⟨c44, 86, Go.Proofs.Tryd.f44.results.toList, o44⟩, some ⟨c45, 23, Go.Proofs.Tryd.f45.results.toList, o45⟩, some ⟨c46, 22, Go.Proofs.Tryd.f46.results.toList, o46⟩, some ⟨c47, 15, Go.Proofs.Tryd.f47.results.toList, o47⟩, none, some ⟨c49, 136, Go.Proofs.Tryd.f49.results.toList, o49⟩, some ⟨c50, 27, Go.Proofs.Tryd.f50.results.toList, o50⟩, some ⟨c51, 26, Go.Proofs.Tryd.f51.results.toList, o51⟩, none, none, none, none, none, none, none, none, none, none, none, none, none, none, none, none, none, none, none, none, none, none, some ⟨c74, 27, Go.Proofs.Tryd.f74.results.toList, o74⟩, some ⟨c75, 28, Go.Proofs.Tryd.f75.results.toList, o75⟩, some ⟨c76, 13, Go.Proofs.Tryd.f76.results.toList, o76⟩, some ⟨c77, 35, Go.Proofs.Tryd.f77.results.toList, o77⟩, some ⟨c78, 23, Go.Proofs.Tryd.f78.results.toList, o78⟩, some ⟨c79, 22, Go.Proofs.Tryd.f79.results.toList, o79⟩, some ⟨c80, 14, Go.Proofs.Tryd.f80.results.toList, o80⟩, none, some ⟨c82, 27, Go.Proofs.Tryd.f82.results.toList, o82⟩, some ⟨c83, 26, Go.Proofs.Tryd.f83.results.toList, o83⟩, some ⟨c84, 20, Go.Proofs.Tryd.f84.results.toList, o84⟩, none, none, none, none, none, none, none, none, none, none, none, none, none, none, none, none, none, none, none, none, some ⟨c105, 13, Go.Proofs.Tryd.f105.results.toList, o105⟩, some ⟨c106, 104, Go.Proofs.Tryd.f106.results.toList, o106⟩, some ⟨c107, 11, Go.Proofs.Tryd.f107.results.toList, o107⟩, none, some ⟨c109, 15, Go.Proofs.Tryd.f109.results.toList, o109⟩]
noncomputable def tps : List (Nat × List Nat) := [(61, [53, 53]), (121, [3, 3, 4]), (139, [138, 4]), (149, [21, 3]), (152, [151, 151])]
noncomputable def E0 : Env := { ti := ti0, tp := fun t => ordOf tps t, fs := fun f => (fss[f]?).getD none, ext := fun f => if Nat.beq f 48 then some ext48 else none, hm := fun f => [119, 148, 149, 150, 151, 152].contains f }
noncomputable def PR (n : Nat) (β : Type) : Pr β := prims E0 (evalFn E0 n) β
theorem f32_eq (n : Nat) (a0 a1 : AV) (H : Heap) (k : AV → Heap → Option β) : evalFn E0 (n + 1) β 32 [a0, a1] H k = f32 (PR n β) n a0 a1 H k := f32_body (PR n β) n a0 a1 H k
theorem f105_eq (n : Nat) (a0 a1 : AV) (H : Heap) (k : AV → Heap → Option β) : evalFn E0 (n + 1) β 105 [a0, a1] H k = f105 (PR n β) n a0 a1 H k := f105_body (PR n β) n a0 a1 H k
theorem f74_eq (n : Nat) (a0 a1 : AV) (H : Heap) (k : AV → Heap → Option β) : evalFn E0 (n + 1) β 74 [a0, a1] H k = f74 (PR n β) n a0 a1 H k := f74_body (PR n β) n a0 a1 H k
theorem f75_eq (n : Nat) (a0 a1 : AV) (H : Heap) (k : AV → Heap → Option β) : evalFn E0 (n + 1) β 75 [a0, a1] H k = f75 (PR n β) n a0 a1 H k := f75_body (PR n β) n a0 a1 H k
theorem f42_eq (n : Nat) (a0 a1 : AV) (H : Heap) (k : AV → Heap → Option β) : evalFn E0 (n + 1) β 42 [a0, a1] H k = f42 (PR n β) n a0 a1 H k := f42_body (PR n β) n a0 a1 H k
theorem f40_eq (n : Nat) (a0 a1 : AV) (H : Heap) (k : AV → Heap → Option β) : evalFn E0 (n + 1) β 40 [a0, a1] H k = f40 (PR n β) n a0 a1 H k := f40_body (PR n β) n a0 a1 H k
theorem f76_eq (n : Nat) (a0 a1 : AV) (H : Heap) (k : AV → Heap → Option β) : evalFn E0 (n + 1) β 76 [a0, a1] H k = f76 (PR n β) n a0 a1 H k := f76_body (PR n β) n a0 a1 H k
theorem f41_eq (n : Nat) (a0 a1 : AV) (H : Heap) (k : AV → Heap → Option β) : evalFn E0 (n + 1) β 41 [a0, a1] H k = f41 (PR n β) n a0 a1 H k := f41_body (PR n β) n a0 a1 H k
theorem f7_eq (n : Nat) (a0 a1 : AV) (H : Heap) (k : AV → Heap → Option β) : evalFn E0 (n + 1) β 7 [a0, a1] H k = f7 (PR n β) n a0 a1 H k := f7_body (PR n β) n a0 a1 H k
theorem f12_eq (n : Nat) (a0 a1 : AV) (H : Heap) (k : AV → Heap → Option β) : evalFn E0 (n + 1) β 12 [a0, a1] H k = f12 (PR n β) n a0 a1 H k := f12_body (PR n β) n a0 a1 H k
theorem f17_eq (n : Nat) (a0 a1 : AV) (H : Heap) (k : AV → Heap → Option β) : evalFn E0 (n + 1) β 17 [a0, a1] H k = f17 (PR n β) n a0 a1 H k := f17_body (PR n β) n a0 a1 H k
theorem f35_eq (n : Nat) (a0 : AV) (H : Heap) (k : AV → Heap → Option β) : evalFn E0 (n + 1) β 35 [a0] H k = f35 (PR n β) n a0 H k := f35_body (PR n β) n a0 H k
theorem f107_eq (n : Nat) (a0 : AV) (H : Heap) (k : AV → Heap → Option β) : evalFn E0 (n + 1) β 107 [a0] H k = f107 (PR n β) n a0 H k := f107_body (PR n β) n a0 H k
theorem f78_eq (n : Nat) (a0 : AV) (H : Heap) (k : AV → Heap → Option β) : evalFn E0 (n + 1) β 78 [a0] H k = f78 (PR n β) n a0 H k := f78_body (PR n β) n a0 H k
theorem f79_eq (n : Nat) (a0 : AV) (H : Heap) (k : AV → Heap → Option β) : evalFn E0 (n + 1) β 79 [a0] H k = f79 (PR n β) n a0 H k := f79_body (PR n β) n a0 H k
theorem f46_eq (n : Nat) (a0 : AV) (H : Heap) (k : AV → Heap → Option β) : evalFn E0 (n + 1) β 46 [a0] H k = f46 (PR n β) n a0 H k := f46_body (PR n β) n a0 H k
theorem f44_eq (n : Nat) (a0 : AV) (H : Heap) (k : AV → Heap → Option β) : evalFn E0 (n + 1) β 44 [a0] H k = f44 (PR n β) n a0 H k := f44_body (PR n β) n a0 H k
theorem f80_eq (n : Nat) (a0 : AV) (H : Heap) (k : AV → Heap → Option β) : evalFn E0 (n + 1) β 80 [a0] H k = f80 (PR n β) n a0 H k := f80_body (PR n β) n a0 H k
theorem f45_eq (n : Nat) (a0 : AV) (H : Heap) (k : AV → Heap → Option β) : evalFn E0 (n + 1) β 45 [a0] H k = f45 (PR n β) n a0 H k := f45_body (PR n β) n a0 H k
theorem f9_eq (n : Nat) (a0 : AV) (H : Heap) (k : AV → Heap → Option β) : evalFn E0 (n + 1) β 9 [a0] H k = f9 (PR n β) n a0 H k := f9_body (PR n β) n a0 H k
theorem f14_eq (n : Nat) (a0 : AV) (H : Heap) (k : AV → Heap → Option β) : evalFn E0 (n + 1) β 14 [a0] H k = f14 (PR n β) n a0 H k := f14_body (PR n β) n a0 H k
theorem f19_eq (n : Nat) (a0 : AV) (H : Heap) (k : AV → Heap → Option β) : evalFn E0 (n + 1) β 19 [a0] H k = f19 (PR n β) n a0 H k := f19_body (PR n β) n a0 H k
theorem f34_eq (n : Nat) (a0 a1 a2 : AV) (H : Heap) (k : AV → Heap → Option β) : evalFn E0 (n + 1) β 34 [a0, a1, a2] H k = f34 (PR n β) n a0 a1 a2 H k := f34_body (PR n β) n a0 a1 a2 H k
theorem f106_eq (n : Nat) (a0 a1 : AV) (H : Heap) (k : AV → Heap → Option β) : evalFn E0 (n + 1) β 106 [a0, a1] H k = f106 (PR n β) n a0 a1 H k := f106_body (PR n β) n a0 a1 H k
theorem f77_eq (n : Nat) (a0 : AV) (H : Heap) (k : AV → Heap → Option β) : evalFn E0 (n + 1) β 77 [a0] H k = f77 (PR n β) n a0 H k := f77_body (PR n β) n a0 H k
theorem f43_eq (n : Nat) (a0 : AV) (H : Heap) (k : AV → Heap → Option β) : evalFn E0 (n + 1) β 43 [a0] H k = f43 (PR n β) n a0 H k := f43_body (PR n β) n a0 H k
theorem f18_eq (n : Nat) (a0 : AV) (H : Heap) (k : AV → Heap → Option β) : evalFn E0 (n + 1) β 18 [a0] H k = f18 (PR n β) n a0 H k := f18_body (PR n β) n a0 H k
theorem f47_eq (n : Nat) (a0 a1 a2 : AV) (H : Heap) (k : AV → Heap → Option β) : evalFn E0 (n + 1) β 47 [a0, a1, a2] H k = f47 (PR n β) n a0 a1 a2 H k := f47_body (PR n β) n a0 a1 a2 H k
theorem f20_eq (n : Nat) (a0 : AV) (H : Heap) (k : AV → Heap → Option β) : evalFn E0 (n + 1) β 20 [a0] H k = f20 (PR n β) n a0 H k := f20_body (PR n β) n a0 H k
theorem f38_eq (n : Nat) (a0 a1 : AV) (H : Heap) (k : AV → Heap → Option β) : evalFn E0 (n + 1) β 38 [a0, a1] H k = f38 (PR n β) n a0 a1 H k := f38_body (PR n β) n a0 a1 H k
theorem f109_eq (n : Nat) (a0 a1 : AV) (H : Heap) (k : AV → Heap → Option β) : evalFn E0 (n + 1) β 109 [a0, a1] H k = f109 (PR n β) n a0 a1 H k := f109_body (PR n β) n a0 a1 H k
theorem f82_eq (n : Nat) (a0 a1 : AV) (H : Heap) (k : AV → Heap → Option β) : evalFn E0 (n + 1) β 82 [a0, a1] H k = f82 (PR n β) n a0 a1 H k := f82_body (PR n β) n a0 a1 H k
theorem f83_eq (n : Nat) (a0 a1 : AV) (H : Heap) (k : AV → Heap → Option β) : evalFn E0 (n + 1) β 83 [a0, a1] H k = f83 (PR n β) n a0 a1 H k := f83_body (PR n β) n a0 a1 H k
theorem f51_eq (n : Nat) (a0 a1 : AV) (H : Heap) (k : AV → Heap → Option β) : evalFn E0 (n + 1) β 51 [a0, a1] H k = f51 (PR n β) n a0 a1 H k := f51_body (PR n β) n a0 a1 H k
theorem f49_eq (n : Nat) (a0 a1 : AV) (H : Heap) (k : AV → Heap → Option β) : evalFn E0 (n + 1) β 49 [a0, a1] H k = f49 (PR n β) n a0 a1 H k := f49_body (PR n β) n a0 a1 H k
theorem f84_eq (n : Nat) (a0 a1 : AV) (H : Heap) (k : AV → Heap → Option β) : evalFn E0 (n + 1) β 84 [a0, a1] H k = f84 (PR n β) n a0 a1 H k := f84_body (PR n β) n a0 a1 H k
theorem f50_eq (n : Nat) (a0 a1 : AV) (H : Heap) (k : AV → Heap → Option β) : evalFn E0 (n + 1) β 50 [a0, a1] H k = f50 (PR n β) n a0 a1 H k := f50_body (PR n β) n a0 a1 H k
theorem f11_eq (n : Nat) (a0 a1 : AV) (H : Heap) (k : AV → Heap → Option β) : evalFn E0 (n + 1) β 11 [a0, a1] H k = f11 (PR n β) n a0 a1 H k := f11_body (PR n β) n a0 a1 H k
theorem f16_eq (n : Nat) (a0 a1 : AV) (H : Heap) (k : AV → Heap → Option β) : evalFn E0 (n + 1) β 16 [a0, a1] H k = f16 (PR n β) n a0 a1 H k := f16_body (PR n β) n a0 a1 H k
theorem f21_eq (n : Nat) (a0 a1 : AV) (H : Heap) (k : AV → Heap → Option β) : evalFn E0 (n + 1) β 21 [a0, a1] H k = f21 (PR n β) n a0 a1 H k := f21_body (PR n β) n a0 a1 H k
theorem f5_eq (n : Nat) (a0 : AV) (H : Heap) (k : AV → Heap → Option β) : evalFn E0 (n + 1) β 5 [a0] H k = f5 (PR n β) n a0 H k := f5_body (PR n β) n a0 H k
end Go.Proofs.YtnkelipioodhjaaDoor.Abs
