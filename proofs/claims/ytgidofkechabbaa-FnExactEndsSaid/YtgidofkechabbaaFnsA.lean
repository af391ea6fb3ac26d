/- The program's functions as plain functions over abstract values, and that the evaluator comes to them (written by gen.py). -/
import Derived.Test.YtgidofkechabbaaProg
import Derived.Test.YtgidofkechabbaaAbs
import Derived.KernelRfl
set_option linter.unusedVariables false
set_option linter.unusedSimpArgs false
set_option maxRecDepth 100000
namespace Go.Proofs.Ytgidofkechabbaa.Abs
open Go
variable {β : Type}
noncomputable def tis : List (Option TI) := [none,
  none,
  none,
  some ⟨false, false, 1, 8, [(.int .i64 0)], 0, [], some .i64, false, false, [3]⟩,
  some ⟨false, false, 1, 1, [(.bool false)], 0, [], none, false, true, [4]⟩,
  some ⟨false, false, 1, 1, [(.int .u8 0)], 0, [], some .u8, false, false, [5]⟩,
  none,
  none,
  none,
  some ⟨false, false, 1, 16, [(.string ⟨#[]⟩)], 0, [], none, true, false, [9]⟩,
  none,
  none,
  none,
  none,
  none,
  none,
  none,
  none,
  none,
  none,
  none,
  none,
  none,
  none,
  none,
  some ⟨false, true, 1, 24, [(.slice none 0 0)], 3, [], none, false, false, [25]⟩,
  none,
  none,
  none,
  some ⟨false, true, 1, 24, [(.slice none 0 0)], 5, [], none, false, false, [29]⟩,
  none,
  some ⟨true, false, 4, 56, [(.string ⟨#[]⟩), (.slice none 0 0), (.int .i64 0), (.bool false)], 0, [(0, 9), (1, 29), (2, 3), (3, 4)], none, false, false, [9, 29, 3, 4]⟩,
  none,
  none,
  some ⟨true, false, 4, 56, [(.string ⟨#[]⟩), (.slice none 0 0), (.int .i64 0), (.bool false)], 0, [(0, 9), (1, 29), (2, 3), (3, 4)], none, false, false, [9, 29, 3, 4]⟩,
  none,
  none,
  none,
  none,
  none,
  none,
  none,
  none,
  none,
  none,
  some ⟨false, true, 1, 24, [(.slice none 0 0)], 31, [], none, false, false, [45]⟩,
  none,
  none,
  some ⟨false, true, 1, 24, [(.slice none 0 0)], 34, [], none, false, false, [48]⟩,
  none,
  none,
  none,
  none,
  none,
  none,
  none,
  some ⟨false, true, 1, 24, [(.slice none 0 0)], 99, [], none, false, false, [56]⟩,
  none,
  some ⟨true, false, 3, 56, [(.int .i64 0), (.slice none 0 0), (.slice none 0 0)], 0, [(0, 3), (1, 56), (2, 45)], none, false, false, [3, 56, 45]⟩,
  none,
  some ⟨true, false, 9, 128, [(.string ⟨#[]⟩), (.int .i64 0), (.bool false), (.int .i64 0), (.int .i64 0), (.int .i64 0), (.slice none 0 0), (.slice none 0 0), (.slice none 0 0)], 0, [(0, 9), (1, 3), (2, 4), (3, 3), (4, 3), (5, 58), (8, 25)], none, false, false, [9, 3, 4, 3, 3, 3, 56, 45, 25]⟩,
  none,
  none,
  some ⟨false, true, 1, 24, [(.slice none 0 0)], 101, [], none, false, false, [63]⟩,
  none,
  some ⟨true, false, 3, 56, [(.int .i64 0), (.slice none 0 0), (.slice none 0 0)], 0, [(0, 3), (1, 63), (2, 48)], none, false, false, [3, 63, 48]⟩,
  none,
  some ⟨true, false, 9, 128, [(.string ⟨#[]⟩), (.int .i64 0), (.bool false), (.int .i64 0), (.int .i64 0), (.int .i64 0), (.slice none 0 0), (.slice none 0 0), (.slice none 0 0)], 0, [(0, 9), (1, 3), (2, 4), (3, 3), (4, 3), (5, 65), (8, 25)], none, false, false, [9, 3, 4, 3, 3, 3, 63, 48, 25]⟩,
  none,
  none,
  none,
  none,
  none,
  none,
  none,
  none,
  some ⟨false, false, 1, 8, [(.pointer none)], 0, [], none, false, false, [76]⟩,
  none,
  none,
  none,
  some ⟨false, true, 1, 24, [(.slice none 0 0)], 4, [], none, false, false, [80]⟩,
  none,
  none,
  none,
  none,
  none,
  none,
  none,
  none,
  some ⟨true, false, 3, 40, [(.slice none 0 0), (.int .i64 0), (.int .i64 0)], 0, [(0, 29), (1, 3), (2, 3)], none, false, false, [29, 3, 3]⟩,
  none,
  none,
  none,
  none,
  none,
  none,
  none,
  none,
  none,
  some ⟨true, false, 6, 72, [(.int .i64 0), (.string ⟨#[]⟩), (.slice none 0 0), (.int .i64 0), (.bool false), (.int .i64 0)], 0, [(0, 3), (1, 31), (5, 3)], none, false, false, [3, 9, 29, 3, 4, 3]⟩,
  none,
  some ⟨true, false, 6, 72, [(.int .i64 0), (.string ⟨#[]⟩), (.slice none 0 0), (.int .i64 0), (.bool false), (.int .i64 0)], 0, [(0, 3), (1, 34), (5, 3)], none, false, false, [3, 9, 29, 3, 4, 3]⟩,
  none,
  none,
  none,
  some ⟨false, true, 1, 24, [(.slice none 0 0)], 29, [], none, false, false, [105]⟩]
noncomputable def bodyOf (f : Func) : Code := match f.body with | some c => c | none => .skip
noncomputable def c2 : Code := bodyOf Go.Proofs.Try.f2
noncomputable def c11 : Code := bodyOf Go.Proofs.Try.f11
noncomputable def c12 : Code := bodyOf Go.Proofs.Try.f12
noncomputable def c3 : Code := bodyOf Go.Proofs.Try.f3
noncomputable def c46 : Code := bodyOf Go.Proofs.Try.f46
noncomputable def c13 : Code := bodyOf Go.Proofs.Try.f13
noncomputable def c47 : Code := bodyOf Go.Proofs.Try.f47
noncomputable def c14 : Code := bodyOf Go.Proofs.Try.f14
noncomputable def c4 : Code := bodyOf Go.Proofs.Try.f4
noncomputable def c16 : Code := bodyOf Go.Proofs.Try.f16
noncomputable def c15 : Code := bodyOf Go.Proofs.Try.f15
noncomputable def c48 : Code := bodyOf Go.Proofs.Try.f48
noncomputable def c17 : Code := bodyOf Go.Proofs.Try.f17
noncomputable def c18 : Code := bodyOf Go.Proofs.Try.f18
noncomputable def c5 : Code := bodyOf Go.Proofs.Try.f5
noncomputable def c49 : Code := bodyOf Go.Proofs.Try.f49
noncomputable def c19 : Code := bodyOf Go.Proofs.Try.f19
noncomputable def c51 : Code := bodyOf Go.Proofs.Try.f51
noncomputable def c21 : Code := bodyOf Go.Proofs.Try.f21
noncomputable def c50 : Code := bodyOf Go.Proofs.Try.f50
noncomputable def c20 : Code := bodyOf Go.Proofs.Try.f20
noncomputable def c52 : Code := bodyOf Go.Proofs.Try.f52
noncomputable def c22 : Code := bodyOf Go.Proofs.Try.f22
noncomputable def c53 : Code := bodyOf Go.Proofs.Try.f53
noncomputable def c23 : Code := bodyOf Go.Proofs.Try.f23
noncomputable def c6 : Code := bodyOf Go.Proofs.Try.f6
noncomputable def c24 : Code := bodyOf Go.Proofs.Try.f24
noncomputable def c54 : Code := bodyOf Go.Proofs.Try.f54
noncomputable def c75 : Code := bodyOf Go.Proofs.Try.f75
noncomputable def c69 : Code := bodyOf Go.Proofs.Try.f69
noncomputable def c55 : Code := bodyOf Go.Proofs.Try.f55
noncomputable def c56 : Code := bodyOf Go.Proofs.Try.f56
noncomputable def c25 : Code := bodyOf Go.Proofs.Try.f25
noncomputable def c57 : Code := bodyOf Go.Proofs.Try.f57
noncomputable def c26 : Code := bodyOf Go.Proofs.Try.f26
noncomputable def c27 : Code := bodyOf Go.Proofs.Try.f27
noncomputable def c28 : Code := bodyOf Go.Proofs.Try.f28
noncomputable def c29 : Code := bodyOf Go.Proofs.Try.f29
noncomputable def c7 : Code := bodyOf Go.Proofs.Try.f7
noncomputable def c30 : Code := bodyOf Go.Proofs.Try.f30
noncomputable def c32 : Code := bodyOf Go.Proofs.Try.f32
noncomputable def c31 : Code := bodyOf Go.Proofs.Try.f31
noncomputable def c70 : Code := bodyOf Go.Proofs.Try.f70
noncomputable def c58 : Code := bodyOf Go.Proofs.Try.f58
noncomputable def c33 : Code := bodyOf Go.Proofs.Try.f33
noncomputable def c34 : Code := bodyOf Go.Proofs.Try.f34
noncomputable def c8 : Code := bodyOf Go.Proofs.Try.f8
noncomputable def c60 : Code := bodyOf Go.Proofs.Try.f60
noncomputable def c59 : Code := bodyOf Go.Proofs.Try.f59
noncomputable def c35 : Code := bodyOf Go.Proofs.Try.f35
noncomputable def c76 : Code := bodyOf Go.Proofs.Try.f76
noncomputable def c71 : Code := bodyOf Go.Proofs.Try.f71
noncomputable def c61 : Code := bodyOf Go.Proofs.Try.f61
noncomputable def c36 : Code := bodyOf Go.Proofs.Try.f36
noncomputable def c62 : Code := bodyOf Go.Proofs.Try.f62
noncomputable def c63 : Code := bodyOf Go.Proofs.Try.f63
noncomputable def c37 : Code := bodyOf Go.Proofs.Try.f37
noncomputable def c38 : Code := bodyOf Go.Proofs.Try.f38
noncomputable def c64 : Code := bodyOf Go.Proofs.Try.f64
noncomputable def c39 : Code := bodyOf Go.Proofs.Try.f39
noncomputable def c40 : Code := bodyOf Go.Proofs.Try.f40
noncomputable def c9 : Code := bodyOf Go.Proofs.Try.f9
noncomputable def c77 : Code := bodyOf Go.Proofs.Try.f77
noncomputable def c72 : Code := bodyOf Go.Proofs.Try.f72
noncomputable def c65 : Code := bodyOf Go.Proofs.Try.f65
noncomputable def c66 : Code := bodyOf Go.Proofs.Try.f66
noncomputable def c41 : Code := bodyOf Go.Proofs.Try.f41
noncomputable def c78 : Code := bodyOf Go.Proofs.Try.f78
noncomputable def c73 : Code := bodyOf Go.Proofs.Try.f73
noncomputable def c67 : Code := bodyOf Go.Proofs.Try.f67
noncomputable def c43 : Code := bodyOf Go.Proofs.Try.f43
noncomputable def c42 : Code := bodyOf Go.Proofs.Try.f42
noncomputable def c44 : Code := bodyOf Go.Proofs.Try.f44
noncomputable def c79 : Code := bodyOf Go.Proofs.Try.f79
noncomputable def c74 : Code := bodyOf Go.Proofs.Try.f74
noncomputable def c68 : Code := bodyOf Go.Proofs.Try.f68
noncomputable def c45 : Code := bodyOf Go.Proofs.Try.f45
noncomputable def c10 : Code := bodyOf Go.Proofs.Try.f10
noncomputable def o2 : List (Nat × List Nat) := []
noncomputable def o11 : List (Nat × List Nat) := []
noncomputable def o12 : List (Nat × List Nat) := []
noncomputable def o3 : List (Nat × List Nat) := []
noncomputable def o46 : List (Nat × List Nat) := []
noncomputable def o13 : List (Nat × List Nat) := []
noncomputable def o47 : List (Nat × List Nat) := []
noncomputable def o14 : List (Nat × List Nat) := []
noncomputable def o4 : List (Nat × List Nat) := []
noncomputable def o16 : List (Nat × List Nat) := []
noncomputable def o15 : List (Nat × List Nat) := [(4, [0, 1, 2, 3, 4, 5, 6, 7, 8, 9, 10, 11, 12, 13, 14, 15, 16, 17, 18, 19, 20, 21])]
noncomputable def o48 : List (Nat × List Nat) := []
noncomputable def o17 : List (Nat × List Nat) := []
noncomputable def o18 : List (Nat × List Nat) := [(6, [0, 1, 2, 3, 4, 5, 6, 7, 8])]
noncomputable def o5 : List (Nat × List Nat) := []
noncomputable def o49 : List (Nat × List Nat) := []
noncomputable def o19 : List (Nat × List Nat) := []
noncomputable def o51 : List (Nat × List Nat) := []
noncomputable def o21 : List (Nat × List Nat) := []
noncomputable def o50 : List (Nat × List Nat) := []
noncomputable def o20 : List (Nat × List Nat) := []
noncomputable def o52 : List (Nat × List Nat) := []
noncomputable def o22 : List (Nat × List Nat) := []
noncomputable def o53 : List (Nat × List Nat) := [(6, [0, 1, 2, 3, 4, 5, 6, 7, 8])]
noncomputable def o23 : List (Nat × List Nat) := []
noncomputable def o6 : List (Nat × List Nat) := [(8, [0, 2, 1, 3, 4, 5]), (14, [0, 1, 2, 3, 4]), (16, [0, 1, 2, 3, 4])]
noncomputable def o24 : List (Nat × List Nat) := []
noncomputable def o54 : List (Nat × List Nat) := []
noncomputable def o75 : List (Nat × List Nat) := [(2, [0, 1, 2, 3, 4, 5, 6, 7, 8, 9, 10, 11, 12]), (3, [0, 1, 2, 3, 4, 5, 6, 7, 8, 9]), (4, [0, 1, 2, 3, 4, 5, 6, 7, 8, 9, 10, 11, 12, 13, 14])]
noncomputable def o69 : List (Nat × List Nat) := []
noncomputable def o55 : List (Nat × List Nat) := []
noncomputable def o56 : List (Nat × List Nat) := []
noncomputable def o25 : List (Nat × List Nat) := []
noncomputable def o57 : List (Nat × List Nat) := []
noncomputable def o26 : List (Nat × List Nat) := []
noncomputable def o27 : List (Nat × List Nat) := []
noncomputable def o28 : List (Nat × List Nat) := []
noncomputable def o29 : List (Nat × List Nat) := []
noncomputable def o7 : List (Nat × List Nat) := []
noncomputable def o30 : List (Nat × List Nat) := []
noncomputable def o32 : List (Nat × List Nat) := []
noncomputable def o31 : List (Nat × List Nat) := [(6, [0, 1, 2, 3, 4, 5, 6, 7, 8, 9, 10, 11, 12, 13, 14, 15])]
noncomputable def o70 : List (Nat × List Nat) := []
noncomputable def o58 : List (Nat × List Nat) := []
noncomputable def o33 : List (Nat × List Nat) := []
noncomputable def o34 : List (Nat × List Nat) := [(6, [0, 1, 2, 3, 4, 5, 6, 7, 8, 9])]
noncomputable def o8 : List (Nat × List Nat) := []
noncomputable def o60 : List (Nat × List Nat) := [(1, [0, 1, 3, 4, 6, 7, 8, 9, 2, 5, 10, 11])]
noncomputable def o59 : List (Nat × List Nat) := []
noncomputable def o35 : List (Nat × List Nat) := [(3, [0, 1, 3, 4, 5, 2, 6, 7, 8, 9])]
noncomputable def o76 : List (Nat × List Nat) := []
noncomputable def o71 : List (Nat × List Nat) := []
noncomputable def o61 : List (Nat × List Nat) := []
noncomputable def o36 : List (Nat × List Nat) := [(4, [0, 1, 2, 3, 4, 5, 6, 7])]
noncomputable def o62 : List (Nat × List Nat) := []
noncomputable def o63 : List (Nat × List Nat) := []
noncomputable def o37 : List (Nat × List Nat) := []
noncomputable def o38 : List (Nat × List Nat) := []
noncomputable def o64 : List (Nat × List Nat) := []
noncomputable def o39 : List (Nat × List Nat) := [(4, [0, 1, 2, 3, 4, 5, 6, 7])]
noncomputable def o40 : List (Nat × List Nat) := []
noncomputable def o9 : List (Nat × List Nat) := []
noncomputable def o77 : List (Nat × List Nat) := []
noncomputable def o72 : List (Nat × List Nat) := []
noncomputable def o65 : List (Nat × List Nat) := []
noncomputable def o66 : List (Nat × List Nat) := []
noncomputable def o41 : List (Nat × List Nat) := []
noncomputable def o78 : List (Nat × List Nat) := []
noncomputable def o73 : List (Nat × List Nat) := []
noncomputable def o67 : List (Nat × List Nat) := []
noncomputable def o43 : List (Nat × List Nat) := []
noncomputable def o42 : List (Nat × List Nat) := []
noncomputable def o44 : List (Nat × List Nat) := []
noncomputable def o79 : List (Nat × List Nat) := []
noncomputable def o74 : List (Nat × List Nat) := [(6, [0, 1, 2, 3, 4, 5, 6, 7, 8, 9])]
noncomputable def o68 : List (Nat × List Nat) := []
noncomputable def o45 : List (Nat × List Nat) := []
noncomputable def o10 : List (Nat × List Nat) := [(10, [0, 1, 2, 3, 4])]
noncomputable def ti0 (t : Nat) : Option TI := (tis[t]?).getD none
noncomputable def cd : Code → List Nat → Code
  | c, [] => c
  | .seq a b, i :: p => cd (if i = 0 then a else b) p
  | .cond _ a b, i :: p => cd (if i = 1 then a else b) p
  | .block _ a, _ :: p => cd a p
  | .loop a, _ :: p => cd a p
  | c, _ => c

/-! 2 gosem.cut.init -/
noncomputable def f2 (p : Pr β) (n : Nat) (H : Heap) (k : AV → Heap → Option β) : Option β :=
  p.call 0 (.fn 1 [] []) [] H fun t0 H =>
  k (packA []) H
theorem f2_body (p : Pr β) (n : Nat)  (H : Heap) (k : AV → Heap → Option β) : evalBody ti0 p n ⟨c2, 1, Go.Proofs.Try.f2.results.toList, o2⟩ [] H k = f2 p n  H k := by kernel_rfl

/-! 11 loop.example/g00480/spec.StripeOf -/
noncomputable def f11_l0 (p : Pr β) (n : Nat)  (k : AV → Heap → Option β) : Nat → AV → AV → AV → Heap → Option β
  | 0, _, _, _, _ => none
  | m + 1, t0, t3, t4, H => p.lenS t0 fun t7 =>
      p.bin .lss t4 t7 fun t8 =>
      p.cond t8
      (p.idx t0 t4 fun t14 =>
      p.cvI .i64 t14 fun t15 =>
      p.bin .add t3 t15 fun t16 =>
      p.bin .rem t16 (.sc (.int .i64 3)) fun t17 =>
      p.bin .add t4 (.sc (.int .i64 1)) fun t10 =>
      f11_l0 p n  k m t0 t17 t10 H)
      (k t3 H)
noncomputable def f11 (p : Pr β) (n : Nat) (a0 : AV) (H : Heap) (k : AV → Heap → Option β) : Option β :=
  f11_l0 p n  k n a0 (.sc (.int .i64 0)) (.sc (.int .i64 0)) H
noncomputable def f11_L0 (p : Pr β) (n : Nat)  (k : AV → Heap → Option β) (m : Nat) (tm : Tm) (H : Heap) : Option β :=
  iterC 19 (fun tm H k => evalCode ti0 p o11 19 n (cd c11 [1, 1, 0, 1, 0, 0]) tm H k) (blkK 0 (seqK (fun tm H => evalCode ti0 p o11 19 n (cd c11 [1, 1, 1]) tm H (endK ti0 p Go.Proofs.Try.f11.results.toList k)) (endK ti0 p Go.Proofs.Try.f11.results.toList k))) m tm H
theorem f11_L0_step (p : Pr β) (n : Nat)  (k : AV → Heap → Option β) (m0 : Nat) (t0 t1 t2 t3 t4 t5 t6 t7 t8 t9 t10 t11 t12 t13 t14 t15 t16 t17 t18 : AV) (H : Heap) : f11_L0 p n  k (m0 + 1) [(0, t0), (1, t1), (2, t2), (3, t3), (4, t4), (5, t5), (6, t6), (7, t7), (8, t8), (9, t9), (10, t10), (11, t11), (12, t12), (13, t13), (14, t14), (15, t15), (16, t16), (17, t17), (18, t18)] H =
  p.lenS t0 fun t7 =>
  p.bin .lss t4 t7 fun t8 =>
  p.cond t8
  (p.idx t0 t4 fun t14 =>
  p.cvI .i64 t14 fun t15 =>
  p.bin .add t3 t15 fun t16 =>
  p.bin .rem t16 (.sc (.int .i64 3)) fun t17 =>
  p.bin .add t4 (.sc (.int .i64 1)) fun t10 =>
  f11_L0 p n  k m0 [(0, t0), (1, t1), (2, t2), (3, t17), (4, t10), (5, t4), (6, t0), (7, t7), (8, t8), (9, t4), (10, t10), (11, t3), (12, t0), (13, t4), (14, t14), (15, t15), (16, t16), (17, t17), (18, t18)] H)
  (k t3 H) := by kernel_rfl
theorem f11_l0_eq (p : Pr β) (n : Nat)  (k : AV → Heap → Option β)   (m0 : Nat) : ∀ (t0 t1 t2 t3 t4 t5 t6 t7 t8 t9 t10 t11 t12 t13 t14 t15 t16 t17 t18 : AV) (H : Heap), f11_L0 p n  k m0 [(0, t0), (1, t1), (2, t2), (3, t3), (4, t4), (5, t5), (6, t6), (7, t7), (8, t8), (9, t9), (10, t10), (11, t11), (12, t12), (13, t13), (14, t14), (15, t15), (16, t16), (17, t17), (18, t18)] H = f11_l0 p n  k m0 t0 t3 t4 H := by
  induction m0 with
  | zero => intros; rfl
  | succ m0 ih =>
    intro t0 t1 t2 t3 t4 t5 t6 t7 t8 t9 t10 t11 t12 t13 t14 t15 t16 t17 t18 H
    rw [f11_L0_step]
    simp only [ih]
    rfl
theorem f11_raw (p : Pr β) (n : Nat) (a0 : AV) (H : Heap) (k : AV → Heap → Option β) : evalBody ti0 p n ⟨c11, 19, Go.Proofs.Try.f11.results.toList, o11⟩ [a0] H k =
  f11_L0 p n  k n [(0, a0), (1, (.sc undef)), (2, (.sc (.int .i64 0))), (3, (.sc (.int .i64 0))), (4, (.sc (.int .i64 0))), (5, (.sc undef)), (6, (.sc undef)), (7, (.sc undef)), (8, (.sc undef)), (9, (.sc undef)), (10, (.sc undef)), (11, (.sc undef)), (12, (.sc undef)), (13, (.sc undef)), (14, (.sc undef)), (15, (.sc undef)), (16, (.sc undef)), (17, (.sc undef)), (18, (.sc undef))] H := by kernel_rfl
theorem f11_body (p : Pr β) (n : Nat) (a0 : AV) (H : Heap) (k : AV → Heap → Option β) : evalBody ti0 p n ⟨c11, 19, Go.Proofs.Try.f11.results.toList, o11⟩ [a0] H k = f11 p n a0 H k := by
  rw [f11_raw]
  simp only [f11_l0_eq]
  rfl

/-! 12 loop.example/g00480/impl.StripeOf -/
noncomputable def f12_l0 (p : Pr β) (n : Nat)  (k : AV → Heap → Option β) : Nat → AV → AV → AV → Heap → Option β
  | 0, _, _, _, _ => none
  | m + 1, t0, t3, t4, H => p.lenS t0 fun t7 =>
      p.bin .lss t4 t7 fun t8 =>
      p.cond t8
      (p.idx t0 t4 fun t14 =>
      p.cvI .i64 t14 fun t15 =>
      p.bin .add t3 t15 fun t16 =>
      p.bin .add t4 (.sc (.int .i64 1)) fun t10 =>
      f12_l0 p n  k m t0 t16 t10 H)
      (p.bin .rem t3 (.sc (.int .i64 3)) fun t18 =>
      k t18 H)
noncomputable def f12 (p : Pr β) (n : Nat) (a0 : AV) (H : Heap) (k : AV → Heap → Option β) : Option β :=
  f12_l0 p n  k n a0 (.sc (.int .i64 0)) (.sc (.int .i64 0)) H
noncomputable def f12_L0 (p : Pr β) (n : Nat)  (k : AV → Heap → Option β) (m : Nat) (tm : Tm) (H : Heap) : Option β :=
  iterC 19 (fun tm H k => evalCode ti0 p o12 19 n (cd c12 [1, 1, 0, 1, 0, 0]) tm H k) (blkK 0 (seqK (fun tm H => evalCode ti0 p o12 19 n (cd c12 [1, 1, 1]) tm H (endK ti0 p Go.Proofs.Try.f12.results.toList k)) (endK ti0 p Go.Proofs.Try.f12.results.toList k))) m tm H
theorem f12_L0_step (p : Pr β) (n : Nat)  (k : AV → Heap → Option β) (m0 : Nat) (t0 t1 t2 t3 t4 t5 t6 t7 t8 t9 t10 t11 t12 t13 t14 t15 t16 t17 t18 : AV) (H : Heap) : f12_L0 p n  k (m0 + 1) [(0, t0), (1, t1), (2, t2), (3, t3), (4, t4), (5, t5), (6, t6), (7, t7), (8, t8), (9, t9), (10, t10), (11, t11), (12, t12), (13, t13), (14, t14), (15, t15), (16, t16), (17, t17), (18, t18)] H =
  p.lenS t0 fun t7 =>
  p.bin .lss t4 t7 fun t8 =>
  p.cond t8
  (p.idx t0 t4 fun t14 =>
  p.cvI .i64 t14 fun t15 =>
  p.bin .add t3 t15 fun t16 =>
  p.bin .add t4 (.sc (.int .i64 1)) fun t10 =>
  f12_L0 p n  k m0 [(0, t0), (1, t1), (2, t2), (3, t16), (4, t10), (5, t4), (6, t0), (7, t7), (8, t8), (9, t4), (10, t10), (11, t3), (12, t0), (13, t4), (14, t14), (15, t15), (16, t16), (17, t17), (18, t18)] H)
  (p.bin .rem t3 (.sc (.int .i64 3)) fun t18 =>
  k t18 H) := by kernel_rfl
theorem f12_l0_eq (p : Pr β) (n : Nat)  (k : AV → Heap → Option β)   (m0 : Nat) : ∀ (t0 t1 t2 t3 t4 t5 t6 t7 t8 t9 t10 t11 t12 t13 t14 t15 t16 t17 t18 : AV) (H : Heap), f12_L0 p n  k m0 [(0, t0), (1, t1), (2, t2), (3, t3), (4, t4), (5, t5), (6, t6), (7, t7), (8, t8), (9, t9), (10, t10), (11, t11), (12, t12), (13, t13), (14, t14), (15, t15), (16, t16), (17, t17), (18, t18)] H = f12_l0 p n  k m0 t0 t3 t4 H := by
  induction m0 with
  | zero => intros; rfl
  | succ m0 ih =>
    intro t0 t1 t2 t3 t4 t5 t6 t7 t8 t9 t10 t11 t12 t13 t14 t15 t16 t17 t18 H
    rw [f12_L0_step]
    simp only [ih]
    rfl
theorem f12_raw (p : Pr β) (n : Nat) (a0 : AV) (H : Heap) (k : AV → Heap → Option β) : evalBody ti0 p n ⟨c12, 19, Go.Proofs.Try.f12.results.toList, o12⟩ [a0] H k =
  f12_L0 p n  k n [(0, a0), (1, (.sc undef)), (2, (.sc (.int .i64 0))), (3, (.sc (.int .i64 0))), (4, (.sc (.int .i64 0))), (5, (.sc undef)), (6, (.sc undef)), (7, (.sc undef)), (8, (.sc undef)), (9, (.sc undef)), (10, (.sc undef)), (11, (.sc undef)), (12, (.sc undef)), (13, (.sc undef)), (14, (.sc undef)), (15, (.sc undef)), (16, (.sc undef)), (17, (.sc undef)), (18, (.sc undef))] H := by kernel_rfl
theorem f12_body (p : Pr β) (n : Nat) (a0 : AV) (H : Heap) (k : AV → Heap → Option β) : evalBody ti0 p n ⟨c12, 19, Go.Proofs.Try.f12.results.toList, o12⟩ [a0] H k = f12 p n a0 H k := by
  rw [f12_raw]
  simp only [f12_l0_eq]
  rfl

/-! 3 loop.example/g00480/laws.FnExactStripeOf -/
noncomputable def f3 (p : Pr β) (n : Nat) (a0 : AV) (H : Heap) (k : AV → Heap → Option β) : Option β :=
  p.lenS a0 fun t6 =>
  p.bin .gtr t6 (.sc (.int .i64 1048576)) fun t7 =>
  p.cond t7
  (k (.sc (.bool true)) H)
  (p.call 3 (.fn 11 [] []) [a0] H fun t9 H =>
  p.call 3 (.fn 12 [] []) [a0] H fun t11 H =>
  p.bin .neq t11 t9 fun t14 =>
  p.cond t14
  (k (.sc (.bool false)) H)
  (k (.sc (.bool true)) H))
theorem f3_body (p : Pr β) (n : Nat) (a0 : AV) (H : Heap) (k : AV → Heap → Option β) : evalBody ti0 p n ⟨c3, 15, Go.Proofs.Try.f3.results.toList, o3⟩ [a0] H k = f3 p n a0 H k := by kernel_rfl

/-! 46 loop.example/g00480/spec.l1In -/
noncomputable def f46 (p : Pr β) (n : Nat) (a0 a1 a2 : AV) (H : Heap) (k : AV → Heap → Option β) : Option β :=
  p.bin .geq a0 a1 fun t9 =>
  p.guard t9 true H (fun k' => k' a0 H) fun t11 H =>
  p.guard t9 true H (fun k' => k' a2 H) fun t12 H =>
  p.guard t9 true H (fun k' => p.bin .leq t11 t12 fun t' => k' t' H) fun t13 H =>
  p.pick t9 t13 (.sc (.bool false)) fun t14 =>
  k t14 H
theorem f46_body (p : Pr β) (n : Nat) (a0 a1 a2 : AV) (H : Heap) (k : AV → Heap → Option β) : evalBody ti0 p n ⟨c46, 15, Go.Proofs.Try.f46.results.toList, o46⟩ [a0, a1, a2] H k = f46 p n a0 a1 a2 H k := by kernel_rfl

/-! 13 loop.example/g00480/spec.PcOk -/
noncomputable def f13 (p : Pr β) (n : Nat) (a0 a1 : AV) (H : Heap) (k : AV → Heap → Option β) : Option β :=
  p.bin .eql a0 (.sc (.int .i64 1)) fun t7 =>
  letJ (fun t0 t1 t5 t6 H => p.cond t6
  (p.call 4 (.fn 46 [] []) [t1, (.sc (.int .i64 0)), (.sc (.int .i64 5))] H fun t10 H =>
  k t10 H)
  (p.bin .eql t5 (.sc (.int .i64 3)) fun t12 =>
  p.cond t12
  (p.call 4 (.fn 46 [] []) [t1, (.sc (.int .i64 0)), (.sc (.int .i64 4))] H fun t14 H =>
  k t14 H)
  (p.bin .eql t5 (.sc (.int .i64 4)) fun t16 =>
  p.cond t16
  (p.call 4 (.fn 46 [] []) [t1, (.sc (.int .i64 0)), (.sc (.int .i64 3))] H fun t18 H =>
  k t18 H)
  (p.bin .eql t5 (.sc (.int .i64 5)) fun t20 =>
  p.cond t20
  (p.call 4 (.fn 46 [] []) [t1, (.sc (.int .i64 0)), (.sc (.int .i64 1))] H fun t22 H =>
  k t22 H)
  (p.bin .eql t5 (.sc (.int .i64 6)) fun t24 =>
  p.cond t24
  (p.call 4 (.fn 46 [] []) [t1, (.sc (.int .i64 0)), (.sc (.int .i64 3))] H fun t26 H =>
  p.guard t26 false H (fun k' => k' t1 H) fun t28 H =>
  p.guard t26 false H (fun k' => p.call 4 (.fn 46 [] []) [t28, (.sc (.int .i64 6)), (.sc (.int .i64 10))] H fun t' H => k' t' H) fun t29 H =>
  p.pick t26 (.sc (.bool true)) t29 fun t30 =>
  k t30 H)
  (p.bin .eql t5 (.sc (.int .i64 7)) fun t32 =>
  p.cond t32
  (p.bin .eql t1 (.sc (.int .i64 1)) fun t34 =>
  k t34 H)
  (p.bin .eql t0 (.sc (.int .i64 0)) fun t36 =>
  p.guard t36 true H (fun k' => k' t1 H) fun t38 H =>
  p.guard t36 true H (fun k' => p.bin .eql t38 (.sc (.int .i64 0)) fun t' => k' t' H) fun t39 H =>
  p.pick t36 t39 (.sc (.bool false)) fun t40 =>
  k t40 H))))))) fun j1 =>
  p.cond t7
  (j1 a0 a1 a0 t7 H)
  (p.bin .eql a0 (.sc (.int .i64 2)) fun t8 =>
  j1 a0 a1 a0 t8 H)
theorem f13_body (p : Pr β) (n : Nat) (a0 a1 : AV) (H : Heap) (k : AV → Heap → Option β) : evalBody ti0 p n ⟨c13, 41, Go.Proofs.Try.f13.results.toList, o13⟩ [a0, a1] H k = f13 p n a0 a1 H k := by kernel_rfl

/-! 47 loop.example/g00480/impl.within -/
noncomputable def f47 (p : Pr β) (n : Nat) (a0 a1 a2 : AV) (H : Heap) (k : AV → Heap → Option β) : Option β :=
  p.bin .geq a0 a1 fun t9 =>
  p.guard t9 true H (fun k' => k' a0 H) fun t11 H =>
  p.guard t9 true H (fun k' => k' a2 H) fun t12 H =>
  p.guard t9 true H (fun k' => p.bin .leq t11 t12 fun t' => k' t' H) fun t13 H =>
  p.pick t9 t13 (.sc (.bool false)) fun t14 =>
  k t14 H
theorem f47_body (p : Pr β) (n : Nat) (a0 a1 a2 : AV) (H : Heap) (k : AV → Heap → Option β) : evalBody ti0 p n ⟨c47, 15, Go.Proofs.Try.f47.results.toList, o47⟩ [a0, a1, a2] H k = f47 p n a0 a1 a2 H k := by kernel_rfl

/-! 14 loop.example/g00480/impl.PcOk -/
noncomputable def f14 (p : Pr β) (n : Nat) (a0 a1 : AV) (H : Heap) (k : AV → Heap → Option β) : Option β :=
  p.bin .eql a0 (.sc (.int .i64 1)) fun t7 =>
  letJ (fun t0 t1 t5 t6 H => p.cond t6
  (p.call 4 (.fn 47 [] []) [t1, (.sc (.int .i64 0)), (.sc (.int .i64 5))] H fun t10 H =>
  k t10 H)
  (p.bin .eql t5 (.sc (.int .i64 3)) fun t12 =>
  p.cond t12
  (p.call 4 (.fn 47 [] []) [t1, (.sc (.int .i64 0)), (.sc (.int .i64 4))] H fun t14 H =>
  k t14 H)
  (p.bin .eql t5 (.sc (.int .i64 4)) fun t16 =>
  p.cond t16
  (p.call 4 (.fn 47 [] []) [t1, (.sc (.int .i64 0)), (.sc (.int .i64 3))] H fun t18 H =>
  k t18 H)
  (p.bin .eql t5 (.sc (.int .i64 5)) fun t20 =>
  p.cond t20
  (p.call 4 (.fn 47 [] []) [t1, (.sc (.int .i64 0)), (.sc (.int .i64 1))] H fun t22 H =>
  k t22 H)
  (p.bin .eql t5 (.sc (.int .i64 6)) fun t24 =>
  p.cond t24
  (p.call 4 (.fn 47 [] []) [t1, (.sc (.int .i64 0)), (.sc (.int .i64 3))] H fun t26 H =>
  p.guard t26 false H (fun k' => k' t1 H) fun t28 H =>
  p.guard t26 false H (fun k' => p.call 4 (.fn 47 [] []) [t28, (.sc (.int .i64 6)), (.sc (.int .i64 10))] H fun t' H => k' t' H) fun t29 H =>
  p.pick t26 (.sc (.bool true)) t29 fun t30 =>
  k t30 H)
  (p.bin .eql t5 (.sc (.int .i64 7)) fun t32 =>
  p.cond t32
  (p.bin .eql t1 (.sc (.int .i64 1)) fun t34 =>
  k t34 H)
  (p.bin .eql t0 (.sc (.int .i64 0)) fun t36 =>
  p.guard t36 true H (fun k' => k' t1 H) fun t38 H =>
  p.guard t36 true H (fun k' => p.bin .eql t38 (.sc (.int .i64 0)) fun t' => k' t' H) fun t39 H =>
  p.pick t36 t39 (.sc (.bool false)) fun t40 =>
  k t40 H))))))) fun j1 =>
  p.cond t7
  (j1 a0 a1 a0 t7 H)
  (p.bin .eql a0 (.sc (.int .i64 2)) fun t8 =>
  j1 a0 a1 a0 t8 H)
theorem f14_body (p : Pr β) (n : Nat) (a0 a1 : AV) (H : Heap) (k : AV → Heap → Option β) : evalBody ti0 p n ⟨c14, 41, Go.Proofs.Try.f14.results.toList, o14⟩ [a0, a1] H k = f14 p n a0 a1 H k := by kernel_rfl

/-! 4 loop.example/g00480/laws.FnExactPcOk -/
noncomputable def f4 (p : Pr β) (n : Nat) (a0 a1 : AV) (H : Heap) (k : AV → Heap → Option β) : Option β :=
  p.call 4 (.fn 13 [] []) [a0, a1] H fun t9 H =>
  p.call 4 (.fn 14 [] []) [a0, a1] H fun t12 H =>
  p.binB .neq t12 t9 fun t15 =>
  p.cond t15
  (k (.sc (.bool false)) H)
  (k (.sc (.bool true)) H)
theorem f4_body (p : Pr β) (n : Nat) (a0 a1 : AV) (H : Heap) (k : AV → Heap → Option β) : evalBody ti0 p n ⟨c4, 16, Go.Proofs.Try.f4.results.toList, o4⟩ [a0, a1] H k = f4 p n a0 a1 H k := by kernel_rfl

/-! 16 loop.example/g00480/laws.toIntS -/
noncomputable def f16_l0 (p : Pr β) (n : Nat)  (k : AV → Heap → Option β) : Nat → AV → AV → AV → Heap → Option β
  | 0, _, _, _, _ => none
  | m + 1, t0, t3, t4, H => p.len t0 fun t10 =>
      p.bin .lss t4 t10 fun t11 =>
      p.cond t11
      (p.iadr 1 t0 t4 fun t18 =>
      p.load false 1 t18 H fun t19 =>
      p.iadr 1 t3 t4 fun t20 =>
      p.store 1 t20 t19 H fun H =>
      p.bin .add t4 (.sc (.int .i64 1)) fun t13 =>
      f16_l0 p n  k m t0 t3 t13 H)
      (k t3 H)
noncomputable def f16 (p : Pr β) (n : Nat) (a0 : AV) (H : Heap) (k : AV → Heap → Option β) : Option β :=
  p.len a0 fun t6 =>
  p.make 1 8 [(.sc (.int .i64 0))] t6 t6 H fun t7 H =>
  f16_l0 p n  k n a0 t7 (.sc (.int .i64 0)) H
noncomputable def f16_L0 (p : Pr β) (n : Nat)  (k : AV → Heap → Option β) (m : Nat) (tm : Tm) (H : Heap) : Option β :=
  iterC 22 (fun tm H k => evalCode ti0 p o16 22 n (cd c16 [1, 1, 0, 1, 0, 0]) tm H k) (blkK 0 (seqK (fun tm H => evalCode ti0 p o16 22 n (cd c16 [1, 1, 1]) tm H (endK ti0 p Go.Proofs.Try.f16.results.toList k)) (endK ti0 p Go.Proofs.Try.f16.results.toList k))) m tm H
theorem f16_L0_step (p : Pr β) (n : Nat)  (k : AV → Heap → Option β) (m0 : Nat) (t0 t1 t2 t3 t4 t5 t6 t7 t8 t9 t10 t11 t12 t13 t14 t15 t16 t17 t18 t19 t20 t21 : AV) (H : Heap) : f16_L0 p n  k (m0 + 1) [(0, t0), (1, t1), (2, t2), (3, t3), (4, t4), (5, t5), (6, t6), (7, t7), (8, t8), (9, t9), (10, t10), (11, t11), (12, t12), (13, t13), (14, t14), (15, t15), (16, t16), (17, t17), (18, t18), (19, t19), (20, t20), (21, t21)] H =
  p.len t0 fun t10 =>
  p.bin .lss t4 t10 fun t11 =>
  p.cond t11
  (p.iadr 1 t0 t4 fun t18 =>
  p.load false 1 t18 H fun t19 =>
  p.iadr 1 t3 t4 fun t20 =>
  p.store 1 t20 t19 H fun H =>
  p.bin .add t4 (.sc (.int .i64 1)) fun t13 =>
  f16_L0 p n  k m0 [(0, t0), (1, t1), (2, t2), (3, t3), (4, t13), (5, t5), (6, t6), (7, t7), (8, t4), (9, t0), (10, t10), (11, t11), (12, t4), (13, t13), (14, t3), (15, t4), (16, t0), (17, t4), (18, t18), (19, t19), (20, t20), (21, t21)] H)
  (k t3 H) := by kernel_rfl
theorem f16_l0_eq (p : Pr β) (n : Nat)  (k : AV → Heap → Option β)   (m0 : Nat) : ∀ (t0 t1 t2 t3 t4 t5 t6 t7 t8 t9 t10 t11 t12 t13 t14 t15 t16 t17 t18 t19 t20 t21 : AV) (H : Heap), f16_L0 p n  k m0 [(0, t0), (1, t1), (2, t2), (3, t3), (4, t4), (5, t5), (6, t6), (7, t7), (8, t8), (9, t9), (10, t10), (11, t11), (12, t12), (13, t13), (14, t14), (15, t15), (16, t16), (17, t17), (18, t18), (19, t19), (20, t20), (21, t21)] H = f16_l0 p n  k m0 t0 t3 t4 H := by
  induction m0 with
  | zero => intros; rfl
  | succ m0 ih =>
    intro t0 t1 t2 t3 t4 t5 t6 t7 t8 t9 t10 t11 t12 t13 t14 t15 t16 t17 t18 t19 t20 t21 H
    rw [f16_L0_step]
    simp only [ih]
    rfl
theorem f16_raw (p : Pr β) (n : Nat) (a0 : AV) (H : Heap) (k : AV → Heap → Option β) : evalBody ti0 p n ⟨c16, 22, Go.Proofs.Try.f16.results.toList, o16⟩ [a0] H k =
  p.len a0 fun t6 =>
  p.make 1 8 [(.sc (.int .i64 0))] t6 t6 H fun t7 H =>
  f16_L0 p n  k n [(0, a0), (1, (.sc undef)), (2, .nl), (3, t7), (4, (.sc (.int .i64 0))), (5, a0), (6, t6), (7, t7), (8, (.sc undef)), (9, (.sc undef)), (10, (.sc undef)), (11, (.sc undef)), (12, (.sc undef)), (13, (.sc undef)), (14, (.sc undef)), (15, (.sc undef)), (16, (.sc undef)), (17, (.sc undef)), (18, (.sc undef)), (19, (.sc undef)), (20, (.sc undef)), (21, (.sc undef))] H := by kernel_rfl
theorem f16_body (p : Pr β) (n : Nat) (a0 : AV) (H : Heap) (k : AV → Heap → Option β) : evalBody ti0 p n ⟨c16, 22, Go.Proofs.Try.f16.results.toList, o16⟩ [a0] H k = f16 p n a0 H k := by
  rw [f16_raw]
  simp only [f16_l0_eq]
  rfl

/-! 15 loop.example/g00480/spec.InOk -/
noncomputable def f15_l0 (p : Pr β) (n : Nat)  (k : AV → Heap → Option β) : Nat → AV → AV → Heap → Option β
  | 0, _, _, _ => none
  | m + 1, t0, t3, H => p.len t0 fun t6 =>
      p.bin .lss t3 t6 fun t7 =>
      p.cond t7
      (p.iadr 1 t0 t3 fun t12 =>
      p.load false 1 t12 H fun t13 =>
      p.call 4 (.fn 46 [] []) [t13, (.sc (.int .i64 1)), (.sc (.int .i64 65535))] H fun t14 H =>
      p.un .not t14 fun t15 =>
      p.guard t15 false H (fun k' => k' t3 H) fun t17 H =>
      p.guard t15 false H (fun k' => p.bin .gtr t17 (.sc (.int .i64 0)) fun t' => k' t' H) fun t18 H =>
      p.guard t15 false H (fun k' => k' t18 H) fun t19 H =>
      p.guard t19 true H (fun k' => k' t0 H) fun t20 H =>
      p.guard t19 true H (fun k' => k' t3 H) fun t21 H =>
      p.guard t19 true H (fun k' => p.bin .sub t21 (.sc (.int .i64 1)) fun t' => k' t' H) fun t22 H =>
      p.guard t19 true H (fun k' => p.iadr 1 t20 t22 fun t' => k' t' H) fun t23 H =>
      p.guard t19 true H (fun k' => p.load false 1 t23 H fun t' => k' t' H) fun t24 H =>
      p.guard t19 true H (fun k' => k' t0 H) fun t25 H =>
      p.guard t19 true H (fun k' => k' t3 H) fun t26 H =>
      p.guard t19 true H (fun k' => p.iadr 1 t25 t26 fun t' => k' t' H) fun t27 H =>
      p.guard t19 true H (fun k' => p.load false 1 t27 H fun t' => k' t' H) fun t28 H =>
      p.guard t19 true H (fun k' => p.bin .geq t24 t28 fun t' => k' t' H) fun t29 H =>
      p.guard t15 false H (fun k' => p.pick t19 t29 (.sc (.bool false)) fun t' => k' t' H) fun t30 H =>
      p.pick t15 (.sc (.bool true)) t30 fun t31 =>
      p.cond t31
      (k (.sc (.bool false)) H)
      (p.bin .add t3 (.sc (.int .i64 1)) fun t9 =>
      f15_l0 p n  k m t0 t9 H))
      (p.len t0 fun t33 =>
      p.bin .leq t33 (.sc (.int .i64 4)) fun t34 =>
      k t34 H)
noncomputable def f15 (p : Pr β) (n : Nat) (a0 : AV) (H : Heap) (k : AV → Heap → Option β) : Option β :=
  f15_l0 p n  k n a0 (.sc (.int .i64 0)) H
noncomputable def f15_L0 (p : Pr β) (n : Nat)  (k : AV → Heap → Option β) (m : Nat) (tm : Tm) (H : Heap) : Option β :=
  iterC 35 (fun tm H k => evalCode ti0 p o15 35 n (cd c15 [1, 0, 1, 0, 0]) tm H k) (blkK 0 (seqK (fun tm H => evalCode ti0 p o15 35 n (cd c15 [1, 1]) tm H (endK ti0 p Go.Proofs.Try.f15.results.toList k)) (endK ti0 p Go.Proofs.Try.f15.results.toList k))) m tm H
theorem f15_L0_step (p : Pr β) (n : Nat)  (k : AV → Heap → Option β) (m0 : Nat) (t0 t1 t2 t3 t4 t5 t6 t7 t8 t9 t10 t11 t12 t13 t14 t15 t16 t17 t18 t19 t20 t21 t22 t23 t24 t25 t26 t27 t28 t29 t30 t31 t32 t33 t34 : AV) (H : Heap) : f15_L0 p n  k (m0 + 1) [(0, t0), (1, t1), (2, t2), (3, t3), (4, t4), (5, t5), (6, t6), (7, t7), (8, t8), (9, t9), (10, t10), (11, t11), (12, t12), (13, t13), (14, t14), (15, t15), (16, t16), (17, t17), (18, t18), (19, t19), (20, t20), (21, t21), (22, t22), (23, t23), (24, t24), (25, t25), (26, t26), (27, t27), (28, t28), (29, t29), (30, t30), (31, t31), (32, t32), (33, t33), (34, t34)] H =
  p.len t0 fun t6 =>
  p.bin .lss t3 t6 fun t7 =>
  p.cond t7
  (p.iadr 1 t0 t3 fun t12 =>
  p.load false 1 t12 H fun t13 =>
  p.call 4 (.fn 46 [] []) [t13, (.sc (.int .i64 1)), (.sc (.int .i64 65535))] H fun t14 H =>
  p.un .not t14 fun t15 =>
  p.guard t15 false H (fun k' => k' t3 H) fun t17 H =>
  p.guard t15 false H (fun k' => p.bin .gtr t17 (.sc (.int .i64 0)) fun t' => k' t' H) fun t18 H =>
  p.guard t15 false H (fun k' => k' t18 H) fun t19 H =>
  p.guard t19 true H (fun k' => k' t0 H) fun t20 H =>
  p.guard t19 true H (fun k' => k' t3 H) fun t21 H =>
  p.guard t19 true H (fun k' => p.bin .sub t21 (.sc (.int .i64 1)) fun t' => k' t' H) fun t22 H =>
  p.guard t19 true H (fun k' => p.iadr 1 t20 t22 fun t' => k' t' H) fun t23 H =>
  p.guard t19 true H (fun k' => p.load false 1 t23 H fun t' => k' t' H) fun t24 H =>
  p.guard t19 true H (fun k' => k' t0 H) fun t25 H =>
  p.guard t19 true H (fun k' => k' t3 H) fun t26 H =>
  p.guard t19 true H (fun k' => p.iadr 1 t25 t26 fun t' => k' t' H) fun t27 H =>
  p.guard t19 true H (fun k' => p.load false 1 t27 H fun t' => k' t' H) fun t28 H =>
  p.guard t19 true H (fun k' => p.bin .geq t24 t28 fun t' => k' t' H) fun t29 H =>
  p.guard t15 false H (fun k' => p.pick t19 t29 (.sc (.bool false)) fun t' => k' t' H) fun t30 H =>
  p.pick t15 (.sc (.bool true)) t30 fun t31 =>
  p.cond t31
  (k (.sc (.bool false)) H)
  (p.bin .add t3 (.sc (.int .i64 1)) fun t9 =>
  f15_L0 p n  k m0 [(0, t0), (1, t1), (2, t2), (3, t9), (4, t3), (5, t0), (6, t6), (7, t7), (8, t3), (9, t9), (10, t0), (11, t3), (12, t12), (13, t13), (14, t14), (15, t15), (16, t15), (17, t17), (18, t18), (19, t19), (20, t20), (21, t21), (22, t22), (23, t23), (24, t24), (25, t25), (26, t26), (27, t27), (28, t28), (29, t29), (30, t30), (31, t31), (32, t32), (33, t33), (34, t34)] H))
  (p.len t0 fun t33 =>
  p.bin .leq t33 (.sc (.int .i64 4)) fun t34 =>
  k t34 H) := by kernel_rfl
theorem f15_l0_eq (p : Pr β) (n : Nat)  (k : AV → Heap → Option β)   (m0 : Nat) : ∀ (t0 t1 t2 t3 t4 t5 t6 t7 t8 t9 t10 t11 t12 t13 t14 t15 t16 t17 t18 t19 t20 t21 t22 t23 t24 t25 t26 t27 t28 t29 t30 t31 t32 t33 t34 : AV) (H : Heap), f15_L0 p n  k m0 [(0, t0), (1, t1), (2, t2), (3, t3), (4, t4), (5, t5), (6, t6), (7, t7), (8, t8), (9, t9), (10, t10), (11, t11), (12, t12), (13, t13), (14, t14), (15, t15), (16, t16), (17, t17), (18, t18), (19, t19), (20, t20), (21, t21), (22, t22), (23, t23), (24, t24), (25, t25), (26, t26), (27, t27), (28, t28), (29, t29), (30, t30), (31, t31), (32, t32), (33, t33), (34, t34)] H = f15_l0 p n  k m0 t0 t3 H := by
  induction m0 with
  | zero => intros; rfl
  | succ m0 ih =>
    intro t0 t1 t2 t3 t4 t5 t6 t7 t8 t9 t10 t11 t12 t13 t14 t15 t16 t17 t18 t19 t20 t21 t22 t23 t24 t25 t26 t27 t28 t29 t30 t31 t32 t33 t34 H
    rw [f15_L0_step]
    simp only [ih]
    rfl
theorem f15_raw (p : Pr β) (n : Nat) (a0 : AV) (H : Heap) (k : AV → Heap → Option β) : evalBody ti0 p n ⟨c15, 35, Go.Proofs.Try.f15.results.toList, o15⟩ [a0] H k =
  f15_L0 p n  k n [(0, a0), (1, (.sc undef)), (2, (.sc (.bool false))), (3, (.sc (.int .i64 0))), (4, (.sc undef)), (5, (.sc undef)), (6, (.sc undef)), (7, (.sc undef)), (8, (.sc undef)), (9, (.sc undef)), (10, (.sc undef)), (11, (.sc undef)), (12, (.sc undef)), (13, (.sc undef)), (14, (.sc undef)), (15, (.sc undef)), (16, (.sc undef)), (17, (.sc undef)), (18, (.sc undef)), (19, (.sc undef)), (20, (.sc undef)), (21, (.sc undef)), (22, (.sc undef)), (23, (.sc undef)), (24, (.sc undef)), (25, (.sc undef)), (26, (.sc undef)), (27, (.sc undef)), (28, (.sc undef)), (29, (.sc undef)), (30, (.sc undef)), (31, (.sc undef)), (32, (.sc undef)), (33, (.sc undef)), (34, (.sc undef))] H := by kernel_rfl
theorem f15_body (p : Pr β) (n : Nat) (a0 : AV) (H : Heap) (k : AV → Heap → Option β) : evalBody ti0 p n ⟨c15, 35, Go.Proofs.Try.f15.results.toList, o15⟩ [a0] H k = f15 p n a0 H k := by
  rw [f15_raw]
  simp only [f15_l0_eq]
  rfl

/-! 48 loop.example/g00480/impl.isId -/
noncomputable def f48 (p : Pr β) (n : Nat) (a0 : AV) (H : Heap) (k : AV → Heap → Option β) : Option β :=
  p.call 4 (.fn 47 [] []) [a0, (.sc (.int .i64 1)), (.sc (.int .i64 65535))] H fun t4 H =>
  k t4 H
theorem f48_body (p : Pr β) (n : Nat) (a0 : AV) (H : Heap) (k : AV → Heap → Option β) : evalBody ti0 p n ⟨c48, 5, Go.Proofs.Try.f48.results.toList, o48⟩ [a0] H k = f48 p n a0 H k := by kernel_rfl

/-! 17 loop.example/g00480/impl.InOk -/
noncomputable def f17_l0 (p : Pr β) (n : Nat)  (k : AV → Heap → Option β) : Nat → AV → AV → AV → AV → Heap → Option β
  | 0, _, _, _, _, _ => none
  | m + 1, t0, t5, t6, t7, H => p.bin .lss t7 t6 fun t8 =>
      p.cond t8
      (p.iadr 1 t5 t7 fun t10 =>
      p.load false 1 t10 H fun t11 =>
      p.call 4 (.fn 48 [] []) [t11] H fun t13 H =>
      p.un .not t13 fun t14 =>
      p.guard t14 false H (fun k' => k' t7 H) fun t16 H =>
      p.guard t14 false H (fun k' => p.bin .gtr t16 (.sc (.int .i64 0)) fun t' => k' t' H) fun t17 H =>
      p.guard t14 false H (fun k' => k' t17 H) fun t18 H =>
      p.guard t18 true H (fun k' => k' t0 H) fun t19 H =>
      p.guard t18 true H (fun k' => k' t7 H) fun t20 H =>
      p.guard t18 true H (fun k' => p.bin .sub t20 (.sc (.int .i64 1)) fun t' => k' t' H) fun t21 H =>
      p.guard t18 true H (fun k' => p.iadr 1 t19 t21 fun t' => k' t' H) fun t22 H =>
      p.guard t18 true H (fun k' => p.load false 1 t22 H fun t' => k' t' H) fun t23 H =>
      p.guard t18 true H (fun k' => k' t11 H) fun t24 H =>
      p.guard t18 true H (fun k' => p.bin .geq t23 t24 fun t' => k' t' H) fun t25 H =>
      p.guard t14 false H (fun k' => p.pick t18 t25 (.sc (.bool false)) fun t' => k' t' H) fun t26 H =>
      p.pick t14 (.sc (.bool true)) t26 fun t27 =>
      p.cond t27
      (k (.sc (.bool false)) H)
      (p.bin .add t7 (.sc (.int .i64 1)) fun t28 =>
      f17_l0 p n  k m t0 t5 t6 t28 H))
      (p.len t0 fun t30 =>
      p.bin .leq t30 (.sc (.int .i64 4)) fun t31 =>
      k t31 H)
noncomputable def f17 (p : Pr β) (n : Nat) (a0 : AV) (H : Heap) (k : AV → Heap → Option β) : Option β :=
  p.len a0 fun t6 =>
  f17_l0 p n  k n a0 a0 t6 (.sc (.int .i64 0)) H
noncomputable def f17_L0 (p : Pr β) (n : Nat)  (k : AV → Heap → Option β) (m : Nat) (tm : Tm) (H : Heap) : Option β :=
  iterC 32 (fun tm H k => evalCode ti0 p o17 32 n (cd c17 [1, 0, 1, 0, 0]) tm H k) (blkK 0 (seqK (fun tm H => evalCode ti0 p o17 32 n (cd c17 [1, 1]) tm H (endK ti0 p Go.Proofs.Try.f17.results.toList k)) (endK ti0 p Go.Proofs.Try.f17.results.toList k))) m tm H
theorem f17_L0_step (p : Pr β) (n : Nat)  (k : AV → Heap → Option β) (m0 : Nat) (t0 t1 t2 t3 t4 t5 t6 t7 t8 t9 t10 t11 t12 t13 t14 t15 t16 t17 t18 t19 t20 t21 t22 t23 t24 t25 t26 t27 t28 t29 t30 t31 : AV) (H : Heap) : f17_L0 p n  k (m0 + 1) [(0, t0), (1, t1), (2, t2), (3, t3), (4, t4), (5, t5), (6, t6), (7, t7), (8, t8), (9, t9), (10, t10), (11, t11), (12, t12), (13, t13), (14, t14), (15, t15), (16, t16), (17, t17), (18, t18), (19, t19), (20, t20), (21, t21), (22, t22), (23, t23), (24, t24), (25, t25), (26, t26), (27, t27), (28, t28), (29, t29), (30, t30), (31, t31)] H =
  p.bin .lss t7 t6 fun t8 =>
  p.cond t8
  (p.iadr 1 t5 t7 fun t10 =>
  p.load false 1 t10 H fun t11 =>
  p.call 4 (.fn 48 [] []) [t11] H fun t13 H =>
  p.un .not t13 fun t14 =>
  p.guard t14 false H (fun k' => k' t7 H) fun t16 H =>
  p.guard t14 false H (fun k' => p.bin .gtr t16 (.sc (.int .i64 0)) fun t' => k' t' H) fun t17 H =>
  p.guard t14 false H (fun k' => k' t17 H) fun t18 H =>
  p.guard t18 true H (fun k' => k' t0 H) fun t19 H =>
  p.guard t18 true H (fun k' => k' t7 H) fun t20 H =>
  p.guard t18 true H (fun k' => p.bin .sub t20 (.sc (.int .i64 1)) fun t' => k' t' H) fun t21 H =>
  p.guard t18 true H (fun k' => p.iadr 1 t19 t21 fun t' => k' t' H) fun t22 H =>
  p.guard t18 true H (fun k' => p.load false 1 t22 H fun t' => k' t' H) fun t23 H =>
  p.guard t18 true H (fun k' => k' t11 H) fun t24 H =>
  p.guard t18 true H (fun k' => p.bin .geq t23 t24 fun t' => k' t' H) fun t25 H =>
  p.guard t14 false H (fun k' => p.pick t18 t25 (.sc (.bool false)) fun t' => k' t' H) fun t26 H =>
  p.pick t14 (.sc (.bool true)) t26 fun t27 =>
  p.cond t27
  (k (.sc (.bool false)) H)
  (p.bin .add t7 (.sc (.int .i64 1)) fun t28 =>
  f17_L0 p n  k m0 [(0, t0), (1, t1), (2, t2), (3, t7), (4, t11), (5, t5), (6, t6), (7, t28), (8, t8), (9, t7), (10, t10), (11, t11), (12, t11), (13, t13), (14, t14), (15, t14), (16, t16), (17, t17), (18, t18), (19, t19), (20, t20), (21, t21), (22, t22), (23, t23), (24, t24), (25, t25), (26, t26), (27, t27), (28, t28), (29, t29), (30, t30), (31, t31)] H))
  (p.len t0 fun t30 =>
  p.bin .leq t30 (.sc (.int .i64 4)) fun t31 =>
  k t31 H) := by kernel_rfl
theorem f17_l0_eq (p : Pr β) (n : Nat)  (k : AV → Heap → Option β)   (m0 : Nat) : ∀ (t0 t1 t2 t3 t4 t5 t6 t7 t8 t9 t10 t11 t12 t13 t14 t15 t16 t17 t18 t19 t20 t21 t22 t23 t24 t25 t26 t27 t28 t29 t30 t31 : AV) (H : Heap), f17_L0 p n  k m0 [(0, t0), (1, t1), (2, t2), (3, t3), (4, t4), (5, t5), (6, t6), (7, t7), (8, t8), (9, t9), (10, t10), (11, t11), (12, t12), (13, t13), (14, t14), (15, t15), (16, t16), (17, t17), (18, t18), (19, t19), (20, t20), (21, t21), (22, t22), (23, t23), (24, t24), (25, t25), (26, t26), (27, t27), (28, t28), (29, t29), (30, t30), (31, t31)] H = f17_l0 p n  k m0 t0 t5 t6 t7 H := by
  induction m0 with
  | zero => intros; rfl
  | succ m0 ih =>
    intro t0 t1 t2 t3 t4 t5 t6 t7 t8 t9 t10 t11 t12 t13 t14 t15 t16 t17 t18 t19 t20 t21 t22 t23 t24 t25 t26 t27 t28 t29 t30 t31 H
    rw [f17_L0_step]
    simp only [ih]
    rfl
theorem f17_raw (p : Pr β) (n : Nat) (a0 : AV) (H : Heap) (k : AV → Heap → Option β) : evalBody ti0 p n ⟨c17, 32, Go.Proofs.Try.f17.results.toList, o17⟩ [a0] H k =
  p.len a0 fun t6 =>
  f17_L0 p n  k n [(0, a0), (1, (.sc undef)), (2, (.sc (.bool false))), (3, (.sc undef)), (4, (.sc undef)), (5, a0), (6, t6), (7, (.sc (.int .i64 0))), (8, (.sc undef)), (9, (.sc undef)), (10, (.sc undef)), (11, (.sc undef)), (12, (.sc undef)), (13, (.sc undef)), (14, (.sc undef)), (15, (.sc undef)), (16, (.sc undef)), (17, (.sc undef)), (18, (.sc undef)), (19, (.sc undef)), (20, (.sc undef)), (21, (.sc undef)), (22, (.sc undef)), (23, (.sc undef)), (24, (.sc undef)), (25, (.sc undef)), (26, (.sc undef)), (27, (.sc undef)), (28, (.sc undef)), (29, (.sc undef)), (30, (.sc undef)), (31, (.sc undef))] H := by kernel_rfl
theorem f17_body (p : Pr β) (n : Nat) (a0 : AV) (H : Heap) (k : AV → Heap → Option β) : evalBody ti0 p n ⟨c17, 32, Go.Proofs.Try.f17.results.toList, o17⟩ [a0] H k = f17 p n a0 H k := by
  rw [f17_raw]
  simp only [f17_l0_eq]
  rfl

/-! 18 loop.example/g00480/laws.eqIntS -/
noncomputable def f18_l0 (p : Pr β) (n : Nat)  (k : AV → Heap → Option β) : Nat → AV → AV → AV → Heap → Option β
  | 0, _, _, _, _ => none
  | m + 1, t0, t1, t5, H => p.len t0 fun t13 =>
      p.bin .lss t5 t13 fun t14 =>
      p.cond t14
      (p.iadr 1 t0 t5 fun t19 =>
      p.load false 1 t19 H fun t20 =>
      p.iadr 1 t1 t5 fun t23 =>
      p.load false 1 t23 H fun t24 =>
      p.bin .neq t20 t24 fun t25 =>
      p.cond t25
      (k (.sc (.bool false)) H)
      (p.bin .add t5 (.sc (.int .i64 1)) fun t16 =>
      f18_l0 p n  k m t0 t1 t16 H))
      (k (.sc (.bool true)) H)
noncomputable def f18 (p : Pr β) (n : Nat) (a0 a1 : AV) (H : Heap) (k : AV → Heap → Option β) : Option β :=
  p.len a0 fun t7 =>
  p.len a1 fun t9 =>
  p.bin .neq t7 t9 fun t10 =>
  p.cond t10
  (k (.sc (.bool false)) H)
  (f18_l0 p n  k n a0 a1 (.sc (.int .i64 0)) H)
noncomputable def f18_L0 (p : Pr β) (n : Nat)  (k : AV → Heap → Option β) (m : Nat) (tm : Tm) (H : Heap) : Option β :=
  iterC 26 (fun tm H k => evalCode ti0 p o18 26 n (cd c18 [1, 1, 0, 1, 0, 0]) tm H k) (blkK 0 (seqK (fun tm H => evalCode ti0 p o18 26 n (cd c18 [1, 1, 1]) tm H (endK ti0 p Go.Proofs.Try.f18.results.toList k)) (endK ti0 p Go.Proofs.Try.f18.results.toList k))) m tm H
theorem f18_L0_step (p : Pr β) (n : Nat)  (k : AV → Heap → Option β) (m0 : Nat) (t0 t1 t2 t3 t4 t5 t6 t7 t8 t9 t10 t11 t12 t13 t14 t15 t16 t17 t18 t19 t20 t21 t22 t23 t24 t25 : AV) (H : Heap) : f18_L0 p n  k (m0 + 1) [(0, t0), (1, t1), (2, t2), (3, t3), (4, t4), (5, t5), (6, t6), (7, t7), (8, t8), (9, t9), (10, t10), (11, t11), (12, t12), (13, t13), (14, t14), (15, t15), (16, t16), (17, t17), (18, t18), (19, t19), (20, t20), (21, t21), (22, t22), (23, t23), (24, t24), (25, t25)] H =
  p.len t0 fun t13 =>
  p.bin .lss t5 t13 fun t14 =>
  p.cond t14
  (p.iadr 1 t0 t5 fun t19 =>
  p.load false 1 t19 H fun t20 =>
  p.iadr 1 t1 t5 fun t23 =>
  p.load false 1 t23 H fun t24 =>
  p.bin .neq t20 t24 fun t25 =>
  p.cond t25
  (k (.sc (.bool false)) H)
  (p.bin .add t5 (.sc (.int .i64 1)) fun t16 =>
  f18_L0 p n  k m0 [(0, t0), (1, t1), (2, t2), (3, t3), (4, t4), (5, t16), (6, t6), (7, t7), (8, t8), (9, t9), (10, t10), (11, t5), (12, t0), (13, t13), (14, t14), (15, t5), (16, t16), (17, t0), (18, t5), (19, t19), (20, t20), (21, t1), (22, t5), (23, t23), (24, t24), (25, t25)] H))
  (k (.sc (.bool true)) H) := by kernel_rfl
theorem f18_l0_eq (p : Pr β) (n : Nat)  (k : AV → Heap → Option β)   (m0 : Nat) : ∀ (t0 t1 t2 t3 t4 t5 t6 t7 t8 t9 t10 t11 t12 t13 t14 t15 t16 t17 t18 t19 t20 t21 t22 t23 t24 t25 : AV) (H : Heap), f18_L0 p n  k m0 [(0, t0), (1, t1), (2, t2), (3, t3), (4, t4), (5, t5), (6, t6), (7, t7), (8, t8), (9, t9), (10, t10), (11, t11), (12, t12), (13, t13), (14, t14), (15, t15), (16, t16), (17, t17), (18, t18), (19, t19), (20, t20), (21, t21), (22, t22), (23, t23), (24, t24), (25, t25)] H = f18_l0 p n  k m0 t0 t1 t5 H := by
  induction m0 with
  | zero => intros; rfl
  | succ m0 ih =>
    intro t0 t1 t2 t3 t4 t5 t6 t7 t8 t9 t10 t11 t12 t13 t14 t15 t16 t17 t18 t19 t20 t21 t22 t23 t24 t25 H
    rw [f18_L0_step]
    simp only [ih]
    rfl
theorem f18_raw (p : Pr β) (n : Nat) (a0 a1 : AV) (H : Heap) (k : AV → Heap → Option β) : evalBody ti0 p n ⟨c18, 26, Go.Proofs.Try.f18.results.toList, o18⟩ [a0, a1] H k =
  p.len a0 fun t7 =>
  p.len a1 fun t9 =>
  p.bin .neq t7 t9 fun t10 =>
  p.cond t10
  (k (.sc (.bool false)) H)
  (f18_L0 p n  k n [(0, a0), (1, a1), (2, (.sc undef)), (3, (.sc undef)), (4, (.sc (.bool false))), (5, (.sc (.int .i64 0))), (6, a0), (7, t7), (8, a1), (9, t9), (10, t10), (11, (.sc undef)), (12, (.sc undef)), (13, (.sc undef)), (14, (.sc undef)), (15, (.sc undef)), (16, (.sc undef)), (17, (.sc undef)), (18, (.sc undef)), (19, (.sc undef)), (20, (.sc undef)), (21, (.sc undef)), (22, (.sc undef)), (23, (.sc undef)), (24, (.sc undef)), (25, (.sc undef))] H) := by kernel_rfl
theorem f18_body (p : Pr β) (n : Nat) (a0 a1 : AV) (H : Heap) (k : AV → Heap → Option β) : evalBody ti0 p n ⟨c18, 26, Go.Proofs.Try.f18.results.toList, o18⟩ [a0, a1] H k = f18 p n a0 a1 H k := by
  rw [f18_raw]
  simp only [f18_l0_eq]
  rfl

/-! 5 loop.example/g00480/laws.FnExactInOk -/
noncomputable def f5 (p : Pr β) (n : Nat) (a0 : AV) (H : Heap) (k : AV → Heap → Option β) : Option β :=
  p.len a0 fun t7 =>
  p.bin .gtr t7 (.sc (.int .i64 1048576)) fun t8 =>
  p.cond t8
  (k (.sc (.bool true)) H)
  (p.call 25 (.fn 16 [] []) [a0] H fun t10 H =>
  p.call 4 (.fn 15 [] []) [t10] H fun t11 H =>
  p.call 25 (.fn 16 [] []) [a0] H fun t13 H =>
  p.call 4 (.fn 17 [] []) [t13] H fun t15 H =>
  p.binB .neq t15 t11 fun t18 =>
  p.cond t18
  (k (.sc (.bool false)) H)
  (p.call 25 (.fn 16 [] []) [a0] H fun t21 H =>
  p.call 4 (.fn 18 [] []) [t13, t21] H fun t22 H =>
  p.un .not t22 fun t23 =>
  p.cond t23
  (k (.sc (.bool false)) H)
  (k (.sc (.bool true)) H)))
theorem f5_body (p : Pr β) (n : Nat) (a0 : AV) (H : Heap) (k : AV → Heap → Option β) : evalBody ti0 p n ⟨c5, 24, Go.Proofs.Try.f5.results.toList, o5⟩ [a0] H k = f5 p n a0 H k := by kernel_rfl

/-! 49 loop.example/g00480/laws.szByteS -/
noncomputable def f49 (p : Pr β) (n : Nat) (a0 a1 : AV) (H : Heap) (k : AV → Heap → Option β) : Option β :=
  p.len a0 fun t7 =>
  p.bin .sub a1 t7 fun t8 =>
  p.bin .lss t8 (.sc (.int .i64 0)) fun t10 =>
  p.cond t10
  (k (.sc (.int .i64 (-1))) H)
  (k t8 H)
theorem f49_body (p : Pr β) (n : Nat) (a0 a1 : AV) (H : Heap) (k : AV → Heap → Option β) : evalBody ti0 p n ⟨c49, 12, Go.Proofs.Try.f49.results.toList, o49⟩ [a0, a1] H k = f49 p n a0 a1 H k := by kernel_rfl

/-! 19 loop.example/g00480/laws.szMsg -/
noncomputable def f19 (p : Pr β) (n : Nat) (a0 a1 : AV) (H : Heap) (k : AV → Heap → Option β) : Option β :=
  p.box a0 H fun t2 H =>
  p.fadr 0 t2 fun t6 =>
  p.load false 1 t6 H fun t7 =>
  p.lenS t7 fun t8 =>
  p.bin .sub a1 t8 fun t9 =>
  p.bin .lss t9 (.sc (.int .i64 0)) fun t11 =>
  p.cond t11
  (k (.sc (.int .i64 (-1))) H)
  (p.fadr 1 t2 fun t12 =>
  p.load false 1 t12 H fun t13 =>
  p.call 3 (.fn 49 [] []) [t13, t9] H fun t15 H =>
  p.bin .lss t15 (.sc (.int .i64 0)) fun t17 =>
  p.cond t17
  (k (.sc (.int .i64 (-1))) H)
  (k t15 H))
theorem f19_body (p : Pr β) (n : Nat) (a0 a1 : AV) (H : Heap) (k : AV → Heap → Option β) : evalBody ti0 p n ⟨c19, 19, Go.Proofs.Try.f19.results.toList, o19⟩ [a0, a1] H k = f19 p n a0 a1 H k := by kernel_rfl

/-! 51 loop.example/g00480/laws.toByteS -/
noncomputable def f51_l0 (p : Pr β) (n : Nat)  (k : AV → Heap → Option β) : Nat → AV → AV → AV → Heap → Option β
  | 0, _, _, _, _ => none
  | m + 1, t0, t3, t4, H => p.len t0 fun t10 =>
      p.bin .lss t4 t10 fun t11 =>
      p.cond t11
      (p.iadr 1 t0 t4 fun t18 =>
      p.load false 1 t18 H fun t19 =>
      p.iadr 1 t3 t4 fun t20 =>
      p.store 1 t20 t19 H fun H =>
      p.bin .add t4 (.sc (.int .i64 1)) fun t13 =>
      f51_l0 p n  k m t0 t3 t13 H)
      (k t3 H)
noncomputable def f51 (p : Pr β) (n : Nat) (a0 : AV) (H : Heap) (k : AV → Heap → Option β) : Option β :=
  p.len a0 fun t6 =>
  p.make 1 1 [(.sc (.int .u8 0))] t6 t6 H fun t7 H =>
  f51_l0 p n  k n a0 t7 (.sc (.int .i64 0)) H
noncomputable def f51_L0 (p : Pr β) (n : Nat)  (k : AV → Heap → Option β) (m : Nat) (tm : Tm) (H : Heap) : Option β :=
  iterC 22 (fun tm H k => evalCode ti0 p o51 22 n (cd c51 [1, 1, 0, 1, 0, 0]) tm H k) (blkK 0 (seqK (fun tm H => evalCode ti0 p o51 22 n (cd c51 [1, 1, 1]) tm H (endK ti0 p Go.Proofs.Try.f51.results.toList k)) (endK ti0 p Go.Proofs.Try.f51.results.toList k))) m tm H
theorem f51_L0_step (p : Pr β) (n : Nat)  (k : AV → Heap → Option β) (m0 : Nat) (t0 t1 t2 t3 t4 t5 t6 t7 t8 t9 t10 t11 t12 t13 t14 t15 t16 t17 t18 t19 t20 t21 : AV) (H : Heap) : f51_L0 p n  k (m0 + 1) [(0, t0), (1, t1), (2, t2), (3, t3), (4, t4), (5, t5), (6, t6), (7, t7), (8, t8), (9, t9), (10, t10), (11, t11), (12, t12), (13, t13), (14, t14), (15, t15), (16, t16), (17, t17), (18, t18), (19, t19), (20, t20), (21, t21)] H =
  p.len t0 fun t10 =>
  p.bin .lss t4 t10 fun t11 =>
  p.cond t11
  (p.iadr 1 t0 t4 fun t18 =>
  p.load false 1 t18 H fun t19 =>
  p.iadr 1 t3 t4 fun t20 =>
  p.store 1 t20 t19 H fun H =>
  p.bin .add t4 (.sc (.int .i64 1)) fun t13 =>
  f51_L0 p n  k m0 [(0, t0), (1, t1), (2, t2), (3, t3), (4, t13), (5, t5), (6, t6), (7, t7), (8, t4), (9, t0), (10, t10), (11, t11), (12, t4), (13, t13), (14, t3), (15, t4), (16, t0), (17, t4), (18, t18), (19, t19), (20, t20), (21, t21)] H)
  (k t3 H) := by kernel_rfl
theorem f51_l0_eq (p : Pr β) (n : Nat)  (k : AV → Heap → Option β)   (m0 : Nat) : ∀ (t0 t1 t2 t3 t4 t5 t6 t7 t8 t9 t10 t11 t12 t13 t14 t15 t16 t17 t18 t19 t20 t21 : AV) (H : Heap), f51_L0 p n  k m0 [(0, t0), (1, t1), (2, t2), (3, t3), (4, t4), (5, t5), (6, t6), (7, t7), (8, t8), (9, t9), (10, t10), (11, t11), (12, t12), (13, t13), (14, t14), (15, t15), (16, t16), (17, t17), (18, t18), (19, t19), (20, t20), (21, t21)] H = f51_l0 p n  k m0 t0 t3 t4 H := by
  induction m0 with
  | zero => intros; rfl
  | succ m0 ih =>
    intro t0 t1 t2 t3 t4 t5 t6 t7 t8 t9 t10 t11 t12 t13 t14 t15 t16 t17 t18 t19 t20 t21 H
    rw [f51_L0_step]
    simp only [ih]
    rfl
theorem f51_raw (p : Pr β) (n : Nat) (a0 : AV) (H : Heap) (k : AV → Heap → Option β) : evalBody ti0 p n ⟨c51, 22, Go.Proofs.Try.f51.results.toList, o51⟩ [a0] H k =
  p.len a0 fun t6 =>
  p.make 1 1 [(.sc (.int .u8 0))] t6 t6 H fun t7 H =>
  f51_L0 p n  k n [(0, a0), (1, (.sc undef)), (2, .nl), (3, t7), (4, (.sc (.int .i64 0))), (5, a0), (6, t6), (7, t7), (8, (.sc undef)), (9, (.sc undef)), (10, (.sc undef)), (11, (.sc undef)), (12, (.sc undef)), (13, (.sc undef)), (14, (.sc undef)), (15, (.sc undef)), (16, (.sc undef)), (17, (.sc undef)), (18, (.sc undef)), (19, (.sc undef)), (20, (.sc undef)), (21, (.sc undef))] H := by kernel_rfl
theorem f51_body (p : Pr β) (n : Nat) (a0 : AV) (H : Heap) (k : AV → Heap → Option β) : evalBody ti0 p n ⟨c51, 22, Go.Proofs.Try.f51.results.toList, o51⟩ [a0] H k = f51 p n a0 H k := by
  rw [f51_raw]
  simp only [f51_l0_eq]
  rfl

/-! 21 loop.example/g00480/laws.toMsg -/
noncomputable def f21 (p : Pr β) (n : Nat) (a0 : AV) (H : Heap) (k : AV → Heap → Option β) : Option β :=
  p.box a0 H fun t1 H =>
  p.new [(.sc (.string ⟨#[]⟩)), .nl, (.sc (.int .i64 0)), (.sc (.bool false))] H fun t2 H =>
  p.new [(.sc (.string ⟨#[]⟩)), .nl, (.sc (.int .i64 0)), (.sc (.bool false))] H fun t3 H =>
  p.fadr 0 t1 fun t4 =>
  p.load false 1 t4 H fun t5 =>
  p.fadr 0 t3 fun t6 =>
  p.store 1 t6 t5 H fun H =>
  p.fadr 1 t1 fun t7 =>
  p.load false 1 t7 H fun t8 =>
  p.call 29 (.fn 51 [] []) [t8] H fun t9 H =>
  p.fadr 1 t3 fun t10 =>
  p.store 1 t10 t9 H fun H =>
  p.fadr 2 t1 fun t11 =>
  p.load false 1 t11 H fun t12 =>
  p.fadr 2 t3 fun t13 =>
  p.store 1 t13 t12 H fun H =>
  p.fadr 3 t1 fun t14 =>
  p.load false 1 t14 H fun t15 =>
  p.fadr 3 t3 fun t16 =>
  p.store 1 t16 t15 H fun H =>
  p.load true 4 t3 H fun t17 =>
  p.store 4 t2 t17 H fun H =>
  p.load true 4 t2 H fun r0 =>
  k r0 H
theorem f21_body (p : Pr β) (n : Nat) (a0 : AV) (H : Heap) (k : AV → Heap → Option β) : evalBody ti0 p n ⟨c21, 18, Go.Proofs.Try.f21.results.toList, o21⟩ [a0] H k = f21 p n a0 H k := by kernel_rfl

/-! 50 loop.example/g00480/spec.l1Same -/
noncomputable def f50 (p : Pr β) (n : Nat) (a0 a1 : AV) (H : Heap) (k : AV → Heap → Option β) : Option β :=
  p.cvBS a0 H fun t6 =>
  p.cvBS a1 H fun t8 =>
  p.bin .eql t6 t8 fun t9 =>
  k t9 H
theorem f50_body (p : Pr β) (n : Nat) (a0 a1 : AV) (H : Heap) (k : AV → Heap → Option β) : evalBody ti0 p n ⟨c50, 10, Go.Proofs.Try.f50.results.toList, o50⟩ [a0, a1] H k = f50 p n a0 a1 H k := by kernel_rfl

/-! 20 loop.example/g00480/spec.SameMsg -/
noncomputable def f20 (p : Pr β) (n : Nat) (a0 a1 : AV) (H : Heap) (k : AV → Heap → Option β) : Option β :=
  p.box a0 H fun t2 H =>
  p.box a1 H fun t3 H =>
  p.fadr 0 t2 fun t5 =>
  p.load false 1 t5 H fun t6 =>
  p.fadr 0 t3 fun t7 =>
  p.load false 1 t7 H fun t8 =>
  p.bin .eql t6 t8 fun t9 =>
  p.guard t9 true H (fun k' => p.fadr 1 t2 fun t' => k' t' H) fun t11 H =>
  p.guard t9 true H (fun k' => p.load false 1 t11 H fun t' => k' t' H) fun t12 H =>
  p.guard t9 true H (fun k' => p.fadr 1 t3 fun t' => k' t' H) fun t13 H =>
  p.guard t9 true H (fun k' => p.load false 1 t13 H fun t' => k' t' H) fun t14 H =>
  p.guard t9 true H (fun k' => p.call 4 (.fn 50 [] []) [t12, t14] H fun t' H => k' t' H) fun t15 H =>
  p.pick t9 t15 (.sc (.bool false)) fun t16 =>
  p.guard t16 true H (fun k' => p.fadr 2 t2 fun t' => k' t' H) fun t18 H =>
  p.guard t16 true H (fun k' => p.load false 1 t18 H fun t' => k' t' H) fun t19 H =>
  p.guard t16 true H (fun k' => p.fadr 2 t3 fun t' => k' t' H) fun t20 H =>
  p.guard t16 true H (fun k' => p.load false 1 t20 H fun t' => k' t' H) fun t21 H =>
  p.guard t16 true H (fun k' => p.bin .eql t19 t21 fun t' => k' t' H) fun t22 H =>
  p.pick t16 t22 (.sc (.bool false)) fun t23 =>
  p.guard t23 true H (fun k' => p.fadr 3 t2 fun t' => k' t' H) fun t25 H =>
  p.guard t23 true H (fun k' => p.load false 1 t25 H fun t' => k' t' H) fun t26 H =>
  p.guard t23 true H (fun k' => p.fadr 3 t3 fun t' => k' t' H) fun t27 H =>
  p.guard t23 true H (fun k' => p.load false 1 t27 H fun t' => k' t' H) fun t28 H =>
  p.guard t23 true H (fun k' => p.binB .eql t26 t28 fun t' => k' t' H) fun t29 H =>
  p.pick t23 t29 (.sc (.bool false)) fun t30 =>
  k t30 H
theorem f20_body (p : Pr β) (n : Nat) (a0 a1 : AV) (H : Heap) (k : AV → Heap → Option β) : evalBody ti0 p n ⟨c20, 31, Go.Proofs.Try.f20.results.toList, o20⟩ [a0, a1] H k = f20 p n a0 a1 H k := by kernel_rfl

/-! 52 bytes.Equal -/
noncomputable def f52 (p : Pr β) (n : Nat) (a0 a1 : AV) (H : Heap) (k : AV → Heap → Option β) : Option β :=
  p.cvBS a0 H fun t6 =>
  p.cvBS a1 H fun t8 =>
  p.bin .eql t6 t8 fun t9 =>
  k t9 H
theorem f52_body (p : Pr β) (n : Nat) (a0 a1 : AV) (H : Heap) (k : AV → Heap → Option β) : evalBody ti0 p n ⟨c52, 10, Go.Proofs.Try.f52.results.toList, o52⟩ [a0, a1] H k = f52 p n a0 a1 H k := by kernel_rfl

/-! 22 loop.example/g00480/impl.SameMsg -/
noncomputable def f22 (p : Pr β) (n : Nat) (a0 a1 : AV) (H : Heap) (k : AV → Heap → Option β) : Option β :=
  p.box a0 H fun t2 H =>
  p.box a1 H fun t3 H =>
  p.fadr 0 t2 fun t5 =>
  p.load false 1 t5 H fun t6 =>
  p.fadr 0 t3 fun t7 =>
  p.load false 1 t7 H fun t8 =>
  p.bin .eql t6 t8 fun t9 =>
  p.guard t9 true H (fun k' => p.fadr 1 t2 fun t' => k' t' H) fun t11 H =>
  p.guard t9 true H (fun k' => p.load false 1 t11 H fun t' => k' t' H) fun t12 H =>
  p.guard t9 true H (fun k' => p.fadr 1 t3 fun t' => k' t' H) fun t13 H =>
  p.guard t9 true H (fun k' => p.load false 1 t13 H fun t' => k' t' H) fun t14 H =>
  p.guard t9 true H (fun k' => p.call 4 (.fn 52 [] []) [t12, t14] H fun t' H => k' t' H) fun t15 H =>
  p.pick t9 t15 (.sc (.bool false)) fun t16 =>
  p.guard t16 true H (fun k' => p.fadr 2 t2 fun t' => k' t' H) fun t18 H =>
  p.guard t16 true H (fun k' => p.load false 1 t18 H fun t' => k' t' H) fun t19 H =>
  p.guard t16 true H (fun k' => p.fadr 2 t3 fun t' => k' t' H) fun t20 H =>
  p.guard t16 true H (fun k' => p.load false 1 t20 H fun t' => k' t' H) fun t21 H =>
  p.guard t16 true H (fun k' => p.bin .eql t19 t21 fun t' => k' t' H) fun t22 H =>
  p.pick t16 t22 (.sc (.bool false)) fun t23 =>
  p.guard t23 true H (fun k' => p.fadr 3 t2 fun t' => k' t' H) fun t25 H =>
  p.guard t23 true H (fun k' => p.load false 1 t25 H fun t' => k' t' H) fun t26 H =>
  p.guard t23 true H (fun k' => p.fadr 3 t3 fun t' => k' t' H) fun t27 H =>
  p.guard t23 true H (fun k' => p.load false 1 t27 H fun t' => k' t' H) fun t28 H =>
  p.guard t23 true H (fun k' => p.binB .eql t26 t28 fun t' => k' t' H) fun t29 H =>
  p.pick t23 t29 (.sc (.bool false)) fun t30 =>
  k t30 H
theorem f22_body (p : Pr β) (n : Nat) (a0 a1 : AV) (H : Heap) (k : AV → Heap → Option β) : evalBody ti0 p n ⟨c22, 31, Go.Proofs.Try.f22.results.toList, o22⟩ [a0, a1] H k = f22 p n a0 a1 H k := by kernel_rfl

/-! 53 loop.example/g00480/laws.eqByteS -/
noncomputable def f53_l0 (p : Pr β) (n : Nat)  (k : AV → Heap → Option β) : Nat → AV → AV → AV → Heap → Option β
  | 0, _, _, _, _ => none
  | m + 1, t0, t1, t5, H => p.len t0 fun t13 =>
      p.bin .lss t5 t13 fun t14 =>
      p.cond t14
      (p.iadr 1 t0 t5 fun t19 =>
      p.load false 1 t19 H fun t20 =>
      p.iadr 1 t1 t5 fun t23 =>
      p.load false 1 t23 H fun t24 =>
      p.bin .neq t20 t24 fun t25 =>
      p.cond t25
      (k (.sc (.bool false)) H)
      (p.bin .add t5 (.sc (.int .i64 1)) fun t16 =>
      f53_l0 p n  k m t0 t1 t16 H))
      (k (.sc (.bool true)) H)
noncomputable def f53 (p : Pr β) (n : Nat) (a0 a1 : AV) (H : Heap) (k : AV → Heap → Option β) : Option β :=
  p.len a0 fun t7 =>
  p.len a1 fun t9 =>
  p.bin .neq t7 t9 fun t10 =>
  p.cond t10
  (k (.sc (.bool false)) H)
  (f53_l0 p n  k n a0 a1 (.sc (.int .i64 0)) H)
noncomputable def f53_L0 (p : Pr β) (n : Nat)  (k : AV → Heap → Option β) (m : Nat) (tm : Tm) (H : Heap) : Option β :=
  iterC 26 (fun tm H k => evalCode ti0 p o53 26 n (cd c53 [1, 1, 0, 1, 0, 0]) tm H k) (blkK 0 (seqK (fun tm H => evalCode ti0 p o53 26 n (cd c53 [1, 1, 1]) tm H (endK ti0 p Go.Proofs.Try.f53.results.toList k)) (endK ti0 p Go.Proofs.Try.f53.results.toList k))) m tm H
theorem f53_L0_step (p : Pr β) (n : Nat)  (k : AV → Heap → Option β) (m0 : Nat) (t0 t1 t2 t3 t4 t5 t6 t7 t8 t9 t10 t11 t12 t13 t14 t15 t16 t17 t18 t19 t20 t21 t22 t23 t24 t25 : AV) (H : Heap) : f53_L0 p n  k (m0 + 1) [(0, t0), (1, t1), (2, t2), (3, t3), (4, t4), (5, t5), (6, t6), (7, t7), (8, t8), (9, t9), (10, t10), (11, t11), (12, t12), (13, t13), (14, t14), (15, t15), (16, t16), (17, t17), (18, t18), (19, t19), (20, t20), (21, t21), (22, t22), (23, t23), (24, t24), (25, t25)] H =
  p.len t0 fun t13 =>
  p.bin .lss t5 t13 fun t14 =>
  p.cond t14
  (p.iadr 1 t0 t5 fun t19 =>
  p.load false 1 t19 H fun t20 =>
  p.iadr 1 t1 t5 fun t23 =>
  p.load false 1 t23 H fun t24 =>
  p.bin .neq t20 t24 fun t25 =>
  p.cond t25
  (k (.sc (.bool false)) H)
  (p.bin .add t5 (.sc (.int .i64 1)) fun t16 =>
  f53_L0 p n  k m0 [(0, t0), (1, t1), (2, t2), (3, t3), (4, t4), (5, t16), (6, t6), (7, t7), (8, t8), (9, t9), (10, t10), (11, t5), (12, t0), (13, t13), (14, t14), (15, t5), (16, t16), (17, t0), (18, t5), (19, t19), (20, t20), (21, t1), (22, t5), (23, t23), (24, t24), (25, t25)] H))
  (k (.sc (.bool true)) H) := by kernel_rfl
theorem f53_l0_eq (p : Pr β) (n : Nat)  (k : AV → Heap → Option β)   (m0 : Nat) : ∀ (t0 t1 t2 t3 t4 t5 t6 t7 t8 t9 t10 t11 t12 t13 t14 t15 t16 t17 t18 t19 t20 t21 t22 t23 t24 t25 : AV) (H : Heap), f53_L0 p n  k m0 [(0, t0), (1, t1), (2, t2), (3, t3), (4, t4), (5, t5), (6, t6), (7, t7), (8, t8), (9, t9), (10, t10), (11, t11), (12, t12), (13, t13), (14, t14), (15, t15), (16, t16), (17, t17), (18, t18), (19, t19), (20, t20), (21, t21), (22, t22), (23, t23), (24, t24), (25, t25)] H = f53_l0 p n  k m0 t0 t1 t5 H := by
  induction m0 with
  | zero => intros; rfl
  | succ m0 ih =>
    intro t0 t1 t2 t3 t4 t5 t6 t7 t8 t9 t10 t11 t12 t13 t14 t15 t16 t17 t18 t19 t20 t21 t22 t23 t24 t25 H
    rw [f53_L0_step]
    simp only [ih]
    rfl
theorem f53_raw (p : Pr β) (n : Nat) (a0 a1 : AV) (H : Heap) (k : AV → Heap → Option β) : evalBody ti0 p n ⟨c53, 26, Go.Proofs.Try.f53.results.toList, o53⟩ [a0, a1] H k =
  p.len a0 fun t7 =>
  p.len a1 fun t9 =>
  p.bin .neq t7 t9 fun t10 =>
  p.cond t10
  (k (.sc (.bool false)) H)
  (f53_L0 p n  k n [(0, a0), (1, a1), (2, (.sc undef)), (3, (.sc undef)), (4, (.sc (.bool false))), (5, (.sc (.int .i64 0))), (6, a0), (7, t7), (8, a1), (9, t9), (10, t10), (11, (.sc undef)), (12, (.sc undef)), (13, (.sc undef)), (14, (.sc undef)), (15, (.sc undef)), (16, (.sc undef)), (17, (.sc undef)), (18, (.sc undef)), (19, (.sc undef)), (20, (.sc undef)), (21, (.sc undef)), (22, (.sc undef)), (23, (.sc undef)), (24, (.sc undef)), (25, (.sc undef))] H) := by kernel_rfl
theorem f53_body (p : Pr β) (n : Nat) (a0 a1 : AV) (H : Heap) (k : AV → Heap → Option β) : evalBody ti0 p n ⟨c53, 26, Go.Proofs.Try.f53.results.toList, o53⟩ [a0, a1] H k = f53 p n a0 a1 H k := by
  rw [f53_raw]
  simp only [f53_l0_eq]
  rfl

/-! 23 loop.example/g00480/laws.eqMsg -/
noncomputable def f23 (p : Pr β) (n : Nat) (a0 a1 : AV) (H : Heap) (k : AV → Heap → Option β) : Option β :=
  p.box a0 H fun t2 H =>
  p.box a1 H fun t3 H =>
  p.fadr 0 t2 fun t5 =>
  p.load false 1 t5 H fun t6 =>
  p.fadr 0 t3 fun t7 =>
  p.load false 1 t7 H fun t8 =>
  p.bin .neq t6 t8 fun t9 =>
  p.cond t9
  (k (.sc (.bool false)) H)
  (p.fadr 1 t2 fun t10 =>
  p.load false 1 t10 H fun t11 =>
  p.fadr 1 t3 fun t12 =>
  p.load false 1 t12 H fun t13 =>
  p.call 4 (.fn 53 [] []) [t11, t13] H fun t14 H =>
  p.un .not t14 fun t15 =>
  p.cond t15
  (k (.sc (.bool false)) H)
  (p.fadr 2 t2 fun t16 =>
  p.load false 1 t16 H fun t17 =>
  p.fadr 2 t3 fun t18 =>
  p.load false 1 t18 H fun t19 =>
  p.bin .neq t17 t19 fun t20 =>
  p.cond t20
  (k (.sc (.bool false)) H)
  (p.fadr 3 t2 fun t21 =>
  p.load false 1 t21 H fun t22 =>
  p.fadr 3 t3 fun t23 =>
  p.load false 1 t23 H fun t24 =>
  p.binB .neq t22 t24 fun t25 =>
  p.cond t25
  (k (.sc (.bool false)) H)
  (k (.sc (.bool true)) H))))
theorem f23_body (p : Pr β) (n : Nat) (a0 a1 : AV) (H : Heap) (k : AV → Heap → Option β) : evalBody ti0 p n ⟨c23, 26, Go.Proofs.Try.f23.results.toList, o23⟩ [a0, a1] H k = f23 p n a0 a1 H k := by kernel_rfl

/-! 6 loop.example/g00480/laws.FnExactSameMsg -/
noncomputable def f6 (p : Pr β) (n : Nat) (a0 a1 : AV) (H : Heap) (k : AV → Heap → Option β) : Option β :=
  p.box a0 H fun t2 H =>
  p.box a1 H fun t3 H =>
  p.load true 4 t2 H fun t10 =>
  p.call 3 (.fn 19 [] []) [t10, (.sc (.int .i64 1048576))] H fun t12 H =>
  p.bin .lss t12 (.sc (.int .i64 0)) fun t14 =>
  p.cond t14
  (k (.sc (.bool true)) H)
  (p.load true 4 t3 H fun t15 =>
  p.call 3 (.fn 19 [] []) [t15, t12] H fun t17 H =>
  p.bin .lss t17 (.sc (.int .i64 0)) fun t19 =>
  p.cond t19
  (k (.sc (.bool true)) H)
  (p.load true 4 t2 H fun t20 =>
  p.load true 4 t3 H fun t22 =>
  p.call 34 (.fn 21 [] []) [t20] H fun t21 H =>
  p.call 34 (.fn 21 [] []) [t22] H fun t23 H =>
  p.call 4 (.fn 20 [] []) [t21, t23] H fun t24 H =>
  p.load true 4 t2 H fun t25 =>
  p.call 34 (.fn 21 [] []) [t25] H fun t26 H =>
  p.new [(.sc (.string ⟨#[]⟩)), .nl, (.sc (.int .i64 0)), (.sc (.bool false))] H fun t7 H =>
  p.store 4 t7 t26 H fun H =>
  p.load true 4 t3 H fun t27 =>
  p.call 34 (.fn 21 [] []) [t27] H fun t28 H =>
  p.new [(.sc (.string ⟨#[]⟩)), .nl, (.sc (.int .i64 0)), (.sc (.bool false))] H fun t8 H =>
  p.store 4 t8 t28 H fun H =>
  p.load true 4 t7 H fun t29 =>
  p.load true 4 t8 H fun t30 =>
  p.call 4 (.fn 22 [] []) [t29, t30] H fun t31 H =>
  p.binB .neq t31 t24 fun t34 =>
  p.cond t34
  (k (.sc (.bool false)) H)
  (p.load true 4 t7 H fun t35 =>
  p.load true 4 t2 H fun t36 =>
  p.call 34 (.fn 21 [] []) [t36] H fun t37 H =>
  p.call 4 (.fn 23 [] []) [t35, t37] H fun t38 H =>
  p.un .not t38 fun t39 =>
  p.cond t39
  (k (.sc (.bool false)) H)
  (p.load true 4 t8 H fun t40 =>
  p.load true 4 t3 H fun t41 =>
  p.call 34 (.fn 21 [] []) [t41] H fun t42 H =>
  p.call 4 (.fn 23 [] []) [t40, t42] H fun t43 H =>
  p.un .not t43 fun t44 =>
  p.cond t44
  (k (.sc (.bool false)) H)
  (k (.sc (.bool true)) H)))))
theorem f6_body (p : Pr β) (n : Nat) (a0 a1 : AV) (H : Heap) (k : AV → Heap → Option β) : evalBody ti0 p n ⟨c6, 45, Go.Proofs.Try.f6.results.toList, o6⟩ [a0, a1] H k = f6 p n a0 a1 H k := by kernel_rfl

/-! 24 loop.example/g00480/laws.big -/
noncomputable def f24 (p : Pr β) (n : Nat) (a0 : AV) (H : Heap) (k : AV → Heap → Option β) : Option β :=
  p.len a0 fun t4 =>
  p.bin .gtr t4 (.sc (.int .i64 1048576)) fun t5 =>
  k t5 H
theorem f24_body (p : Pr β) (n : Nat) (a0 : AV) (H : Heap) (k : AV → Heap → Option β) : evalBody ti0 p n ⟨c24, 6, Go.Proofs.Try.f24.results.toList, o24⟩ [a0] H k = f24 p n a0 H k := by kernel_rfl

/-! 54 loop.example/g00480/spec.l1New -/
noncomputable def f54_l0 (p : Pr β) (n : Nat)  (k : AV → Heap → Option β) : Nat → AV → AV → AV → Heap → Option β
  | 0, _, _, _, _ => none
  | m + 1, t0, t3, t4, H => p.len t0 fun t10 =>
      p.bin .lss t4 t10 fun t11 =>
      p.guard t11 true H (fun k' => k' t4 H) fun t13 H =>
      p.guard t11 true H (fun k' => p.bin .lss t13 (.sc (.int .i64 4000)) fun t' => k' t' H) fun t14 H =>
      p.pick t11 t14 (.sc (.bool false)) fun t15 =>
      p.cond t15
      (p.bin .mul t3 (.sc (.int .i64 137)) fun t19 =>
      p.iadr 1 t0 t4 fun t22 =>
      p.load false 1 t22 H fun t23 =>
      p.cvI .i64 t23 fun t24 =>
      p.bin .add t19 t24 fun t25 =>
      p.bin .add t25 (.sc (.int .i64 11)) fun t26 =>
      p.bin .and t26 (.sc (.int .i64 1073741823)) fun t27 =>
      p.bin .add t4 (.sc (.int .i64 1)) fun t17 =>
      f54_l0 p n  k m t0 t27 t17 H)
      (p.fill [.nl, (.sc (.int .i64 0)), (.sc (.int .i64 0))] [(0, 1, t0), (2, 1, t3)] fun ct30 =>
      p.box (.agg ct30) H fun t31 H =>
      k t31 H)
noncomputable def f54 (p : Pr β) (n : Nat) (a0 : AV) (H : Heap) (k : AV → Heap → Option β) : Option β :=
  p.len a0 fun t6 =>
  p.bin .add (.sc (.int .i64 128361)) t6 fun t7 =>
  f54_l0 p n  k n a0 t7 (.sc (.int .i64 0)) H
noncomputable def f54_L0 (p : Pr β) (n : Nat)  (k : AV → Heap → Option β) (m : Nat) (tm : Tm) (H : Heap) : Option β :=
  iterC 32 (fun tm H k => evalCode ti0 p o54 32 n (cd c54 [1, 1, 0, 1, 0, 0]) tm H k) (blkK 0 (seqK (fun tm H => evalCode ti0 p o54 32 n (cd c54 [1, 1, 1]) tm H (endK ti0 p Go.Proofs.Try.f54.results.toList k)) (endK ti0 p Go.Proofs.Try.f54.results.toList k))) m tm H
theorem f54_L0_step (p : Pr β) (n : Nat)  (k : AV → Heap → Option β) (m0 : Nat) (t0 t1 t2 t3 t4 t5 t6 t7 t8 t9 t10 t11 t12 t13 t14 t15 t16 t17 t18 t19 t20 t21 t22 t23 t24 t25 t26 t27 t28 t29 t30 t31 : AV) (H : Heap) : f54_L0 p n  k (m0 + 1) [(0, t0), (1, t1), (2, t2), (3, t3), (4, t4), (5, t5), (6, t6), (7, t7), (8, t8), (9, t9), (10, t10), (11, t11), (12, t12), (13, t13), (14, t14), (15, t15), (16, t16), (17, t17), (18, t18), (19, t19), (20, t20), (21, t21), (22, t22), (23, t23), (24, t24), (25, t25), (26, t26), (27, t27), (28, t28), (29, t29), (30, t30), (31, t31)] H =
  p.len t0 fun t10 =>
  p.bin .lss t4 t10 fun t11 =>
  p.guard t11 true H (fun k' => k' t4 H) fun t13 H =>
  p.guard t11 true H (fun k' => p.bin .lss t13 (.sc (.int .i64 4000)) fun t' => k' t' H) fun t14 H =>
  p.pick t11 t14 (.sc (.bool false)) fun t15 =>
  p.cond t15
  (p.bin .mul t3 (.sc (.int .i64 137)) fun t19 =>
  p.iadr 1 t0 t4 fun t22 =>
  p.load false 1 t22 H fun t23 =>
  p.cvI .i64 t23 fun t24 =>
  p.bin .add t19 t24 fun t25 =>
  p.bin .add t25 (.sc (.int .i64 11)) fun t26 =>
  p.bin .and t26 (.sc (.int .i64 1073741823)) fun t27 =>
  p.bin .add t4 (.sc (.int .i64 1)) fun t17 =>
  f54_L0 p n  k m0 [(0, t0), (1, t1), (2, t2), (3, t27), (4, t17), (5, t5), (6, t6), (7, t7), (8, t4), (9, t0), (10, t10), (11, t11), (12, t11), (13, t13), (14, t14), (15, t15), (16, t4), (17, t17), (18, t3), (19, t19), (20, t0), (21, t4), (22, t22), (23, t23), (24, t24), (25, t25), (26, t26), (27, t27), (28, t28), (29, t29), (30, t30), (31, t31)] H)
  (p.fill [.nl, (.sc (.int .i64 0)), (.sc (.int .i64 0))] [(0, 1, t0), (2, 1, t3)] fun ct30 =>
  p.box (.agg ct30) H fun t31 H =>
  k t31 H) := by kernel_rfl
theorem f54_l0_eq (p : Pr β) (n : Nat)  (k : AV → Heap → Option β)   (m0 : Nat) : ∀ (t0 t1 t2 t3 t4 t5 t6 t7 t8 t9 t10 t11 t12 t13 t14 t15 t16 t17 t18 t19 t20 t21 t22 t23 t24 t25 t26 t27 t28 t29 t30 t31 : AV) (H : Heap), f54_L0 p n  k m0 [(0, t0), (1, t1), (2, t2), (3, t3), (4, t4), (5, t5), (6, t6), (7, t7), (8, t8), (9, t9), (10, t10), (11, t11), (12, t12), (13, t13), (14, t14), (15, t15), (16, t16), (17, t17), (18, t18), (19, t19), (20, t20), (21, t21), (22, t22), (23, t23), (24, t24), (25, t25), (26, t26), (27, t27), (28, t28), (29, t29), (30, t30), (31, t31)] H = f54_l0 p n  k m0 t0 t3 t4 H := by
  induction m0 with
  | zero => intros; rfl
  | succ m0 ih =>
    intro t0 t1 t2 t3 t4 t5 t6 t7 t8 t9 t10 t11 t12 t13 t14 t15 t16 t17 t18 t19 t20 t21 t22 t23 t24 t25 t26 t27 t28 t29 t30 t31 H
    rw [f54_L0_step]
    simp only [ih]
    rfl
theorem f54_raw (p : Pr β) (n : Nat) (a0 : AV) (H : Heap) (k : AV → Heap → Option β) : evalBody ti0 p n ⟨c54, 32, Go.Proofs.Try.f54.results.toList, o54⟩ [a0] H k =
  p.len a0 fun t6 =>
  p.bin .add (.sc (.int .i64 128361)) t6 fun t7 =>
  f54_L0 p n  k n [(0, a0), (1, (.sc undef)), (2, (.sc (.pointer none))), (3, t7), (4, (.sc (.int .i64 0))), (5, a0), (6, t6), (7, t7), (8, (.sc undef)), (9, (.sc undef)), (10, (.sc undef)), (11, (.sc undef)), (12, (.sc undef)), (13, (.sc undef)), (14, (.sc undef)), (15, (.sc undef)), (16, (.sc undef)), (17, (.sc undef)), (18, (.sc undef)), (19, (.sc undef)), (20, (.sc undef)), (21, (.sc undef)), (22, (.sc undef)), (23, (.sc undef)), (24, (.sc undef)), (25, (.sc undef)), (26, (.sc undef)), (27, (.sc undef)), (28, (.sc undef)), (29, (.sc undef)), (30, (.sc undef)), (31, (.sc undef))] H := by kernel_rfl
theorem f54_body (p : Pr β) (n : Nat) (a0 : AV) (H : Heap) (k : AV → Heap → Option β) : evalBody ti0 p n ⟨c54, 32, Go.Proofs.Try.f54.results.toList, o54⟩ [a0] H k = f54 p n a0 H k := by
  rw [f54_raw]
  simp only [f54_l0_eq]
  rfl

/-! 75 loop.example/g00480/spec.l1Byte -/
noncomputable def f75 (p : Pr β) (n : Nat) (a0 : AV) (H : Heap) (k : AV → Heap → Option β) : Option β :=
  p.nil a0 fun t6 =>
  p.fadr 2 t6 fun t7 =>
  p.load false 1 t7 H fun t8 =>
  p.bin .mul t8 (.sc (.int .i64 6364136223846793005)) fun t9 =>
  p.bin .add t9 (.sc (.int .i64 1442695040888963407)) fun t10 =>
  p.nil a0 fun t11 =>
  p.fadr 2 t11 fun t12 =>
  p.store 1 t12 t10 H fun H =>
  p.nil a0 fun t14 =>
  p.fadr 2 t14 fun t15 =>
  p.load false 1 t15 H fun t16 =>
  p.bin .shr t16 (.sc (.int .u64 33)) fun t17 =>
  p.nil a0 fun t19 =>
  p.fadr 2 t19 fun t20 =>
  p.load false 1 t20 H fun t21 =>
  p.bin .shr t21 (.sc (.int .u64 47)) fun t22 =>
  p.bin .xor t17 t22 fun t23 =>
  p.bin .and t23 (.sc (.int .i64 255)) fun t24 =>
  p.nil a0 fun t26 =>
  p.fadr 1 t26 fun t27 =>
  p.load false 1 t27 H fun t28 =>
  p.nil a0 fun t30 =>
  p.fadr 0 t30 fun t31 =>
  p.load false 1 t31 H fun t32 =>
  p.len t32 fun t33 =>
  p.bin .lss t28 t33 fun t34 =>
  letJ (fun t3 H => k t3 H) fun j1 =>
  p.cond t34
  (p.nil a0 fun t37 =>
  p.fadr 0 t37 fun t38 =>
  p.load false 1 t38 H fun t39 =>
  p.nil a0 fun t41 =>
  p.fadr 1 t41 fun t42 =>
  p.load false 1 t42 H fun t43 =>
  p.iadr 1 t39 t43 fun t44 =>
  p.load false 1 t44 H fun t45 =>
  p.cvI .i64 t45 fun t46 =>
  p.bin .add t24 t46 fun t47 =>
  p.bin .and t47 (.sc (.int .i64 255)) fun t48 =>
  p.nil a0 fun t51 =>
  p.fadr 1 t51 fun t52 =>
  p.load false 1 t52 H fun t53 =>
  p.bin .add t53 (.sc (.int .i64 1)) fun t54 =>
  p.nil a0 fun t55 =>
  p.fadr 1 t55 fun t56 =>
  p.store 1 t56 t54 H fun H =>
  j1 t48 H)
  (j1 t24 H)
theorem f75_body (p : Pr β) (n : Nat) (a0 : AV) (H : Heap) (k : AV → Heap → Option β) : evalBody ti0 p n ⟨c75, 58, Go.Proofs.Try.f75.results.toList, o75⟩ [a0] H k = f75 p n a0 H k := by kernel_rfl

/-! 69 loop.example/g00480/spec.l1Below -/
noncomputable def f69 (p : Pr β) (n : Nat) (a0 a1 : AV) (H : Heap) (k : AV → Heap → Option β) : Option β :=
  p.bin .leq a1 (.sc (.int .i64 0)) fun t9 =>
  p.cond t9
  (k (.sc (.int .i64 0)) H)
  (p.bin .leq a1 (.sc (.int .i64 256)) fun t11 =>
  p.cond t11
  (p.call 3 (.fn 75 [] []) [a0] H fun t13 H =>
  p.bin .rem t13 a1 fun t15 =>
  k t15 H)
  (p.call 3 (.fn 75 [] []) [a0] H fun t17 H =>
  p.call 3 (.fn 75 [] []) [a0] H fun t19 H =>
  p.call 3 (.fn 75 [] []) [a0] H fun t21 H =>
  p.bin .mul t17 (.sc (.int .i64 65536)) fun t23 =>
  p.bin .mul t19 (.sc (.int .i64 256)) fun t25 =>
  p.bin .add t23 t25 fun t26 =>
  p.bin .add t26 t21 fun t28 =>
  p.bin .rem t28 a1 fun t30 =>
  k t30 H))
theorem f69_body (p : Pr β) (n : Nat) (a0 a1 : AV) (H : Heap) (k : AV → Heap → Option β) : evalBody ti0 p n ⟨c69, 31, Go.Proofs.Try.f69.results.toList, o69⟩ [a0, a1] H k = f69 p n a0 a1 H k := by kernel_rfl

/-! 55 loop.example/g00480/spec.l1Int -/
noncomputable def f55 (p : Pr β) (n : Nat) (a0 a1 : AV) (H : Heap) (k : AV → Heap → Option β) : Option β :=
  p.len a1 fun t8 =>
  p.call 3 (.fn 69 [] []) [a0, t8] H fun t9 H =>
  p.iadr 1 a1 t9 fun t10 =>
  p.load false 1 t10 H fun t11 =>
  k t11 H
theorem f55_body (p : Pr β) (n : Nat) (a0 a1 : AV) (H : Heap) (k : AV → Heap → Option β) : evalBody ti0 p n ⟨c55, 12, Go.Proofs.Try.f55.results.toList, o55⟩ [a0, a1] H k = f55 p n a0 a1 H k := by kernel_rfl

/-! 56 loop.example/g00480/spec.l11Used -/
noncomputable def f56_l0 (p : Pr β) (n : Nat)  (k : AV → Heap → Option β) : Nat → AV → AV → AV → Heap → Option β
  | 0, _, _, _, _ => none
  | m + 1, t0, t3, t4, H => p.bin .gtr t4 (.sc (.int .i64 0)) fun t9 =>
      p.cond t9
      (p.fill [(.sc (.int .i64 0)), (.sc (.int .i64 0)), (.sc (.int .i64 0)), (.sc (.int .i64 0)), (.sc (.int .i64 0)), (.sc (.int .i64 0)), (.sc (.int .i64 0)), (.sc (.int .i64 0)), (.sc (.int .i64 0))] [(0, 1, (.sc (.int .i64 1))), (1, 1, (.sc (.int .i64 2))), (2, 1, (.sc (.int .i64 3))), (3, 1, (.sc (.int .i64 4))), (4, 1, (.sc (.int .i64 65535))), (5, 1, (.sc (.int .i64 65534))), (6, 1, (.sc (.int .i64 0))), (7, 1, (.sc (.int .i64 (-1)))), (8, 1, (.sc (.int .i64 65536)))] fun ct14 => p.newSl 9 1 ct14 true H fun t14 H =>
      p.call 3 (.fn 55 [] []) [t0, t14] H fun t15 H =>
      p.fill [(.sc (.int .i64 0))] [(0, 1, t15)] fun ct16 => p.newSl 1 1 ct16 true H fun t16 H =>
      p.app 1 8 t3 t16 H fun t17 H =>
      p.bin .sub t4 (.sc (.int .i64 1)) fun t11 =>
      f56_l0 p n  k m t0 t17 t11 H)
      (k t3 H)
noncomputable def f56 (p : Pr β) (n : Nat) (a0 : AV) (H : Heap) (k : AV → Heap → Option β) : Option β :=
  p.call 3 (.fn 69 [] []) [a0, (.sc (.int .i64 8))] H fun t7 H =>
  f56_l0 p n  k n a0 .nl t7 H
noncomputable def f56_L0 (p : Pr β) (n : Nat)  (k : AV → Heap → Option β) (m : Nat) (tm : Tm) (H : Heap) : Option β :=
  iterC 19 (fun tm H k => evalCode ti0 p o56 19 n (cd c56 [1, 1, 0, 1, 0, 0]) tm H k) (blkK 0 (seqK (fun tm H => evalCode ti0 p o56 19 n (cd c56 [1, 1, 1]) tm H (endK ti0 p Go.Proofs.Try.f56.results.toList k)) (endK ti0 p Go.Proofs.Try.f56.results.toList k))) m tm H
theorem f56_L0_step (p : Pr β) (n : Nat)  (k : AV → Heap → Option β) (m0 : Nat) (t0 t1 t2 t3 t4 t5 t6 t7 t8 t9 t10 t11 t12 t13 t14 t15 t16 t17 t18 : AV) (H : Heap) : f56_L0 p n  k (m0 + 1) [(0, t0), (1, t1), (2, t2), (3, t3), (4, t4), (5, t5), (6, t6), (7, t7), (8, t8), (9, t9), (10, t10), (11, t11), (12, t12), (13, t13), (14, t14), (15, t15), (16, t16), (17, t17), (18, t18)] H =
  p.bin .gtr t4 (.sc (.int .i64 0)) fun t9 =>
  p.cond t9
  (p.fill [(.sc (.int .i64 0)), (.sc (.int .i64 0)), (.sc (.int .i64 0)), (.sc (.int .i64 0)), (.sc (.int .i64 0)), (.sc (.int .i64 0)), (.sc (.int .i64 0)), (.sc (.int .i64 0)), (.sc (.int .i64 0))] [(0, 1, (.sc (.int .i64 1))), (1, 1, (.sc (.int .i64 2))), (2, 1, (.sc (.int .i64 3))), (3, 1, (.sc (.int .i64 4))), (4, 1, (.sc (.int .i64 65535))), (5, 1, (.sc (.int .i64 65534))), (6, 1, (.sc (.int .i64 0))), (7, 1, (.sc (.int .i64 (-1)))), (8, 1, (.sc (.int .i64 65536)))] fun ct14 => p.newSl 9 1 ct14 true H fun t14 H =>
  p.call 3 (.fn 55 [] []) [t0, t14] H fun t15 H =>
  p.fill [(.sc (.int .i64 0))] [(0, 1, t15)] fun ct16 => p.newSl 1 1 ct16 true H fun t16 H =>
  p.app 1 8 t3 t16 H fun t17 H =>
  p.bin .sub t4 (.sc (.int .i64 1)) fun t11 =>
  f56_L0 p n  k m0 [(0, t0), (1, t1), (2, t2), (3, t17), (4, t11), (5, t5), (6, t6), (7, t7), (8, t4), (9, t9), (10, t4), (11, t11), (12, t3), (13, t0), (14, t14), (15, t15), (16, t16), (17, t17), (18, t18)] H)
  (k t3 H) := by kernel_rfl
theorem f56_l0_eq (p : Pr β) (n : Nat)  (k : AV → Heap → Option β)   (m0 : Nat) : ∀ (t0 t1 t2 t3 t4 t5 t6 t7 t8 t9 t10 t11 t12 t13 t14 t15 t16 t17 t18 : AV) (H : Heap), f56_L0 p n  k m0 [(0, t0), (1, t1), (2, t2), (3, t3), (4, t4), (5, t5), (6, t6), (7, t7), (8, t8), (9, t9), (10, t10), (11, t11), (12, t12), (13, t13), (14, t14), (15, t15), (16, t16), (17, t17), (18, t18)] H = f56_l0 p n  k m0 t0 t3 t4 H := by
  induction m0 with
  | zero => intros; rfl
  | succ m0 ih =>
    intro t0 t1 t2 t3 t4 t5 t6 t7 t8 t9 t10 t11 t12 t13 t14 t15 t16 t17 t18 H
    rw [f56_L0_step]
    simp only [ih]
    rfl
theorem f56_raw (p : Pr β) (n : Nat) (a0 : AV) (H : Heap) (k : AV → Heap → Option β) : evalBody ti0 p n ⟨c56, 19, Go.Proofs.Try.f56.results.toList, o56⟩ [a0] H k =
  p.call 3 (.fn 69 [] []) [a0, (.sc (.int .i64 8))] H fun t7 H =>
  f56_L0 p n  k n [(0, a0), (1, (.sc undef)), (2, .nl), (3, .nl), (4, t7), (5, .nl), (6, a0), (7, t7), (8, (.sc undef)), (9, (.sc undef)), (10, (.sc undef)), (11, (.sc undef)), (12, (.sc undef)), (13, (.sc undef)), (14, (.sc undef)), (15, (.sc undef)), (16, (.sc undef)), (17, (.sc undef)), (18, (.sc undef))] H := by kernel_rfl
theorem f56_body (p : Pr β) (n : Nat) (a0 : AV) (H : Heap) (k : AV → Heap → Option β) : evalBody ti0 p n ⟨c56, 19, Go.Proofs.Try.f56.results.toList, o56⟩ [a0] H k = f56 p n a0 H k := by
  rw [f56_raw]
  simp only [f56_l0_eq]
  rfl

/-! 25 loop.example/g00480/spec.DrawNextId -/
noncomputable def f25 (p : Pr β) (n : Nat) (a0 : AV) (H : Heap) (k : AV → Heap → Option β) : Option β :=
  p.call 76 (.fn 54 [] []) [a0] H fun t6 H =>
  p.fill [(.sc (.int .i64 0)), (.sc (.int .i64 0)), (.sc (.int .i64 0)), (.sc (.int .i64 0)), (.sc (.int .i64 0)), (.sc (.int .i64 0)), (.sc (.int .i64 0)), (.sc (.int .i64 0)), (.sc (.int .i64 0))] [(0, 1, (.sc (.int .i64 0))), (1, 1, (.sc (.int .i64 1))), (2, 1, (.sc (.int .i64 2))), (3, 1, (.sc (.int .i64 3))), (4, 1, (.sc (.int .i64 65533))), (5, 1, (.sc (.int .i64 65534))), (6, 1, (.sc (.int .i64 65535))), (7, 1, (.sc (.int .i64 65536))), (8, 1, (.sc (.int .i64 (-1))))] fun ct8 => p.newSl 9 1 ct8 true H fun t8 H =>
  p.call 3 (.fn 55 [] []) [t6, t8] H fun t9 H =>
  p.call 25 (.fn 56 [] []) [t6] H fun t11 H =>
  k (packA [t9, t11]) H
theorem f25_body (p : Pr β) (n : Nat) (a0 : AV) (H : Heap) (k : AV → Heap → Option β) : evalBody ti0 p n ⟨c25, 12, Go.Proofs.Try.f25.results.toList, o25⟩ [a0] H k = f25 p n a0 H k := by kernel_rfl

/-! 57 loop.example/g00480/impl.isWord -/
noncomputable def f57 (p : Pr β) (n : Nat) (a0 : AV) (H : Heap) (k : AV → Heap → Option β) : Option β :=
  p.call 4 (.fn 47 [] []) [a0, (.sc (.int .i64 0)), (.sc (.int .i64 65535))] H fun t4 H =>
  k t4 H
theorem f57_body (p : Pr β) (n : Nat) (a0 : AV) (H : Heap) (k : AV → Heap → Option β) : evalBody ti0 p n ⟨c57, 5, Go.Proofs.Try.f57.results.toList, o57⟩ [a0] H k = f57 p n a0 H k := by kernel_rfl

/-! 26 loop.example/g00480/impl.NextId -/
noncomputable def f26_l1 (p : Pr β) (n : Nat)  (k : AV → Heap → Option β) : Nat → AV → AV → AV → Heap → Option β
  | 0, _, _, _, _ => none
  | m + 1, t6, t9, t27, H => p.bin .lss t27 (.sc (.int .i64 65535)) fun t28 =>
      p.cond t28
      (p.bin .add t9 (.sc (.int .i64 1)) fun t30 =>
      p.bin .gtr t30 (.sc (.int .i64 65535)) fun t32 =>
      letJ (fun t6 t9 t27 H => p.iadr 1 t6 t9 fun t35 =>
      p.load false 1 t35 H fun t36 =>
      p.un .not t36 fun t37 =>
      p.cond t37
      (k (packA [t9, (.sc (.bool true))]) H)
      (p.bin .add t27 (.sc (.int .i64 1)) fun t39 =>
      f26_l1 p n  k m t6 t9 t39 H)) fun j1 =>
      p.cond t32
      (j1 t6 (.sc (.int .i64 1)) t27 H)
      (j1 t6 t30 t27 H))
      (k (packA [(.sc (.int .i64 0)), (.sc (.bool false))]) H)
noncomputable def f26_l0 (p : Pr β) (n : Nat)  (k : AV → Heap → Option β) : Nat → AV → AV → AV → AV → AV → Heap → Option β
  | 0, _, _, _, _, _, _ => none
  | m + 1, t0, t6, t14, t15, t16, H => p.bin .lss t16 t15 fun t17 =>
      p.cond t17
      (p.iadr 1 t14 t16 fun t18 =>
      p.load false 1 t18 H fun t19 =>
      p.call 4 (.fn 48 [] []) [t19] H fun t21 H =>
      p.cond t21
      (p.iadr 1 t6 t19 fun t24 =>
      p.store 1 t24 (.sc (.bool true)) H fun H =>
      p.bin .add t16 (.sc (.int .i64 1)) fun t25 =>
      f26_l0 p n  k m t0 t6 t14 t15 t25 H)
      (p.bin .add t16 (.sc (.int .i64 1)) fun t25 =>
      f26_l0 p n  k m t0 t6 t14 t15 t25 H))
      (f26_l1 p n  k n t6 t0 (.sc (.int .i64 0)) H)
noncomputable def f26 (p : Pr β) (n : Nat) (a0 a1 : AV) (H : Heap) (k : AV → Heap → Option β) : Option β :=
  p.call 4 (.fn 57 [] []) [a0] H fun t11 H =>
  p.un .not t11 fun t12 =>
  p.cond t12
  (k (packA [(.sc (.int .i64 0)), (.sc (.bool false))]) H)
  (p.make 1 1 [(.sc (.bool false))] (.sc (.int .i64 65536)) (.sc (.int .i64 65536)) H fun t13 H =>
  p.len a1 fun t15 =>
  f26_l0 p n  k n a0 t13 a1 t15 (.sc (.int .i64 0)) H)
noncomputable def f26_L1 (p : Pr β) (n : Nat)  (k : AV → Heap → Option β) (m : Nat) (tm : Tm) (H : Heap) : Option β :=
  iterC 40 (fun tm H k => evalCode ti0 p o26 40 n (cd c26 [1, 1, 1, 1, 1, 0, 1, 0, 0]) tm H k) (blkK 2 (seqK (fun tm H => evalCode ti0 p o26 40 n (cd c26 [1, 1, 1, 1, 1, 1]) tm H (endK ti0 p Go.Proofs.Try.f26.results.toList k)) (endK ti0 p Go.Proofs.Try.f26.results.toList k))) m tm H
noncomputable def f26_L0 (p : Pr β) (n : Nat)  (k : AV → Heap → Option β) (m : Nat) (tm : Tm) (H : Heap) : Option β :=
  iterC 40 (fun tm H k => evalCode ti0 p o26 40 n (cd c26 [1, 1, 1, 0, 1, 0, 0]) tm H k) (blkK 0 (seqK (fun tm H => evalCode ti0 p o26 40 n (cd c26 [1, 1, 1, 1]) tm H (endK ti0 p Go.Proofs.Try.f26.results.toList k)) (endK ti0 p Go.Proofs.Try.f26.results.toList k))) m tm H
theorem f26_L1_step (p : Pr β) (n : Nat)  (k : AV → Heap → Option β) (m1 : Nat) (t0 t1 t2 t3 t4 t5 t6 t7 t8 t9 t10 t11 t12 t13 t14 t15 t16 t17 t18 t19 t20 t21 t22 t23 t24 t25 t26 t27 t28 t29 t30 t31 t32 t33 t34 t35 t36 t37 t38 t39 : AV) (H : Heap) : f26_L1 p n  k (m1 + 1) [(0, t0), (1, t1), (2, t2), (3, t3), (4, t4), (5, t5), (6, t6), (7, t7), (8, t8), (9, t9), (10, t10), (11, t11), (12, t12), (13, t13), (14, t14), (15, t15), (16, t16), (17, t17), (18, t18), (19, t19), (20, t20), (21, t21), (22, t22), (23, t23), (24, t24), (25, t25), (26, t26), (27, t27), (28, t28), (29, t29), (30, t30), (31, t31), (32, t32), (33, t33), (34, t34), (35, t35), (36, t36), (37, t37), (38, t38), (39, t39)] H =
  p.bin .lss t27 (.sc (.int .i64 65535)) fun t28 =>
  p.cond t28
  (p.bin .add t9 (.sc (.int .i64 1)) fun t30 =>
  p.bin .gtr t30 (.sc (.int .i64 65535)) fun t32 =>
  letJ (fun t0 t1 t2 t3 t4 t5 t6 t7 t8 t9 t10 t11 t12 t13 t14 t15 t16 t17 t18 t19 t20 t21 t22 t23 t24 t25 t26 t27 t28 t29 t30 t31 t32 t33 t34 t35 t36 t37 t38 t39 H => p.iadr 1 t6 t9 fun t35 =>
  p.load false 1 t35 H fun t36 =>
  p.un .not t36 fun t37 =>
  p.cond t37
  (k (packA [t9, (.sc (.bool true))]) H)
  (p.bin .add t27 (.sc (.int .i64 1)) fun t39 =>
  f26_L1 p n  k m1 [(0, t0), (1, t1), (2, t2), (3, t3), (4, t4), (5, t5), (6, t6), (7, t7), (8, t8), (9, t9), (10, t10), (11, t11), (12, t12), (13, t13), (14, t14), (15, t15), (16, t16), (17, t17), (18, t18), (19, t19), (20, t20), (21, t21), (22, t22), (23, t23), (24, t24), (25, t25), (26, t26), (27, t39), (28, t28), (29, t29), (30, t30), (31, t31), (32, t32), (33, t6), (34, t9), (35, t35), (36, t36), (37, t37), (38, t38), (39, t39)] H)) fun j1 =>
  p.cond t32
  (j1 t0 t1 t2 t3 t4 t5 t6 t7 t8 (.sc (.int .i64 1)) t10 t11 t12 t13 t14 t15 t16 t17 t18 t19 t20 t21 t22 t23 t24 t25 t26 t27 t28 t9 t30 t30 t32 t33 t34 t35 t36 t37 t38 t39 H)
  (j1 t0 t1 t2 t3 t4 t5 t6 t7 t8 t30 t10 t11 t12 t13 t14 t15 t16 t17 t18 t19 t20 t21 t22 t23 t24 t25 t26 t27 t28 t9 t30 t30 t32 t33 t34 t35 t36 t37 t38 t39 H))
  (k (packA [(.sc (.int .i64 0)), (.sc (.bool false))]) H) := by kernel_rfl
theorem f26_l1_eq (p : Pr β) (n : Nat)  (k : AV → Heap → Option β)   (m1 : Nat) : ∀ (t0 t1 t2 t3 t4 t5 t6 t7 t8 t9 t10 t11 t12 t13 t14 t15 t16 t17 t18 t19 t20 t21 t22 t23 t24 t25 t26 t27 t28 t29 t30 t31 t32 t33 t34 t35 t36 t37 t38 t39 : AV) (H : Heap), f26_L1 p n  k m1 [(0, t0), (1, t1), (2, t2), (3, t3), (4, t4), (5, t5), (6, t6), (7, t7), (8, t8), (9, t9), (10, t10), (11, t11), (12, t12), (13, t13), (14, t14), (15, t15), (16, t16), (17, t17), (18, t18), (19, t19), (20, t20), (21, t21), (22, t22), (23, t23), (24, t24), (25, t25), (26, t26), (27, t27), (28, t28), (29, t29), (30, t30), (31, t31), (32, t32), (33, t33), (34, t34), (35, t35), (36, t36), (37, t37), (38, t38), (39, t39)] H = f26_l1 p n  k m1 t6 t9 t27 H := by
  induction m1 with
  | zero => intros; rfl
  | succ m1 ih =>
    intro t0 t1 t2 t3 t4 t5 t6 t7 t8 t9 t10 t11 t12 t13 t14 t15 t16 t17 t18 t19 t20 t21 t22 t23 t24 t25 t26 t27 t28 t29 t30 t31 t32 t33 t34 t35 t36 t37 t38 t39 H
    rw [f26_L1_step]
    simp only [ih]
    rfl
theorem f26_L0_step (p : Pr β) (n : Nat)  (k : AV → Heap → Option β) (m0 : Nat) (t0 t1 t2 t3 t4 t5 t6 t7 t8 t9 t10 t11 t12 t13 t14 t15 t16 t17 t18 t19 t20 t21 t22 t23 t24 t25 t26 t27 t28 t29 t30 t31 t32 t33 t34 t35 t36 t37 t38 t39 : AV) (H : Heap) : f26_L0 p n  k (m0 + 1) [(0, t0), (1, t1), (2, t2), (3, t3), (4, t4), (5, t5), (6, t6), (7, t7), (8, t8), (9, t9), (10, t10), (11, t11), (12, t12), (13, t13), (14, t14), (15, t15), (16, t16), (17, t17), (18, t18), (19, t19), (20, t20), (21, t21), (22, t22), (23, t23), (24, t24), (25, t25), (26, t26), (27, t27), (28, t28), (29, t29), (30, t30), (31, t31), (32, t32), (33, t33), (34, t34), (35, t35), (36, t36), (37, t37), (38, t38), (39, t39)] H =
  p.bin .lss t16 t15 fun t17 =>
  p.cond t17
  (p.iadr 1 t14 t16 fun t18 =>
  p.load false 1 t18 H fun t19 =>
  p.call 4 (.fn 48 [] []) [t19] H fun t21 H =>
  p.cond t21
  (p.iadr 1 t6 t19 fun t24 =>
  p.store 1 t24 (.sc (.bool true)) H fun H =>
  p.bin .add t16 (.sc (.int .i64 1)) fun t25 =>
  f26_L0 p n  k m0 [(0, t0), (1, t1), (2, t2), (3, t3), (4, t4), (5, t5), (6, t6), (7, t7), (8, t19), (9, t9), (10, t10), (11, t11), (12, t12), (13, t13), (14, t14), (15, t15), (16, t25), (17, t17), (18, t18), (19, t19), (20, t19), (21, t21), (22, t6), (23, t19), (24, t24), (25, t25), (26, t26), (27, t27), (28, t28), (29, t29), (30, t30), (31, t31), (32, t32), (33, t33), (34, t34), (35, t35), (36, t36), (37, t37), (38, t38), (39, t39)] H)
  (p.bin .add t16 (.sc (.int .i64 1)) fun t25 =>
  f26_L0 p n  k m0 [(0, t0), (1, t1), (2, t2), (3, t3), (4, t4), (5, t5), (6, t6), (7, t7), (8, t19), (9, t9), (10, t10), (11, t11), (12, t12), (13, t13), (14, t14), (15, t15), (16, t25), (17, t17), (18, t18), (19, t19), (20, t19), (21, t21), (22, t22), (23, t23), (24, t24), (25, t25), (26, t26), (27, t27), (28, t28), (29, t29), (30, t30), (31, t31), (32, t32), (33, t33), (34, t34), (35, t35), (36, t36), (37, t37), (38, t38), (39, t39)] H))
  (f26_L1 p n  k n [(0, t0), (1, t1), (2, t2), (3, t3), (4, t4), (5, t5), (6, t6), (7, t7), (8, t8), (9, t0), (10, t10), (11, t11), (12, t12), (13, t13), (14, t14), (15, t15), (16, t16), (17, t17), (18, t18), (19, t19), (20, t20), (21, t21), (22, t22), (23, t23), (24, t24), (25, t25), (26, t0), (27, (.sc (.int .i64 0))), (28, t28), (29, t29), (30, t30), (31, t31), (32, t32), (33, t33), (34, t34), (35, t35), (36, t36), (37, t37), (38, t38), (39, t39)] H) := by kernel_rfl
theorem f26_l0_eq (p : Pr β) (n : Nat)  (k : AV → Heap → Option β)   (m0 : Nat) : ∀ (t0 t1 t2 t3 t4 t5 t6 t7 t8 t9 t10 t11 t12 t13 t14 t15 t16 t17 t18 t19 t20 t21 t22 t23 t24 t25 t26 t27 t28 t29 t30 t31 t32 t33 t34 t35 t36 t37 t38 t39 : AV) (H : Heap), f26_L0 p n  k m0 [(0, t0), (1, t1), (2, t2), (3, t3), (4, t4), (5, t5), (6, t6), (7, t7), (8, t8), (9, t9), (10, t10), (11, t11), (12, t12), (13, t13), (14, t14), (15, t15), (16, t16), (17, t17), (18, t18), (19, t19), (20, t20), (21, t21), (22, t22), (23, t23), (24, t24), (25, t25), (26, t26), (27, t27), (28, t28), (29, t29), (30, t30), (31, t31), (32, t32), (33, t33), (34, t34), (35, t35), (36, t36), (37, t37), (38, t38), (39, t39)] H = f26_l0 p n  k m0 t0 t6 t14 t15 t16 H := by
  induction m0 with
  | zero => intros; rfl
  | succ m0 ih =>
    intro t0 t1 t2 t3 t4 t5 t6 t7 t8 t9 t10 t11 t12 t13 t14 t15 t16 t17 t18 t19 t20 t21 t22 t23 t24 t25 t26 t27 t28 t29 t30 t31 t32 t33 t34 t35 t36 t37 t38 t39 H
    rw [f26_L0_step]
    simp only [ih, f26_l1_eq p n  k  ]
    rfl
theorem f26_raw (p : Pr β) (n : Nat) (a0 a1 : AV) (H : Heap) (k : AV → Heap → Option β) : evalBody ti0 p n ⟨c26, 40, Go.Proofs.Try.f26.results.toList, o26⟩ [a0, a1] H k =
  p.call 4 (.fn 57 [] []) [a0] H fun t11 H =>
  p.un .not t11 fun t12 =>
  p.cond t12
  (k (packA [(.sc (.int .i64 0)), (.sc (.bool false))]) H)
  (p.make 1 1 [(.sc (.bool false))] (.sc (.int .i64 65536)) (.sc (.int .i64 65536)) H fun t13 H =>
  p.len a1 fun t15 =>
  f26_L0 p n  k n [(0, a0), (1, a1), (2, (.sc undef)), (3, (.sc undef)), (4, (.sc (.int .i64 0))), (5, (.sc (.bool false))), (6, t13), (7, (.sc undef)), (8, (.sc undef)), (9, (.sc undef)), (10, a0), (11, t11), (12, t12), (13, t13), (14, a1), (15, t15), (16, (.sc (.int .i64 0))), (17, (.sc undef)), (18, (.sc undef)), (19, (.sc undef)), (20, (.sc undef)), (21, (.sc undef)), (22, (.sc undef)), (23, (.sc undef)), (24, (.sc undef)), (25, (.sc undef)), (26, (.sc undef)), (27, (.sc undef)), (28, (.sc undef)), (29, (.sc undef)), (30, (.sc undef)), (31, (.sc undef)), (32, (.sc undef)), (33, (.sc undef)), (34, (.sc undef)), (35, (.sc undef)), (36, (.sc undef)), (37, (.sc undef)), (38, (.sc undef)), (39, (.sc undef))] H) := by kernel_rfl
theorem f26_body (p : Pr β) (n : Nat) (a0 a1 : AV) (H : Heap) (k : AV → Heap → Option β) : evalBody ti0 p n ⟨c26, 40, Go.Proofs.Try.f26.results.toList, o26⟩ [a0, a1] H k = f26 p n a0 a1 H k := by
  rw [f26_raw]
  simp only [f26_l1_eq, f26_l0_eq]
  rfl

/-! 27 loop.example/g00480/spec.DrawSteps -/
noncomputable def f27 (p : Pr β) (n : Nat) (a0 : AV) (H : Heap) (k : AV → Heap → Option β) : Option β :=
  p.call 76 (.fn 54 [] []) [a0] H fun t6 H =>
  p.fill [(.sc (.int .i64 0)), (.sc (.int .i64 0)), (.sc (.int .i64 0)), (.sc (.int .i64 0)), (.sc (.int .i64 0)), (.sc (.int .i64 0))] [(0, 1, (.sc (.int .i64 0))), (1, 1, (.sc (.int .i64 1))), (2, 1, (.sc (.int .i64 5))), (3, 1, (.sc (.int .i64 65535))), (4, 1, (.sc (.int .i64 65536))), (5, 1, (.sc (.int .i64 (-1))))] fun ct8 => p.newSl 6 1 ct8 true H fun t8 H =>
  p.call 3 (.fn 55 [] []) [t6, t8] H fun t9 H =>
  p.fill [(.sc (.int .i64 0)), (.sc (.int .i64 0)), (.sc (.int .i64 0)), (.sc (.int .i64 0)), (.sc (.int .i64 0)), (.sc (.int .i64 0))] [(0, 1, (.sc (.int .i64 0))), (1, 1, (.sc (.int .i64 1))), (2, 1, (.sc (.int .i64 2))), (3, 1, (.sc (.int .i64 5))), (4, 1, (.sc (.int .i64 65535))), (5, 1, (.sc (.int .i64 65536)))] fun ct11 => p.newSl 6 1 ct11 true H fun t11 H =>
  p.call 3 (.fn 55 [] []) [t6, t11] H fun t12 H =>
  k (packA [t9, t12]) H
theorem f27_body (p : Pr β) (n : Nat) (a0 : AV) (H : Heap) (k : AV → Heap → Option β) : evalBody ti0 p n ⟨c27, 13, Go.Proofs.Try.f27.results.toList, o27⟩ [a0] H k = f27 p n a0 H k := by kernel_rfl

/-! 28 loop.example/g00480/impl.Steps -/
noncomputable def f28 (p : Pr β) (n : Nat) (a0 a1 : AV) (H : Heap) (k : AV → Heap → Option β) : Option β :=
  p.call 4 (.fn 57 [] []) [a0] H fun t6 H =>
  p.un .not t6 fun t7 =>
  p.guard t7 false H (fun k' => k' a1 H) fun t9 H =>
  p.guard t7 false H (fun k' => p.call 4 (.fn 48 [] []) [t9] H fun t' H => k' t' H) fun t10 H =>
  p.guard t7 false H (fun k' => p.un .not t10 fun t' => k' t' H) fun t11 H =>
  p.pick t7 (.sc (.bool true)) t11 fun t12 =>
  p.cond t12
  (k (.sc (.int .i64 (-1))) H)
  (p.bin .lss a0 a1 fun t15 =>
  p.cond t15
  (p.bin .sub a1 a0 fun t18 =>
  k t18 H)
  (p.bin .sub a1 a0 fun t21 =>
  p.bin .add t21 (.sc (.int .i64 65535)) fun t22 =>
  k t22 H))
theorem f28_body (p : Pr β) (n : Nat) (a0 a1 : AV) (H : Heap) (k : AV → Heap → Option β) : evalBody ti0 p n ⟨c28, 23, Go.Proofs.Try.f28.results.toList, o28⟩ [a0, a1] H k = f28 p n a0 a1 H k := by kernel_rfl

/-! 29 loop.example/g00480/spec.Steps -/
noncomputable def f29 (p : Pr β) (n : Nat) (a0 a1 : AV) (H : Heap) (k : AV → Heap → Option β) : Option β :=
  p.call 4 (.fn 46 [] []) [a0, (.sc (.int .i64 0)), (.sc (.int .i64 65535))] H fun t6 H =>
  p.un .not t6 fun t7 =>
  p.guard t7 false H (fun k' => k' a1 H) fun t9 H =>
  p.guard t7 false H (fun k' => p.call 4 (.fn 46 [] []) [t9, (.sc (.int .i64 1)), (.sc (.int .i64 65535))] H fun t' H => k' t' H) fun t10 H =>
  p.guard t7 false H (fun k' => p.un .not t10 fun t' => k' t' H) fun t11 H =>
  p.pick t7 (.sc (.bool true)) t11 fun t12 =>
  p.cond t12
  (k (.sc (.int .i64 (-1))) H)
  (p.bin .gtr a1 a0 fun t15 =>
  p.cond t15
  (p.bin .sub a1 a0 fun t18 =>
  k t18 H)
  (p.bin .sub a1 a0 fun t21 =>
  p.bin .add t21 (.sc (.int .i64 65535)) fun t22 =>
  k t22 H))
theorem f29_body (p : Pr β) (n : Nat) (a0 a1 : AV) (H : Heap) (k : AV → Heap → Option β) : evalBody ti0 p n ⟨c29, 23, Go.Proofs.Try.f29.results.toList, o29⟩ [a0, a1] H k = f29 p n a0 a1 H k := by kernel_rfl

/-! 7 loop.example/g00480/laws.FnNext -/
noncomputable def f7_l1 (p : Pr β) (n : Nat) (g0 : AV → AV → AV → AV → AV → Heap → Option β) (k : AV → Heap → Option β) : Nat → AV → AV → AV → AV → AV → AV → AV → Heap → Option β
  | 0, _, _, _, _, _, _, _, _ => none
  | m + 1, t3, t4, t5, t9, t10, t11, t12, H => p.len t4 fun t76 =>
      p.bin .lss t12 t76 fun t77 =>
      p.cond t77
      (p.guard t11 false H (fun k' => k' t4 H) fun t82 H =>
      p.guard t11 false H (fun k' => k' t12 H) fun t83 H =>
      p.guard t11 false H (fun k' => p.iadr 1 t82 t83 fun t' => k' t' H) fun t84 H =>
      p.guard t11 false H (fun k' => p.load false 1 t84 H fun t' => k' t' H) fun t85 H =>
      p.guard t11 false H (fun k' => k' t9 H) fun t86 H =>
      p.guard t11 false H (fun k' => p.bin .eql t85 t86 fun t' => k' t' H) fun t87 H =>
      p.pick t11 (.sc (.bool true)) t87 fun t88 =>
      p.bin .add t12 (.sc (.int .i64 1)) fun t79 =>
      f7_l1 p n g0 k m t3 t4 t5 t9 t10 t88 t79 H)
      (p.un .not t11 fun t90 =>
      p.cond t90
      (k (.sc (.bool false)) H)
      (p.bin .add t10 (.sc (.int .i64 1)) fun t70 =>
      g0 t3 t4 t5 t9 t70 H))
noncomputable def f7_l2 (p : Pr β) (n : Nat)  (k : AV → Heap → Option β) : Nat → AV → AV → AV → AV → Heap → Option β
  | 0, _, _, _, _, _ => none
  | m + 1, t4, t5, t9, t13, H => p.len t4 fun t93 =>
      p.bin .lss t13 t93 fun t94 =>
      p.cond t94
      (p.iadr 1 t4 t13 fun t99 =>
      p.load false 1 t99 H fun t100 =>
      p.bin .eql t100 t5 fun t102 =>
      p.cond t102
      (k (.sc (.bool false)) H)
      (p.bin .add t13 (.sc (.int .i64 1)) fun t96 =>
      f7_l2 p n  k m t4 t5 t9 t96 H))
      (p.bin .rem t9 (.sc (.int .i64 65535)) fun t104 =>
      p.bin .add t104 (.sc (.int .i64 1)) fun t105 =>
      p.bin .eql t105 t5 fun t107 =>
      k t107 H)
noncomputable def f7_l0 (p : Pr β) (n : Nat)  (k : AV → Heap → Option β) : Nat → AV → AV → AV → AV → AV → Heap → Option β
  | 0, _, _, _, _, _, _ => none
  | m + 1, t3, t4, t5, t9, t10, H => p.call 3 (.fn 28 [] []) [t3, t5] H fun t67 H =>
      p.bin .lss t10 t67 fun t68 =>
      p.cond t68
      (p.bin .rem t9 (.sc (.int .i64 65535)) fun t72 =>
      p.bin .add t72 (.sc (.int .i64 1)) fun t73 =>
      f7_l1 p n (f7_l0 p n  k m) k n t3 t4 t5 t73 t10 (.sc (.bool false)) (.sc (.int .i64 0)) H)
      (f7_l2 p n  k n t4 t5 t9 (.sc (.int .i64 0)) H)
noncomputable def f7 (p : Pr β) (n : Nat) (a0 : AV) (H : Heap) (k : AV → Heap → Option β) : Option β :=
  p.call 4 (.fn 24 [] []) [a0] H fun t15 H =>
  p.cond t15
  (k (.sc (.bool true)) H)
  (p.call 38 (.fn 25 [] []) [a0] H fun t18 H =>
  p.extr t18 0 fun t19 =>
  p.extr t18 1 fun t20 =>
  p.call 40 (.fn 26 [] []) [t19, t20] H fun t24 H =>
  p.extr t24 0 fun t25 =>
  p.extr t24 1 fun t26 =>
  p.call 42 (.fn 27 [] []) [a0] H fun t29 H =>
  p.extr t29 0 fun t30 =>
  p.extr t29 1 fun t31 =>
  p.bin .lss t19 (.sc (.int .i64 0)) fun t33 =>
  p.guard t33 false H (fun k' => k' t19 H) fun t35 H =>
  p.guard t33 false H (fun k' => p.bin .gtr t35 (.sc (.int .i64 65535)) fun t' => k' t' H) fun t36 H =>
  p.pick t33 (.sc (.bool true)) t36 fun t37 =>
  p.cond t37
  (p.un .not t26 fun t39 =>
  p.guard t39 true H (fun k' => k' t25 H) fun t41 H =>
  p.guard t39 true H (fun k' => p.bin .eql t41 (.sc (.int .i64 0)) fun t' => k' t' H) fun t42 H =>
  p.pick t39 t42 (.sc (.bool false)) fun t43 =>
  k t43 H)
  (p.un .not t26 fun t45 =>
  p.guard t45 false H (fun k' => k' t25 H) fun t47 H =>
  p.guard t45 false H (fun k' => p.bin .lss t47 (.sc (.int .i64 1)) fun t' => k' t' H) fun t48 H =>
  p.pick t45 (.sc (.bool true)) t48 fun t49 =>
  p.guard t49 false H (fun k' => k' t25 H) fun t51 H =>
  p.guard t49 false H (fun k' => p.bin .gtr t51 (.sc (.int .i64 65535)) fun t' => k' t' H) fun t52 H =>
  p.pick t49 (.sc (.bool true)) t52 fun t53 =>
  p.guard t53 false H (fun k' => k' t30 H) fun t55 H =>
  p.guard t53 false H (fun k' => k' t31 H) fun t56 H =>
  p.guard t53 false H (fun k' => p.call 3 (.fn 28 [] []) [t55, t56] H fun t' H => k' t' H) fun t57 H =>
  p.guard t53 false H (fun k' => k' t30 H) fun t58 H =>
  p.guard t53 false H (fun k' => k' t31 H) fun t59 H =>
  p.guard t53 false H (fun k' => p.call 3 (.fn 29 [] []) [t58, t59] H fun t' H => k' t' H) fun t60 H =>
  p.guard t53 false H (fun k' => p.bin .neq t57 t60 fun t' => k' t' H) fun t61 H =>
  p.pick t53 (.sc (.bool true)) t61 fun t62 =>
  p.cond t62
  (k (.sc (.bool false)) H)
  (f7_l0 p n  k n t19 t20 t25 t19 (.sc (.int .i64 1)) H)))
noncomputable def f7_L1 (p : Pr β) (n : Nat) (m0 : Nat) (k : AV → Heap → Option β) (m : Nat) (tm : Tm) (H : Heap) : Option β :=
  iterC 108 (fun tm H k => evalCode ti0 p o7 108 n (cd c7 [1, 1, 1, 1, 1, 1, 1, 1, 0, 1, 0, 0, 1, 0, 0, 1, 1, 0, 1, 0, 0]) tm H k) (blkK 2 (seqK (fun tm H => evalCode ti0 p o7 108 n (cd c7 [1, 1, 1, 1, 1, 1, 1, 1, 0, 1, 0, 0, 1, 0, 0, 1, 1, 1]) tm H (blkK 1 (seqK (fun tm H => evalCode ti0 p o7 108 n (cd c7 [1, 1, 1, 1, 1, 1, 1, 1, 0, 1, 0, 0, 1, 1]) tm H (seqK (fun tm H => iterC 108 (fun tm H k => evalCode ti0 p o7 108 n (cd c7 [1, 1, 1, 1, 1, 1, 1, 1, 0, 1, 0, 0]) tm H k) (blkK 0 (seqK (fun tm H => evalCode ti0 p o7 108 n (cd c7 [1, 1, 1, 1, 1, 1, 1, 1, 1]) tm H (endK ti0 p Go.Proofs.Try.f7.results.toList k)) (endK ti0 p Go.Proofs.Try.f7.results.toList k))) m0 (nrm 108 tm) H) (blkK 0 (seqK (fun tm H => evalCode ti0 p o7 108 n (cd c7 [1, 1, 1, 1, 1, 1, 1, 1, 1]) tm H (endK ti0 p Go.Proofs.Try.f7.results.toList k)) (endK ti0 p Go.Proofs.Try.f7.results.toList k))))) (seqK (fun tm H => iterC 108 (fun tm H k => evalCode ti0 p o7 108 n (cd c7 [1, 1, 1, 1, 1, 1, 1, 1, 0, 1, 0, 0]) tm H k) (blkK 0 (seqK (fun tm H => evalCode ti0 p o7 108 n (cd c7 [1, 1, 1, 1, 1, 1, 1, 1, 1]) tm H (endK ti0 p Go.Proofs.Try.f7.results.toList k)) (endK ti0 p Go.Proofs.Try.f7.results.toList k))) m0 (nrm 108 tm) H) (blkK 0 (seqK (fun tm H => evalCode ti0 p o7 108 n (cd c7 [1, 1, 1, 1, 1, 1, 1, 1, 1]) tm H (endK ti0 p Go.Proofs.Try.f7.results.toList k)) (endK ti0 p Go.Proofs.Try.f7.results.toList k))))))) (blkK 1 (seqK (fun tm H => evalCode ti0 p o7 108 n (cd c7 [1, 1, 1, 1, 1, 1, 1, 1, 0, 1, 0, 0, 1, 1]) tm H (seqK (fun tm H => iterC 108 (fun tm H k => evalCode ti0 p o7 108 n (cd c7 [1, 1, 1, 1, 1, 1, 1, 1, 0, 1, 0, 0]) tm H k) (blkK 0 (seqK (fun tm H => evalCode ti0 p o7 108 n (cd c7 [1, 1, 1, 1, 1, 1, 1, 1, 1]) tm H (endK ti0 p Go.Proofs.Try.f7.results.toList k)) (endK ti0 p Go.Proofs.Try.f7.results.toList k))) m0 (nrm 108 tm) H) (blkK 0 (seqK (fun tm H => evalCode ti0 p o7 108 n (cd c7 [1, 1, 1, 1, 1, 1, 1, 1, 1]) tm H (endK ti0 p Go.Proofs.Try.f7.results.toList k)) (endK ti0 p Go.Proofs.Try.f7.results.toList k))))) (seqK (fun tm H => iterC 108 (fun tm H k => evalCode ti0 p o7 108 n (cd c7 [1, 1, 1, 1, 1, 1, 1, 1, 0, 1, 0, 0]) tm H k) (blkK 0 (seqK (fun tm H => evalCode ti0 p o7 108 n (cd c7 [1, 1, 1, 1, 1, 1, 1, 1, 1]) tm H (endK ti0 p Go.Proofs.Try.f7.results.toList k)) (endK ti0 p Go.Proofs.Try.f7.results.toList k))) m0 (nrm 108 tm) H) (blkK 0 (seqK (fun tm H => evalCode ti0 p o7 108 n (cd c7 [1, 1, 1, 1, 1, 1, 1, 1, 1]) tm H (endK ti0 p Go.Proofs.Try.f7.results.toList k)) (endK ti0 p Go.Proofs.Try.f7.results.toList k)))))))) m tm H
noncomputable def f7_L2 (p : Pr β) (n : Nat)  (k : AV → Heap → Option β) (m : Nat) (tm : Tm) (H : Heap) : Option β :=
  iterC 108 (fun tm H k => evalCode ti0 p o7 108 n (cd c7 [1, 1, 1, 1, 1, 1, 1, 1, 1, 0, 1, 0, 0]) tm H k) (blkK 4 (seqK (fun tm H => evalCode ti0 p o7 108 n (cd c7 [1, 1, 1, 1, 1, 1, 1, 1, 1, 1]) tm H (endK ti0 p Go.Proofs.Try.f7.results.toList k)) (endK ti0 p Go.Proofs.Try.f7.results.toList k))) m tm H
noncomputable def f7_L0 (p : Pr β) (n : Nat)  (k : AV → Heap → Option β) (m : Nat) (tm : Tm) (H : Heap) : Option β :=
  iterC 108 (fun tm H k => evalCode ti0 p o7 108 n (cd c7 [1, 1, 1, 1, 1, 1, 1, 1, 0, 1, 0, 0]) tm H k) (blkK 0 (seqK (fun tm H => evalCode ti0 p o7 108 n (cd c7 [1, 1, 1, 1, 1, 1, 1, 1, 1]) tm H (endK ti0 p Go.Proofs.Try.f7.results.toList k)) (endK ti0 p Go.Proofs.Try.f7.results.toList k))) m tm H
theorem f7_L1_step (p : Pr β) (n : Nat) (m0 : Nat) (k : AV → Heap → Option β) (m1 : Nat) (t0 t1 t2 t3 t4 t5 t6 t7 t8 t9 t10 t11 t12 t13 t14 t15 t16 t17 t18 t19 t20 t21 t22 t23 t24 t25 t26 t27 t28 t29 t30 t31 t32 t33 t34 t35 t36 t37 t38 t39 t40 t41 t42 t43 t44 t45 t46 t47 t48 t49 t50 t51 t52 t53 t54 t55 t56 t57 t58 t59 t60 t61 t62 t63 t64 t65 t66 t67 t68 t69 t70 t71 t72 t73 t74 t75 t76 t77 t78 t79 t80 t81 t82 t83 t84 t85 t86 t87 t88 t89 t90 t91 t92 t93 t94 t95 t96 t97 t98 t99 t100 t101 t102 t103 t104 t105 t106 t107 : AV) (H : Heap) : f7_L1 p n m0 k (m1 + 1) [(0, t0), (1, t1), (2, t2), (3, t3), (4, t4), (5, t5), (6, t6), (7, t7), (8, t8), (9, t9), (10, t10), (11, t11), (12, t12), (13, t13), (14, t14), (15, t15), (16, t16), (17, t17), (18, t18), (19, t19), (20, t20), (21, t21), (22, t22), (23, t23), (24, t24), (25, t25), (26, t26), (27, t27), (28, t28), (29, t29), (30, t30), (31, t31), (32, t32), (33, t33), (34, t34), (35, t35), (36, t36), (37, t37), (38, t38), (39, t39), (40, t40), (41, t41), (42, t42), (43, t43), (44, t44), (45, t45), (46, t46), (47, t47), (48, t48), (49, t49), (50, t50), (51, t51), (52, t52), (53, t53), (54, t54), (55, t55), (56, t56), (57, t57), (58, t58), (59, t59), (60, t60), (61, t61), (62, t62), (63, t63), (64, t64), (65, t65), (66, t66), (67, t67), (68, t68), (69, t69), (70, t70), (71, t71), (72, t72), (73, t73), (74, t74), (75, t75), (76, t76), (77, t77), (78, t78), (79, t79), (80, t80), (81, t81), (82, t82), (83, t83), (84, t84), (85, t85), (86, t86), (87, t87), (88, t88), (89, t89), (90, t90), (91, t91), (92, t92), (93, t93), (94, t94), (95, t95), (96, t96), (97, t97), (98, t98), (99, t99), (100, t100), (101, t101), (102, t102), (103, t103), (104, t104), (105, t105), (106, t106), (107, t107)] H =
  p.len t4 fun t76 =>
  p.bin .lss t12 t76 fun t77 =>
  p.cond t77
  (p.guard t11 false H (fun k' => k' t4 H) fun t82 H =>
  p.guard t11 false H (fun k' => k' t12 H) fun t83 H =>
  p.guard t11 false H (fun k' => p.iadr 1 t82 t83 fun t' => k' t' H) fun t84 H =>
  p.guard t11 false H (fun k' => p.load false 1 t84 H fun t' => k' t' H) fun t85 H =>
  p.guard t11 false H (fun k' => k' t9 H) fun t86 H =>
  p.guard t11 false H (fun k' => p.bin .eql t85 t86 fun t' => k' t' H) fun t87 H =>
  p.pick t11 (.sc (.bool true)) t87 fun t88 =>
  p.bin .add t12 (.sc (.int .i64 1)) fun t79 =>
  f7_L1 p n m0 k m1 [(0, t0), (1, t1), (2, t2), (3, t3), (4, t4), (5, t5), (6, t6), (7, t7), (8, t8), (9, t9), (10, t10), (11, t88), (12, t79), (13, t13), (14, t14), (15, t15), (16, t16), (17, t17), (18, t18), (19, t19), (20, t20), (21, t21), (22, t22), (23, t23), (24, t24), (25, t25), (26, t26), (27, t27), (28, t28), (29, t29), (30, t30), (31, t31), (32, t32), (33, t33), (34, t34), (35, t35), (36, t36), (37, t37), (38, t38), (39, t39), (40, t40), (41, t41), (42, t42), (43, t43), (44, t44), (45, t45), (46, t46), (47, t47), (48, t48), (49, t49), (50, t50), (51, t51), (52, t52), (53, t53), (54, t54), (55, t55), (56, t56), (57, t57), (58, t58), (59, t59), (60, t60), (61, t61), (62, t62), (63, t63), (64, t64), (65, t65), (66, t66), (67, t67), (68, t68), (69, t69), (70, t70), (71, t71), (72, t72), (73, t73), (74, t12), (75, t4), (76, t76), (77, t77), (78, t12), (79, t79), (80, t11), (81, t11), (82, t82), (83, t83), (84, t84), (85, t85), (86, t86), (87, t87), (88, t88), (89, t89), (90, t90), (91, t91), (92, t92), (93, t93), (94, t94), (95, t95), (96, t96), (97, t97), (98, t98), (99, t99), (100, t100), (101, t101), (102, t102), (103, t103), (104, t104), (105, t105), (106, t106), (107, t107)] H)
  (p.un .not t11 fun t90 =>
  p.cond t90
  (k (.sc (.bool false)) H)
  (p.bin .add t10 (.sc (.int .i64 1)) fun t70 =>
  f7_L0 p n  k m0 [(0, t0), (1, t1), (2, t2), (3, t3), (4, t4), (5, t5), (6, t6), (7, t7), (8, t8), (9, t9), (10, t70), (11, t11), (12, t12), (13, t13), (14, t14), (15, t15), (16, t16), (17, t17), (18, t18), (19, t19), (20, t20), (21, t21), (22, t22), (23, t23), (24, t24), (25, t25), (26, t26), (27, t27), (28, t28), (29, t29), (30, t30), (31, t31), (32, t32), (33, t33), (34, t34), (35, t35), (36, t36), (37, t37), (38, t38), (39, t39), (40, t40), (41, t41), (42, t42), (43, t43), (44, t44), (45, t45), (46, t46), (47, t47), (48, t48), (49, t49), (50, t50), (51, t51), (52, t52), (53, t53), (54, t54), (55, t55), (56, t56), (57, t57), (58, t58), (59, t59), (60, t60), (61, t61), (62, t62), (63, t63), (64, t64), (65, t65), (66, t66), (67, t67), (68, t68), (69, t10), (70, t70), (71, t71), (72, t72), (73, t73), (74, t12), (75, t4), (76, t76), (77, t77), (78, t78), (79, t79), (80, t80), (81, t81), (82, t82), (83, t83), (84, t84), (85, t85), (86, t86), (87, t87), (88, t88), (89, t11), (90, t90), (91, t91), (92, t92), (93, t93), (94, t94), (95, t95), (96, t96), (97, t97), (98, t98), (99, t99), (100, t100), (101, t101), (102, t102), (103, t103), (104, t104), (105, t105), (106, t106), (107, t107)] H)) := by kernel_rfl
theorem f7_l1_eq (p : Pr β) (n : Nat) (m0 : Nat) (k : AV → Heap → Option β) (g0 : AV → AV → AV → AV → AV → Heap → Option β) (h0 : ∀ t0 t1 t2 t3 t4 t5 t6 t7 t8 t9 t10 t11 t12 t13 t14 t15 t16 t17 t18 t19 t20 t21 t22 t23 t24 t25 t26 t27 t28 t29 t30 t31 t32 t33 t34 t35 t36 t37 t38 t39 t40 t41 t42 t43 t44 t45 t46 t47 t48 t49 t50 t51 t52 t53 t54 t55 t56 t57 t58 t59 t60 t61 t62 t63 t64 t65 t66 t67 t68 t69 t70 t71 t72 t73 t74 t75 t76 t77 t78 t79 t80 t81 t82 t83 t84 t85 t86 t87 t88 t89 t90 t91 t92 t93 t94 t95 t96 t97 t98 t99 t100 t101 t102 t103 t104 t105 t106 t107 H, f7_L0 p n  k m0 [(0, t0), (1, t1), (2, t2), (3, t3), (4, t4), (5, t5), (6, t6), (7, t7), (8, t8), (9, t9), (10, t10), (11, t11), (12, t12), (13, t13), (14, t14), (15, t15), (16, t16), (17, t17), (18, t18), (19, t19), (20, t20), (21, t21), (22, t22), (23, t23), (24, t24), (25, t25), (26, t26), (27, t27), (28, t28), (29, t29), (30, t30), (31, t31), (32, t32), (33, t33), (34, t34), (35, t35), (36, t36), (37, t37), (38, t38), (39, t39), (40, t40), (41, t41), (42, t42), (43, t43), (44, t44), (45, t45), (46, t46), (47, t47), (48, t48), (49, t49), (50, t50), (51, t51), (52, t52), (53, t53), (54, t54), (55, t55), (56, t56), (57, t57), (58, t58), (59, t59), (60, t60), (61, t61), (62, t62), (63, t63), (64, t64), (65, t65), (66, t66), (67, t67), (68, t68), (69, t69), (70, t70), (71, t71), (72, t72), (73, t73), (74, t74), (75, t75), (76, t76), (77, t77), (78, t78), (79, t79), (80, t80), (81, t81), (82, t82), (83, t83), (84, t84), (85, t85), (86, t86), (87, t87), (88, t88), (89, t89), (90, t90), (91, t91), (92, t92), (93, t93), (94, t94), (95, t95), (96, t96), (97, t97), (98, t98), (99, t99), (100, t100), (101, t101), (102, t102), (103, t103), (104, t104), (105, t105), (106, t106), (107, t107)] H = g0 t3 t4 t5 t9 t10 H) (m1 : Nat) : ∀ (t0 t1 t2 t3 t4 t5 t6 t7 t8 t9 t10 t11 t12 t13 t14 t15 t16 t17 t18 t19 t20 t21 t22 t23 t24 t25 t26 t27 t28 t29 t30 t31 t32 t33 t34 t35 t36 t37 t38 t39 t40 t41 t42 t43 t44 t45 t46 t47 t48 t49 t50 t51 t52 t53 t54 t55 t56 t57 t58 t59 t60 t61 t62 t63 t64 t65 t66 t67 t68 t69 t70 t71 t72 t73 t74 t75 t76 t77 t78 t79 t80 t81 t82 t83 t84 t85 t86 t87 t88 t89 t90 t91 t92 t93 t94 t95 t96 t97 t98 t99 t100 t101 t102 t103 t104 t105 t106 t107 : AV) (H : Heap), f7_L1 p n m0 k m1 [(0, t0), (1, t1), (2, t2), (3, t3), (4, t4), (5, t5), (6, t6), (7, t7), (8, t8), (9, t9), (10, t10), (11, t11), (12, t12), (13, t13), (14, t14), (15, t15), (16, t16), (17, t17), (18, t18), (19, t19), (20, t20), (21, t21), (22, t22), (23, t23), (24, t24), (25, t25), (26, t26), (27, t27), (28, t28), (29, t29), (30, t30), (31, t31), (32, t32), (33, t33), (34, t34), (35, t35), (36, t36), (37, t37), (38, t38), (39, t39), (40, t40), (41, t41), (42, t42), (43, t43), (44, t44), (45, t45), (46, t46), (47, t47), (48, t48), (49, t49), (50, t50), (51, t51), (52, t52), (53, t53), (54, t54), (55, t55), (56, t56), (57, t57), (58, t58), (59, t59), (60, t60), (61, t61), (62, t62), (63, t63), (64, t64), (65, t65), (66, t66), (67, t67), (68, t68), (69, t69), (70, t70), (71, t71), (72, t72), (73, t73), (74, t74), (75, t75), (76, t76), (77, t77), (78, t78), (79, t79), (80, t80), (81, t81), (82, t82), (83, t83), (84, t84), (85, t85), (86, t86), (87, t87), (88, t88), (89, t89), (90, t90), (91, t91), (92, t92), (93, t93), (94, t94), (95, t95), (96, t96), (97, t97), (98, t98), (99, t99), (100, t100), (101, t101), (102, t102), (103, t103), (104, t104), (105, t105), (106, t106), (107, t107)] H = f7_l1 p n g0 k m1 t3 t4 t5 t9 t10 t11 t12 H := by
  induction m1 with
  | zero => intros; rfl
  | succ m1 ih =>
    intro t0 t1 t2 t3 t4 t5 t6 t7 t8 t9 t10 t11 t12 t13 t14 t15 t16 t17 t18 t19 t20 t21 t22 t23 t24 t25 t26 t27 t28 t29 t30 t31 t32 t33 t34 t35 t36 t37 t38 t39 t40 t41 t42 t43 t44 t45 t46 t47 t48 t49 t50 t51 t52 t53 t54 t55 t56 t57 t58 t59 t60 t61 t62 t63 t64 t65 t66 t67 t68 t69 t70 t71 t72 t73 t74 t75 t76 t77 t78 t79 t80 t81 t82 t83 t84 t85 t86 t87 t88 t89 t90 t91 t92 t93 t94 t95 t96 t97 t98 t99 t100 t101 t102 t103 t104 t105 t106 t107 H
    rw [f7_L1_step]
    simp only [ih, h0]
    rfl
theorem f7_L2_step (p : Pr β) (n : Nat)  (k : AV → Heap → Option β) (m2 : Nat) (t0 t1 t2 t3 t4 t5 t6 t7 t8 t9 t10 t11 t12 t13 t14 t15 t16 t17 t18 t19 t20 t21 t22 t23 t24 t25 t26 t27 t28 t29 t30 t31 t32 t33 t34 t35 t36 t37 t38 t39 t40 t41 t42 t43 t44 t45 t46 t47 t48 t49 t50 t51 t52 t53 t54 t55 t56 t57 t58 t59 t60 t61 t62 t63 t64 t65 t66 t67 t68 t69 t70 t71 t72 t73 t74 t75 t76 t77 t78 t79 t80 t81 t82 t83 t84 t85 t86 t87 t88 t89 t90 t91 t92 t93 t94 t95 t96 t97 t98 t99 t100 t101 t102 t103 t104 t105 t106 t107 : AV) (H : Heap) : f7_L2 p n  k (m2 + 1) [(0, t0), (1, t1), (2, t2), (3, t3), (4, t4), (5, t5), (6, t6), (7, t7), (8, t8), (9, t9), (10, t10), (11, t11), (12, t12), (13, t13), (14, t14), (15, t15), (16, t16), (17, t17), (18, t18), (19, t19), (20, t20), (21, t21), (22, t22), (23, t23), (24, t24), (25, t25), (26, t26), (27, t27), (28, t28), (29, t29), (30, t30), (31, t31), (32, t32), (33, t33), (34, t34), (35, t35), (36, t36), (37, t37), (38, t38), (39, t39), (40, t40), (41, t41), (42, t42), (43, t43), (44, t44), (45, t45), (46, t46), (47, t47), (48, t48), (49, t49), (50, t50), (51, t51), (52, t52), (53, t53), (54, t54), (55, t55), (56, t56), (57, t57), (58, t58), (59, t59), (60, t60), (61, t61), (62, t62), (63, t63), (64, t64), (65, t65), (66, t66), (67, t67), (68, t68), (69, t69), (70, t70), (71, t71), (72, t72), (73, t73), (74, t74), (75, t75), (76, t76), (77, t77), (78, t78), (79, t79), (80, t80), (81, t81), (82, t82), (83, t83), (84, t84), (85, t85), (86, t86), (87, t87), (88, t88), (89, t89), (90, t90), (91, t91), (92, t92), (93, t93), (94, t94), (95, t95), (96, t96), (97, t97), (98, t98), (99, t99), (100, t100), (101, t101), (102, t102), (103, t103), (104, t104), (105, t105), (106, t106), (107, t107)] H =
  p.len t4 fun t93 =>
  p.bin .lss t13 t93 fun t94 =>
  p.cond t94
  (p.iadr 1 t4 t13 fun t99 =>
  p.load false 1 t99 H fun t100 =>
  p.bin .eql t100 t5 fun t102 =>
  p.cond t102
  (k (.sc (.bool false)) H)
  (p.bin .add t13 (.sc (.int .i64 1)) fun t96 =>
  f7_L2 p n  k m2 [(0, t0), (1, t1), (2, t2), (3, t3), (4, t4), (5, t5), (6, t6), (7, t7), (8, t8), (9, t9), (10, t10), (11, t11), (12, t12), (13, t96), (14, t14), (15, t15), (16, t16), (17, t17), (18, t18), (19, t19), (20, t20), (21, t21), (22, t22), (23, t23), (24, t24), (25, t25), (26, t26), (27, t27), (28, t28), (29, t29), (30, t30), (31, t31), (32, t32), (33, t33), (34, t34), (35, t35), (36, t36), (37, t37), (38, t38), (39, t39), (40, t40), (41, t41), (42, t42), (43, t43), (44, t44), (45, t45), (46, t46), (47, t47), (48, t48), (49, t49), (50, t50), (51, t51), (52, t52), (53, t53), (54, t54), (55, t55), (56, t56), (57, t57), (58, t58), (59, t59), (60, t60), (61, t61), (62, t62), (63, t63), (64, t64), (65, t65), (66, t66), (67, t67), (68, t68), (69, t69), (70, t70), (71, t71), (72, t72), (73, t73), (74, t74), (75, t75), (76, t76), (77, t77), (78, t78), (79, t79), (80, t80), (81, t81), (82, t82), (83, t83), (84, t84), (85, t85), (86, t86), (87, t87), (88, t88), (89, t89), (90, t90), (91, t13), (92, t4), (93, t93), (94, t94), (95, t13), (96, t96), (97, t4), (98, t13), (99, t99), (100, t100), (101, t5), (102, t102), (103, t103), (104, t104), (105, t105), (106, t106), (107, t107)] H))
  (p.bin .rem t9 (.sc (.int .i64 65535)) fun t104 =>
  p.bin .add t104 (.sc (.int .i64 1)) fun t105 =>
  p.bin .eql t105 t5 fun t107 =>
  k t107 H) := by kernel_rfl
theorem f7_l2_eq (p : Pr β) (n : Nat)  (k : AV → Heap → Option β)   (m2 : Nat) : ∀ (t0 t1 t2 t3 t4 t5 t6 t7 t8 t9 t10 t11 t12 t13 t14 t15 t16 t17 t18 t19 t20 t21 t22 t23 t24 t25 t26 t27 t28 t29 t30 t31 t32 t33 t34 t35 t36 t37 t38 t39 t40 t41 t42 t43 t44 t45 t46 t47 t48 t49 t50 t51 t52 t53 t54 t55 t56 t57 t58 t59 t60 t61 t62 t63 t64 t65 t66 t67 t68 t69 t70 t71 t72 t73 t74 t75 t76 t77 t78 t79 t80 t81 t82 t83 t84 t85 t86 t87 t88 t89 t90 t91 t92 t93 t94 t95 t96 t97 t98 t99 t100 t101 t102 t103 t104 t105 t106 t107 : AV) (H : Heap), f7_L2 p n  k m2 [(0, t0), (1, t1), (2, t2), (3, t3), (4, t4), (5, t5), (6, t6), (7, t7), (8, t8), (9, t9), (10, t10), (11, t11), (12, t12), (13, t13), (14, t14), (15, t15), (16, t16), (17, t17), (18, t18), (19, t19), (20, t20), (21, t21), (22, t22), (23, t23), (24, t24), (25, t25), (26, t26), (27, t27), (28, t28), (29, t29), (30, t30), (31, t31), (32, t32), (33, t33), (34, t34), (35, t35), (36, t36), (37, t37), (38, t38), (39, t39), (40, t40), (41, t41), (42, t42), (43, t43), (44, t44), (45, t45), (46, t46), (47, t47), (48, t48), (49, t49), (50, t50), (51, t51), (52, t52), (53, t53), (54, t54), (55, t55), (56, t56), (57, t57), (58, t58), (59, t59), (60, t60), (61, t61), (62, t62), (63, t63), (64, t64), (65, t65), (66, t66), (67, t67), (68, t68), (69, t69), (70, t70), (71, t71), (72, t72), (73, t73), (74, t74), (75, t75), (76, t76), (77, t77), (78, t78), (79, t79), (80, t80), (81, t81), (82, t82), (83, t83), (84, t84), (85, t85), (86, t86), (87, t87), (88, t88), (89, t89), (90, t90), (91, t91), (92, t92), (93, t93), (94, t94), (95, t95), (96, t96), (97, t97), (98, t98), (99, t99), (100, t100), (101, t101), (102, t102), (103, t103), (104, t104), (105, t105), (106, t106), (107, t107)] H = f7_l2 p n  k m2 t4 t5 t9 t13 H := by
  induction m2 with
  | zero => intros; rfl
  | succ m2 ih =>
    intro t0 t1 t2 t3 t4 t5 t6 t7 t8 t9 t10 t11 t12 t13 t14 t15 t16 t17 t18 t19 t20 t21 t22 t23 t24 t25 t26 t27 t28 t29 t30 t31 t32 t33 t34 t35 t36 t37 t38 t39 t40 t41 t42 t43 t44 t45 t46 t47 t48 t49 t50 t51 t52 t53 t54 t55 t56 t57 t58 t59 t60 t61 t62 t63 t64 t65 t66 t67 t68 t69 t70 t71 t72 t73 t74 t75 t76 t77 t78 t79 t80 t81 t82 t83 t84 t85 t86 t87 t88 t89 t90 t91 t92 t93 t94 t95 t96 t97 t98 t99 t100 t101 t102 t103 t104 t105 t106 t107 H
    rw [f7_L2_step]
    simp only [ih]
    rfl
theorem f7_L0_step (p : Pr β) (n : Nat)  (k : AV → Heap → Option β) (m0 : Nat) (t0 t1 t2 t3 t4 t5 t6 t7 t8 t9 t10 t11 t12 t13 t14 t15 t16 t17 t18 t19 t20 t21 t22 t23 t24 t25 t26 t27 t28 t29 t30 t31 t32 t33 t34 t35 t36 t37 t38 t39 t40 t41 t42 t43 t44 t45 t46 t47 t48 t49 t50 t51 t52 t53 t54 t55 t56 t57 t58 t59 t60 t61 t62 t63 t64 t65 t66 t67 t68 t69 t70 t71 t72 t73 t74 t75 t76 t77 t78 t79 t80 t81 t82 t83 t84 t85 t86 t87 t88 t89 t90 t91 t92 t93 t94 t95 t96 t97 t98 t99 t100 t101 t102 t103 t104 t105 t106 t107 : AV) (H : Heap) : f7_L0 p n  k (m0 + 1) [(0, t0), (1, t1), (2, t2), (3, t3), (4, t4), (5, t5), (6, t6), (7, t7), (8, t8), (9, t9), (10, t10), (11, t11), (12, t12), (13, t13), (14, t14), (15, t15), (16, t16), (17, t17), (18, t18), (19, t19), (20, t20), (21, t21), (22, t22), (23, t23), (24, t24), (25, t25), (26, t26), (27, t27), (28, t28), (29, t29), (30, t30), (31, t31), (32, t32), (33, t33), (34, t34), (35, t35), (36, t36), (37, t37), (38, t38), (39, t39), (40, t40), (41, t41), (42, t42), (43, t43), (44, t44), (45, t45), (46, t46), (47, t47), (48, t48), (49, t49), (50, t50), (51, t51), (52, t52), (53, t53), (54, t54), (55, t55), (56, t56), (57, t57), (58, t58), (59, t59), (60, t60), (61, t61), (62, t62), (63, t63), (64, t64), (65, t65), (66, t66), (67, t67), (68, t68), (69, t69), (70, t70), (71, t71), (72, t72), (73, t73), (74, t74), (75, t75), (76, t76), (77, t77), (78, t78), (79, t79), (80, t80), (81, t81), (82, t82), (83, t83), (84, t84), (85, t85), (86, t86), (87, t87), (88, t88), (89, t89), (90, t90), (91, t91), (92, t92), (93, t93), (94, t94), (95, t95), (96, t96), (97, t97), (98, t98), (99, t99), (100, t100), (101, t101), (102, t102), (103, t103), (104, t104), (105, t105), (106, t106), (107, t107)] H =
  p.call 3 (.fn 28 [] []) [t3, t5] H fun t67 H =>
  p.bin .lss t10 t67 fun t68 =>
  p.cond t68
  (p.bin .rem t9 (.sc (.int .i64 65535)) fun t72 =>
  p.bin .add t72 (.sc (.int .i64 1)) fun t73 =>
  f7_L1 p n m0 k n [(0, t0), (1, t1), (2, t2), (3, t3), (4, t4), (5, t5), (6, t6), (7, t7), (8, t8), (9, t73), (10, t10), (11, (.sc (.bool false))), (12, (.sc (.int .i64 0))), (13, t13), (14, t14), (15, t15), (16, t16), (17, t17), (18, t18), (19, t19), (20, t20), (21, t21), (22, t22), (23, t23), (24, t24), (25, t25), (26, t26), (27, t27), (28, t28), (29, t29), (30, t30), (31, t31), (32, t32), (33, t33), (34, t34), (35, t35), (36, t36), (37, t37), (38, t38), (39, t39), (40, t40), (41, t41), (42, t42), (43, t43), (44, t44), (45, t45), (46, t46), (47, t47), (48, t48), (49, t49), (50, t50), (51, t51), (52, t52), (53, t53), (54, t54), (55, t55), (56, t56), (57, t57), (58, t58), (59, t59), (60, t60), (61, t61), (62, t62), (63, t63), (64, t10), (65, t3), (66, t5), (67, t67), (68, t68), (69, t69), (70, t70), (71, t9), (72, t72), (73, t73), (74, t74), (75, t75), (76, t76), (77, t77), (78, t78), (79, t79), (80, t80), (81, t81), (82, t82), (83, t83), (84, t84), (85, t85), (86, t86), (87, t87), (88, t88), (89, t89), (90, t90), (91, t91), (92, t92), (93, t93), (94, t94), (95, t95), (96, t96), (97, t97), (98, t98), (99, t99), (100, t100), (101, t101), (102, t102), (103, t103), (104, t104), (105, t105), (106, t106), (107, t107)] H)
  (f7_L2 p n  k n [(0, t0), (1, t1), (2, t2), (3, t3), (4, t4), (5, t5), (6, t6), (7, t7), (8, t8), (9, t9), (10, t10), (11, t11), (12, t12), (13, (.sc (.int .i64 0))), (14, t14), (15, t15), (16, t16), (17, t17), (18, t18), (19, t19), (20, t20), (21, t21), (22, t22), (23, t23), (24, t24), (25, t25), (26, t26), (27, t27), (28, t28), (29, t29), (30, t30), (31, t31), (32, t32), (33, t33), (34, t34), (35, t35), (36, t36), (37, t37), (38, t38), (39, t39), (40, t40), (41, t41), (42, t42), (43, t43), (44, t44), (45, t45), (46, t46), (47, t47), (48, t48), (49, t49), (50, t50), (51, t51), (52, t52), (53, t53), (54, t54), (55, t55), (56, t56), (57, t57), (58, t58), (59, t59), (60, t60), (61, t61), (62, t62), (63, t63), (64, t10), (65, t3), (66, t5), (67, t67), (68, t68), (69, t69), (70, t70), (71, t71), (72, t72), (73, t73), (74, t74), (75, t75), (76, t76), (77, t77), (78, t78), (79, t79), (80, t80), (81, t81), (82, t82), (83, t83), (84, t84), (85, t85), (86, t86), (87, t87), (88, t88), (89, t89), (90, t90), (91, t91), (92, t92), (93, t93), (94, t94), (95, t95), (96, t96), (97, t97), (98, t98), (99, t99), (100, t100), (101, t101), (102, t102), (103, t103), (104, t104), (105, t105), (106, t106), (107, t107)] H) := by kernel_rfl
theorem f7_l0_eq (p : Pr β) (n : Nat)  (k : AV → Heap → Option β)   (m0 : Nat) : ∀ (t0 t1 t2 t3 t4 t5 t6 t7 t8 t9 t10 t11 t12 t13 t14 t15 t16 t17 t18 t19 t20 t21 t22 t23 t24 t25 t26 t27 t28 t29 t30 t31 t32 t33 t34 t35 t36 t37 t38 t39 t40 t41 t42 t43 t44 t45 t46 t47 t48 t49 t50 t51 t52 t53 t54 t55 t56 t57 t58 t59 t60 t61 t62 t63 t64 t65 t66 t67 t68 t69 t70 t71 t72 t73 t74 t75 t76 t77 t78 t79 t80 t81 t82 t83 t84 t85 t86 t87 t88 t89 t90 t91 t92 t93 t94 t95 t96 t97 t98 t99 t100 t101 t102 t103 t104 t105 t106 t107 : AV) (H : Heap), f7_L0 p n  k m0 [(0, t0), (1, t1), (2, t2), (3, t3), (4, t4), (5, t5), (6, t6), (7, t7), (8, t8), (9, t9), (10, t10), (11, t11), (12, t12), (13, t13), (14, t14), (15, t15), (16, t16), (17, t17), (18, t18), (19, t19), (20, t20), (21, t21), (22, t22), (23, t23), (24, t24), (25, t25), (26, t26), (27, t27), (28, t28), (29, t29), (30, t30), (31, t31), (32, t32), (33, t33), (34, t34), (35, t35), (36, t36), (37, t37), (38, t38), (39, t39), (40, t40), (41, t41), (42, t42), (43, t43), (44, t44), (45, t45), (46, t46), (47, t47), (48, t48), (49, t49), (50, t50), (51, t51), (52, t52), (53, t53), (54, t54), (55, t55), (56, t56), (57, t57), (58, t58), (59, t59), (60, t60), (61, t61), (62, t62), (63, t63), (64, t64), (65, t65), (66, t66), (67, t67), (68, t68), (69, t69), (70, t70), (71, t71), (72, t72), (73, t73), (74, t74), (75, t75), (76, t76), (77, t77), (78, t78), (79, t79), (80, t80), (81, t81), (82, t82), (83, t83), (84, t84), (85, t85), (86, t86), (87, t87), (88, t88), (89, t89), (90, t90), (91, t91), (92, t92), (93, t93), (94, t94), (95, t95), (96, t96), (97, t97), (98, t98), (99, t99), (100, t100), (101, t101), (102, t102), (103, t103), (104, t104), (105, t105), (106, t106), (107, t107)] H = f7_l0 p n  k m0 t3 t4 t5 t9 t10 H := by
  induction m0 with
  | zero => intros; rfl
  | succ m0 ih =>
    intro t0 t1 t2 t3 t4 t5 t6 t7 t8 t9 t10 t11 t12 t13 t14 t15 t16 t17 t18 t19 t20 t21 t22 t23 t24 t25 t26 t27 t28 t29 t30 t31 t32 t33 t34 t35 t36 t37 t38 t39 t40 t41 t42 t43 t44 t45 t46 t47 t48 t49 t50 t51 t52 t53 t54 t55 t56 t57 t58 t59 t60 t61 t62 t63 t64 t65 t66 t67 t68 t69 t70 t71 t72 t73 t74 t75 t76 t77 t78 t79 t80 t81 t82 t83 t84 t85 t86 t87 t88 t89 t90 t91 t92 t93 t94 t95 t96 t97 t98 t99 t100 t101 t102 t103 t104 t105 t106 t107 H
    rw [f7_L0_step]
    simp only [ih, f7_l1_eq p n m0 k (f7_l0 p n  k m0) ih, f7_l2_eq p n  k  ]
    rfl
theorem f7_raw (p : Pr β) (n : Nat) (a0 : AV) (H : Heap) (k : AV → Heap → Option β) : evalBody ti0 p n ⟨c7, 108, Go.Proofs.Try.f7.results.toList, o7⟩ [a0] H k =
  p.call 4 (.fn 24 [] []) [a0] H fun t15 H =>
  p.cond t15
  (k (.sc (.bool true)) H)
  (p.call 38 (.fn 25 [] []) [a0] H fun t18 H =>
  p.extr t18 0 fun t19 =>
  p.extr t18 1 fun t20 =>
  p.call 40 (.fn 26 [] []) [t19, t20] H fun t24 H =>
  p.extr t24 0 fun t25 =>
  p.extr t24 1 fun t26 =>
  p.call 42 (.fn 27 [] []) [a0] H fun t29 H =>
  p.extr t29 0 fun t30 =>
  p.extr t29 1 fun t31 =>
  p.bin .lss t19 (.sc (.int .i64 0)) fun t33 =>
  p.guard t33 false H (fun k' => k' t19 H) fun t35 H =>
  p.guard t33 false H (fun k' => p.bin .gtr t35 (.sc (.int .i64 65535)) fun t' => k' t' H) fun t36 H =>
  p.pick t33 (.sc (.bool true)) t36 fun t37 =>
  p.cond t37
  (p.un .not t26 fun t39 =>
  p.guard t39 true H (fun k' => k' t25 H) fun t41 H =>
  p.guard t39 true H (fun k' => p.bin .eql t41 (.sc (.int .i64 0)) fun t' => k' t' H) fun t42 H =>
  p.pick t39 t42 (.sc (.bool false)) fun t43 =>
  k t43 H)
  (p.un .not t26 fun t45 =>
  p.guard t45 false H (fun k' => k' t25 H) fun t47 H =>
  p.guard t45 false H (fun k' => p.bin .lss t47 (.sc (.int .i64 1)) fun t' => k' t' H) fun t48 H =>
  p.pick t45 (.sc (.bool true)) t48 fun t49 =>
  p.guard t49 false H (fun k' => k' t25 H) fun t51 H =>
  p.guard t49 false H (fun k' => p.bin .gtr t51 (.sc (.int .i64 65535)) fun t' => k' t' H) fun t52 H =>
  p.pick t49 (.sc (.bool true)) t52 fun t53 =>
  p.guard t53 false H (fun k' => k' t30 H) fun t55 H =>
  p.guard t53 false H (fun k' => k' t31 H) fun t56 H =>
  p.guard t53 false H (fun k' => p.call 3 (.fn 28 [] []) [t55, t56] H fun t' H => k' t' H) fun t57 H =>
  p.guard t53 false H (fun k' => k' t30 H) fun t58 H =>
  p.guard t53 false H (fun k' => k' t31 H) fun t59 H =>
  p.guard t53 false H (fun k' => p.call 3 (.fn 29 [] []) [t58, t59] H fun t' H => k' t' H) fun t60 H =>
  p.guard t53 false H (fun k' => p.bin .neq t57 t60 fun t' => k' t' H) fun t61 H =>
  p.pick t53 (.sc (.bool true)) t61 fun t62 =>
  p.cond t62
  (k (.sc (.bool false)) H)
  (f7_L0 p n  k n [(0, a0), (1, (.sc undef)), (2, (.sc (.bool false))), (3, t19), (4, t20), (5, t25), (6, t26), (7, t30), (8, t31), (9, t19), (10, (.sc (.int .i64 1))), (11, (.sc undef)), (12, (.sc undef)), (13, (.sc undef)), (14, a0), (15, t15), (16, t18), (17, a0), (18, t18), (19, t19), (20, t20), (21, t24), (22, t19), (23, t20), (24, t24), (25, t25), (26, t26), (27, t29), (28, a0), (29, t29), (30, t30), (31, t31), (32, t19), (33, t33), (34, t33), (35, t35), (36, t36), (37, t37), (38, (.sc undef)), (39, (.sc undef)), (40, (.sc undef)), (41, (.sc undef)), (42, (.sc undef)), (43, (.sc undef)), (44, t26), (45, t45), (46, t45), (47, t47), (48, t48), (49, t49), (50, t49), (51, t51), (52, t52), (53, t53), (54, t53), (55, t55), (56, t56), (57, t57), (58, t58), (59, t59), (60, t60), (61, t61), (62, t62), (63, t19), (64, (.sc undef)), (65, (.sc undef)), (66, (.sc undef)), (67, (.sc undef)), (68, (.sc undef)), (69, (.sc undef)), (70, (.sc undef)), (71, (.sc undef)), (72, (.sc undef)), (73, (.sc undef)), (74, (.sc undef)), (75, (.sc undef)), (76, (.sc undef)), (77, (.sc undef)), (78, (.sc undef)), (79, (.sc undef)), (80, (.sc undef)), (81, (.sc undef)), (82, (.sc undef)), (83, (.sc undef)), (84, (.sc undef)), (85, (.sc undef)), (86, (.sc undef)), (87, (.sc undef)), (88, (.sc undef)), (89, (.sc undef)), (90, (.sc undef)), (91, (.sc undef)), (92, (.sc undef)), (93, (.sc undef)), (94, (.sc undef)), (95, (.sc undef)), (96, (.sc undef)), (97, (.sc undef)), (98, (.sc undef)), (99, (.sc undef)), (100, (.sc undef)), (101, (.sc undef)), (102, (.sc undef)), (103, (.sc undef)), (104, (.sc undef)), (105, (.sc undef)), (106, (.sc undef)), (107, (.sc undef))] H))) := by kernel_rfl
theorem f7_body (p : Pr β) (n : Nat) (a0 : AV) (H : Heap) (k : AV → Heap → Option β) : evalBody ti0 p n ⟨c7, 108, Go.Proofs.Try.f7.results.toList, o7⟩ [a0] H k = f7 p n a0 H k := by
  rw [f7_raw]
  simp only [f7_l2_eq, f7_l0_eq]
  rfl

/-! 30 loop.example/g00480/laws.szMsgS -/
noncomputable def f30_l0 (p : Pr β) (n : Nat)  (k : AV → Heap → Option β) : Nat → AV → AV → AV → Heap → Option β
  | 0, _, _, _, _ => none
  | m + 1, t0, t1, t5, H => p.len t0 fun t14 =>
      p.bin .lss t5 t14 fun t15 =>
      p.cond t15
      (p.iadr 4 t0 t5 fun t20 =>
      p.load true 4 t20 H fun t21 =>
      p.call 3 (.fn 19 [] []) [t21, t1] H fun t23 H =>
      p.bin .lss t23 (.sc (.int .i64 0)) fun t25 =>
      p.cond t25
      (k (.sc (.int .i64 (-1))) H)
      (p.bin .add t5 (.sc (.int .i64 1)) fun t17 =>
      f30_l0 p n  k m t0 t23 t17 H))
      (k t1 H)
noncomputable def f30 (p : Pr β) (n : Nat) (a0 a1 : AV) (H : Heap) (k : AV → Heap → Option β) : Option β :=
  p.len a0 fun t8 =>
  p.bin .sub a1 t8 fun t9 =>
  p.bin .lss t9 (.sc (.int .i64 0)) fun t11 =>
  p.cond t11
  (k (.sc (.int .i64 (-1))) H)
  (f30_l0 p n  k n a0 t9 (.sc (.int .i64 0)) H)
noncomputable def f30_L0 (p : Pr β) (n : Nat)  (k : AV → Heap → Option β) (m : Nat) (tm : Tm) (H : Heap) : Option β :=
  iterC 27 (fun tm H k => evalCode ti0 p o30 27 n (cd c30 [1, 1, 1, 0, 1, 0, 0]) tm H k) (blkK 0 (seqK (fun tm H => evalCode ti0 p o30 27 n (cd c30 [1, 1, 1, 1]) tm H (endK ti0 p Go.Proofs.Try.f30.results.toList k)) (endK ti0 p Go.Proofs.Try.f30.results.toList k))) m tm H
theorem f30_L0_step (p : Pr β) (n : Nat)  (k : AV → Heap → Option β) (m0 : Nat) (t0 t1 t2 t3 t4 t5 t6 t7 t8 t9 t10 t11 t12 t13 t14 t15 t16 t17 t18 t19 t20 t21 t22 t23 t24 t25 t26 : AV) (H : Heap) : f30_L0 p n  k (m0 + 1) [(0, t0), (1, t1), (2, t2), (3, t3), (4, t4), (5, t5), (6, t6), (7, t7), (8, t8), (9, t9), (10, t10), (11, t11), (12, t12), (13, t13), (14, t14), (15, t15), (16, t16), (17, t17), (18, t18), (19, t19), (20, t20), (21, t21), (22, t22), (23, t23), (24, t24), (25, t25), (26, t26)] H =
  p.len t0 fun t14 =>
  p.bin .lss t5 t14 fun t15 =>
  p.cond t15
  (p.iadr 4 t0 t5 fun t20 =>
  p.load true 4 t20 H fun t21 =>
  p.call 3 (.fn 19 [] []) [t21, t1] H fun t23 H =>
  p.bin .lss t23 (.sc (.int .i64 0)) fun t25 =>
  p.cond t25
  (k (.sc (.int .i64 (-1))) H)
  (p.bin .add t5 (.sc (.int .i64 1)) fun t17 =>
  f30_L0 p n  k m0 [(0, t0), (1, t23), (2, t2), (3, t3), (4, t4), (5, t17), (6, t6), (7, t7), (8, t8), (9, t9), (10, t10), (11, t11), (12, t5), (13, t0), (14, t14), (15, t15), (16, t5), (17, t17), (18, t0), (19, t5), (20, t20), (21, t21), (22, t1), (23, t23), (24, t23), (25, t25), (26, t26)] H))
  (k t1 H) := by kernel_rfl
theorem f30_l0_eq (p : Pr β) (n : Nat)  (k : AV → Heap → Option β)   (m0 : Nat) : ∀ (t0 t1 t2 t3 t4 t5 t6 t7 t8 t9 t10 t11 t12 t13 t14 t15 t16 t17 t18 t19 t20 t21 t22 t23 t24 t25 t26 : AV) (H : Heap), f30_L0 p n  k m0 [(0, t0), (1, t1), (2, t2), (3, t3), (4, t4), (5, t5), (6, t6), (7, t7), (8, t8), (9, t9), (10, t10), (11, t11), (12, t12), (13, t13), (14, t14), (15, t15), (16, t16), (17, t17), (18, t18), (19, t19), (20, t20), (21, t21), (22, t22), (23, t23), (24, t24), (25, t25), (26, t26)] H = f30_l0 p n  k m0 t0 t1 t5 H := by
  induction m0 with
  | zero => intros; rfl
  | succ m0 ih =>
    intro t0 t1 t2 t3 t4 t5 t6 t7 t8 t9 t10 t11 t12 t13 t14 t15 t16 t17 t18 t19 t20 t21 t22 t23 t24 t25 t26 H
    rw [f30_L0_step]
    simp only [ih]
    rfl
theorem f30_raw (p : Pr β) (n : Nat) (a0 a1 : AV) (H : Heap) (k : AV → Heap → Option β) : evalBody ti0 p n ⟨c30, 27, Go.Proofs.Try.f30.results.toList, o30⟩ [a0, a1] H k =
  p.len a0 fun t8 =>
  p.bin .sub a1 t8 fun t9 =>
  p.bin .lss t9 (.sc (.int .i64 0)) fun t11 =>
  p.cond t11
  (k (.sc (.int .i64 (-1))) H)
  (f30_L0 p n  k n [(0, a0), (1, t9), (2, (.sc undef)), (3, (.sc undef)), (4, (.sc (.int .i64 0))), (5, (.sc (.int .i64 0))), (6, a1), (7, a0), (8, t8), (9, t9), (10, t9), (11, t11), (12, (.sc undef)), (13, (.sc undef)), (14, (.sc undef)), (15, (.sc undef)), (16, (.sc undef)), (17, (.sc undef)), (18, (.sc undef)), (19, (.sc undef)), (20, (.sc undef)), (21, (.sc undef)), (22, (.sc undef)), (23, (.sc undef)), (24, (.sc undef)), (25, (.sc undef)), (26, (.sc undef))] H) := by kernel_rfl
theorem f30_body (p : Pr β) (n : Nat) (a0 a1 : AV) (H : Heap) (k : AV → Heap → Option β) : evalBody ti0 p n ⟨c30, 27, Go.Proofs.Try.f30.results.toList, o30⟩ [a0, a1] H k = f30 p n a0 a1 H k := by
  rw [f30_raw]
  simp only [f30_l0_eq]
  rfl

/-! 32 loop.example/g00480/laws.toMsgS -/
noncomputable def f32_l0 (p : Pr β) (n : Nat)  (k : AV → Heap → Option β) : Nat → AV → AV → AV → Heap → Option β
  | 0, _, _, _, _ => none
  | m + 1, t0, t3, t4, H => p.len t0 fun t10 =>
      p.bin .lss t4 t10 fun t11 =>
      p.cond t11
      (p.iadr 4 t0 t4 fun t18 =>
      p.load true 4 t18 H fun t19 =>
      p.call 34 (.fn 21 [] []) [t19] H fun t20 H =>
      p.iadr 4 t3 t4 fun t21 =>
      p.store 4 t21 t20 H fun H =>
      p.bin .add t4 (.sc (.int .i64 1)) fun t13 =>
      f32_l0 p n  k m t0 t3 t13 H)
      (k t3 H)
noncomputable def f32 (p : Pr β) (n : Nat) (a0 : AV) (H : Heap) (k : AV → Heap → Option β) : Option β :=
  p.len a0 fun t6 =>
  p.make 4 56 [(.sc (.string ⟨#[]⟩)), .nl, (.sc (.int .i64 0)), (.sc (.bool false))] t6 t6 H fun t7 H =>
  f32_l0 p n  k n a0 t7 (.sc (.int .i64 0)) H
noncomputable def f32_L0 (p : Pr β) (n : Nat)  (k : AV → Heap → Option β) (m : Nat) (tm : Tm) (H : Heap) : Option β :=
  iterC 23 (fun tm H k => evalCode ti0 p o32 23 n (cd c32 [1, 1, 0, 1, 0, 0]) tm H k) (blkK 0 (seqK (fun tm H => evalCode ti0 p o32 23 n (cd c32 [1, 1, 1]) tm H (endK ti0 p Go.Proofs.Try.f32.results.toList k)) (endK ti0 p Go.Proofs.Try.f32.results.toList k))) m tm H
theorem f32_L0_step (p : Pr β) (n : Nat)  (k : AV → Heap → Option β) (m0 : Nat) (t0 t1 t2 t3 t4 t5 t6 t7 t8 t9 t10 t11 t12 t13 t14 t15 t16 t17 t18 t19 t20 t21 t22 : AV) (H : Heap) : f32_L0 p n  k (m0 + 1) [(0, t0), (1, t1), (2, t2), (3, t3), (4, t4), (5, t5), (6, t6), (7, t7), (8, t8), (9, t9), (10, t10), (11, t11), (12, t12), (13, t13), (14, t14), (15, t15), (16, t16), (17, t17), (18, t18), (19, t19), (20, t20), (21, t21), (22, t22)] H =
  p.len t0 fun t10 =>
  p.bin .lss t4 t10 fun t11 =>
  p.cond t11
  (p.iadr 4 t0 t4 fun t18 =>
  p.load true 4 t18 H fun t19 =>
  p.call 34 (.fn 21 [] []) [t19] H fun t20 H =>
  p.iadr 4 t3 t4 fun t21 =>
  p.store 4 t21 t20 H fun H =>
  p.bin .add t4 (.sc (.int .i64 1)) fun t13 =>
  f32_L0 p n  k m0 [(0, t0), (1, t1), (2, t2), (3, t3), (4, t13), (5, t5), (6, t6), (7, t7), (8, t4), (9, t0), (10, t10), (11, t11), (12, t4), (13, t13), (14, t3), (15, t4), (16, t0), (17, t4), (18, t18), (19, t19), (20, t20), (21, t21), (22, t22)] H)
  (k t3 H) := by kernel_rfl
theorem f32_l0_eq (p : Pr β) (n : Nat)  (k : AV → Heap → Option β)   (m0 : Nat) : ∀ (t0 t1 t2 t3 t4 t5 t6 t7 t8 t9 t10 t11 t12 t13 t14 t15 t16 t17 t18 t19 t20 t21 t22 : AV) (H : Heap), f32_L0 p n  k m0 [(0, t0), (1, t1), (2, t2), (3, t3), (4, t4), (5, t5), (6, t6), (7, t7), (8, t8), (9, t9), (10, t10), (11, t11), (12, t12), (13, t13), (14, t14), (15, t15), (16, t16), (17, t17), (18, t18), (19, t19), (20, t20), (21, t21), (22, t22)] H = f32_l0 p n  k m0 t0 t3 t4 H := by
  induction m0 with
  | zero => intros; rfl
  | succ m0 ih =>
    intro t0 t1 t2 t3 t4 t5 t6 t7 t8 t9 t10 t11 t12 t13 t14 t15 t16 t17 t18 t19 t20 t21 t22 H
    rw [f32_L0_step]
    simp only [ih]
    rfl
theorem f32_raw (p : Pr β) (n : Nat) (a0 : AV) (H : Heap) (k : AV → Heap → Option β) : evalBody ti0 p n ⟨c32, 23, Go.Proofs.Try.f32.results.toList, o32⟩ [a0] H k =
  p.len a0 fun t6 =>
  p.make 4 56 [(.sc (.string ⟨#[]⟩)), .nl, (.sc (.int .i64 0)), (.sc (.bool false))] t6 t6 H fun t7 H =>
  f32_L0 p n  k n [(0, a0), (1, (.sc undef)), (2, .nl), (3, t7), (4, (.sc (.int .i64 0))), (5, a0), (6, t6), (7, t7), (8, (.sc undef)), (9, (.sc undef)), (10, (.sc undef)), (11, (.sc undef)), (12, (.sc undef)), (13, (.sc undef)), (14, (.sc undef)), (15, (.sc undef)), (16, (.sc undef)), (17, (.sc undef)), (18, (.sc undef)), (19, (.sc undef)), (20, (.sc undef)), (21, (.sc undef)), (22, (.sc undef))] H := by kernel_rfl
theorem f32_body (p : Pr β) (n : Nat) (a0 : AV) (H : Heap) (k : AV → Heap → Option β) : evalBody ti0 p n ⟨c32, 23, Go.Proofs.Try.f32.results.toList, o32⟩ [a0] H k = f32 p n a0 H k := by
  rw [f32_raw]
  simp only [f32_l0_eq]
  rfl

/-! 31 loop.example/g00480/spec.Ends -/
noncomputable def f31_l0 (p : Pr β) (n : Nat)  (k : AV → Heap → Option β) : Nat → AV → AV → AV → Heap → Option β
  | 0, _, _, _, _ => none
  | m + 1, t0, t1, t5, H => p.len t1 fun t13 =>
      p.bin .lss t5 t13 fun t14 =>
      p.cond t14
      (p.len t0 fun t19 =>
      p.len t1 fun t21 =>
      p.bin .sub t19 t21 fun t22 =>
      p.bin .add t22 t5 fun t24 =>
      p.iadr 4 t0 t24 fun t25 =>
      p.load true 4 t25 H fun t26 =>
      p.iadr 4 t1 t5 fun t29 =>
      p.load true 4 t29 H fun t30 =>
      p.call 4 (.fn 20 [] []) [t26, t30] H fun t31 H =>
      p.un .not t31 fun t32 =>
      p.cond t32
      (k (.sc (.bool false)) H)
      (p.bin .add t5 (.sc (.int .i64 1)) fun t16 =>
      f31_l0 p n  k m t0 t1 t16 H))
      (k (.sc (.bool true)) H)
noncomputable def f31 (p : Pr β) (n : Nat) (a0 a1 : AV) (H : Heap) (k : AV → Heap → Option β) : Option β :=
  p.len a1 fun t7 =>
  p.len a0 fun t9 =>
  p.bin .gtr t7 t9 fun t10 =>
  p.cond t10
  (k (.sc (.bool false)) H)
  (f31_l0 p n  k n a0 a1 (.sc (.int .i64 0)) H)
noncomputable def f31_L0 (p : Pr β) (n : Nat)  (k : AV → Heap → Option β) (m : Nat) (tm : Tm) (H : Heap) : Option β :=
  iterC 33 (fun tm H k => evalCode ti0 p o31 33 n (cd c31 [1, 1, 0, 1, 0, 0]) tm H k) (blkK 0 (seqK (fun tm H => evalCode ti0 p o31 33 n (cd c31 [1, 1, 1]) tm H (endK ti0 p Go.Proofs.Try.f31.results.toList k)) (endK ti0 p Go.Proofs.Try.f31.results.toList k))) m tm H
theorem f31_L0_step (p : Pr β) (n : Nat)  (k : AV → Heap → Option β) (m0 : Nat) (t0 t1 t2 t3 t4 t5 t6 t7 t8 t9 t10 t11 t12 t13 t14 t15 t16 t17 t18 t19 t20 t21 t22 t23 t24 t25 t26 t27 t28 t29 t30 t31 t32 : AV) (H : Heap) : f31_L0 p n  k (m0 + 1) [(0, t0), (1, t1), (2, t2), (3, t3), (4, t4), (5, t5), (6, t6), (7, t7), (8, t8), (9, t9), (10, t10), (11, t11), (12, t12), (13, t13), (14, t14), (15, t15), (16, t16), (17, t17), (18, t18), (19, t19), (20, t20), (21, t21), (22, t22), (23, t23), (24, t24), (25, t25), (26, t26), (27, t27), (28, t28), (29, t29), (30, t30), (31, t31), (32, t32)] H =
  p.len t1 fun t13 =>
  p.bin .lss t5 t13 fun t14 =>
  p.cond t14
  (p.len t0 fun t19 =>
  p.len t1 fun t21 =>
  p.bin .sub t19 t21 fun t22 =>
  p.bin .add t22 t5 fun t24 =>
  p.iadr 4 t0 t24 fun t25 =>
  p.load true 4 t25 H fun t26 =>
  p.iadr 4 t1 t5 fun t29 =>
  p.load true 4 t29 H fun t30 =>
  p.call 4 (.fn 20 [] []) [t26, t30] H fun t31 H =>
  p.un .not t31 fun t32 =>
  p.cond t32
  (k (.sc (.bool false)) H)
  (p.bin .add t5 (.sc (.int .i64 1)) fun t16 =>
  f31_L0 p n  k m0 [(0, t0), (1, t1), (2, t2), (3, t3), (4, t4), (5, t16), (6, t6), (7, t7), (8, t8), (9, t9), (10, t10), (11, t5), (12, t1), (13, t13), (14, t14), (15, t5), (16, t16), (17, t0), (18, t0), (19, t19), (20, t1), (21, t21), (22, t22), (23, t5), (24, t24), (25, t25), (26, t26), (27, t1), (28, t5), (29, t29), (30, t30), (31, t31), (32, t32)] H))
  (k (.sc (.bool true)) H) := by kernel_rfl
theorem f31_l0_eq (p : Pr β) (n : Nat)  (k : AV → Heap → Option β)   (m0 : Nat) : ∀ (t0 t1 t2 t3 t4 t5 t6 t7 t8 t9 t10 t11 t12 t13 t14 t15 t16 t17 t18 t19 t20 t21 t22 t23 t24 t25 t26 t27 t28 t29 t30 t31 t32 : AV) (H : Heap), f31_L0 p n  k m0 [(0, t0), (1, t1), (2, t2), (3, t3), (4, t4), (5, t5), (6, t6), (7, t7), (8, t8), (9, t9), (10, t10), (11, t11), (12, t12), (13, t13), (14, t14), (15, t15), (16, t16), (17, t17), (18, t18), (19, t19), (20, t20), (21, t21), (22, t22), (23, t23), (24, t24), (25, t25), (26, t26), (27, t27), (28, t28), (29, t29), (30, t30), (31, t31), (32, t32)] H = f31_l0 p n  k m0 t0 t1 t5 H := by
  induction m0 with
  | zero => intros; rfl
  | succ m0 ih =>
    intro t0 t1 t2 t3 t4 t5 t6 t7 t8 t9 t10 t11 t12 t13 t14 t15 t16 t17 t18 t19 t20 t21 t22 t23 t24 t25 t26 t27 t28 t29 t30 t31 t32 H
    rw [f31_L0_step]
    simp only [ih]
    rfl
theorem f31_raw (p : Pr β) (n : Nat) (a0 a1 : AV) (H : Heap) (k : AV → Heap → Option β) : evalBody ti0 p n ⟨c31, 33, Go.Proofs.Try.f31.results.toList, o31⟩ [a0, a1] H k =
  p.len a1 fun t7 =>
  p.len a0 fun t9 =>
  p.bin .gtr t7 t9 fun t10 =>
  p.cond t10
  (k (.sc (.bool false)) H)
  (f31_L0 p n  k n [(0, a0), (1, a1), (2, (.sc undef)), (3, (.sc undef)), (4, (.sc (.bool false))), (5, (.sc (.int .i64 0))), (6, a1), (7, t7), (8, a0), (9, t9), (10, t10), (11, (.sc undef)), (12, (.sc undef)), (13, (.sc undef)), (14, (.sc undef)), (15, (.sc undef)), (16, (.sc undef)), (17, (.sc undef)), (18, (.sc undef)), (19, (.sc undef)), (20, (.sc undef)), (21, (.sc undef)), (22, (.sc undef)), (23, (.sc undef)), (24, (.sc undef)), (25, (.sc undef)), (26, (.sc undef)), (27, (.sc undef)), (28, (.sc undef)), (29, (.sc undef)), (30, (.sc undef)), (31, (.sc undef)), (32, (.sc undef))] H) := by kernel_rfl
theorem f31_body (p : Pr β) (n : Nat) (a0 a1 : AV) (H : Heap) (k : AV → Heap → Option β) : evalBody ti0 p n ⟨c31, 33, Go.Proofs.Try.f31.results.toList, o31⟩ [a0, a1] H k = f31 p n a0 a1 H k := by
  rw [f31_raw]
  simp only [f31_l0_eq]
  rfl

/-! 70 slices.EqualFunc[[]loop.example/g00480/impl.Msg,[]loop.example/g00480/impl.Msg,loop.example/g00480/impl.Msg,loop.example/g00480/impl.Msg] -/
noncomputable def f70_l0 (p : Pr β) (n : Nat)  (k : AV → Heap → Option β) : Nat → AV → AV → AV → AV → AV → Heap → Option β
  | 0, _, _, _, _, _, _ => none
  | m + 1, t1, t2, t15, t16, t17, H => p.bin .lss t17 t16 fun t18 =>
      p.cond t18
      (p.iadr 4 t15 t17 fun t20 =>
      p.load true 4 t20 H fun t21 =>
      p.new [(.sc (.string ⟨#[]⟩)), .nl, (.sc (.int .i64 0)), (.sc (.bool false))] H fun t8 H =>
      p.store 4 t8 t21 H fun H =>
      p.iadr 4 t1 t17 fun t24 =>
      p.load true 4 t24 H fun t25 =>
      p.new [(.sc (.string ⟨#[]⟩)), .nl, (.sc (.int .i64 0)), (.sc (.bool false))] H fun t9 H =>
      p.store 4 t9 t25 H fun H =>
      p.load true 4 t8 H fun t27 =>
      p.load true 4 t9 H fun t28 =>
      p.call 4 t2 [t27, t28] H fun t29 H =>
      p.un .not t29 fun t30 =>
      p.cond t30
      (k (.sc (.bool false)) H)
      (p.bin .add t17 (.sc (.int .i64 1)) fun t31 =>
      f70_l0 p n  k m t1 t2 t15 t16 t31 H))
      (k (.sc (.bool true)) H)
noncomputable def f70 (p : Pr β) (n : Nat) (a0 a1 a2 : AV) (H : Heap) (k : AV → Heap → Option β) : Option β :=
  p.len a0 fun t11 =>
  p.len a1 fun t13 =>
  p.bin .neq t11 t13 fun t14 =>
  p.cond t14
  (k (.sc (.bool false)) H)
  (p.len a0 fun t16 =>
  f70_l0 p n  k n a1 a2 a0 t16 (.sc (.int .i64 0)) H)
noncomputable def f70_L0 (p : Pr β) (n : Nat)  (k : AV → Heap → Option β) (m : Nat) (tm : Tm) (H : Heap) : Option β :=
  iterC 32 (fun tm H k => evalCode ti0 p o70 32 n (cd c70 [1, 1, 0, 1, 0, 0]) tm H k) (blkK 0 (seqK (fun tm H => evalCode ti0 p o70 32 n (cd c70 [1, 1, 1]) tm H (endK ti0 p Go.Proofs.Try.f70.results.toList k)) (endK ti0 p Go.Proofs.Try.f70.results.toList k))) m tm H
theorem f70_L0_step (p : Pr β) (n : Nat)  (k : AV → Heap → Option β) (m0 : Nat) (t0 t1 t2 t3 t4 t5 t6 t7 t8 t9 t10 t11 t12 t13 t14 t15 t16 t17 t18 t19 t20 t21 t22 t23 t24 t25 t26 t27 t28 t29 t30 t31 : AV) (H : Heap) : f70_L0 p n  k (m0 + 1) [(0, t0), (1, t1), (2, t2), (3, t3), (4, t4), (5, t5), (6, t6), (7, t7), (8, t8), (9, t9), (10, t10), (11, t11), (12, t12), (13, t13), (14, t14), (15, t15), (16, t16), (17, t17), (18, t18), (19, t19), (20, t20), (21, t21), (22, t22), (23, t23), (24, t24), (25, t25), (26, t26), (27, t27), (28, t28), (29, t29), (30, t30), (31, t31)] H =
  p.bin .lss t17 t16 fun t18 =>
  p.cond t18
  (p.iadr 4 t15 t17 fun t20 =>
  p.load true 4 t20 H fun t21 =>
  p.new [(.sc (.string ⟨#[]⟩)), .nl, (.sc (.int .i64 0)), (.sc (.bool false))] H fun t8 H =>
  p.store 4 t8 t21 H fun H =>
  p.iadr 4 t1 t17 fun t24 =>
  p.load true 4 t24 H fun t25 =>
  p.new [(.sc (.string ⟨#[]⟩)), .nl, (.sc (.int .i64 0)), (.sc (.bool false))] H fun t9 H =>
  p.store 4 t9 t25 H fun H =>
  p.load true 4 t8 H fun t27 =>
  p.load true 4 t9 H fun t28 =>
  p.call 4 t2 [t27, t28] H fun t29 H =>
  p.un .not t29 fun t30 =>
  p.cond t30
  (k (.sc (.bool false)) H)
  (p.bin .add t17 (.sc (.int .i64 1)) fun t31 =>
  f70_L0 p n  k m0 [(0, t0), (1, t1), (2, t2), (3, t3), (4, t4), (5, t5), (6, t6), (7, t17), (8, t8), (9, t9), (10, t10), (11, t11), (12, t12), (13, t13), (14, t14), (15, t15), (16, t16), (17, t31), (18, t18), (19, t17), (20, t20), (21, t21), (22, t1), (23, t17), (24, t24), (25, t25), (26, t2), (27, t27), (28, t28), (29, t29), (30, t30), (31, t31)] H))
  (k (.sc (.bool true)) H) := by kernel_rfl
theorem f70_l0_eq (p : Pr β) (n : Nat)  (k : AV → Heap → Option β)   (m0 : Nat) : ∀ (t0 t1 t2 t3 t4 t5 t6 t7 t8 t9 t10 t11 t12 t13 t14 t15 t16 t17 t18 t19 t20 t21 t22 t23 t24 t25 t26 t27 t28 t29 t30 t31 : AV) (H : Heap), f70_L0 p n  k m0 [(0, t0), (1, t1), (2, t2), (3, t3), (4, t4), (5, t5), (6, t6), (7, t7), (8, t8), (9, t9), (10, t10), (11, t11), (12, t12), (13, t13), (14, t14), (15, t15), (16, t16), (17, t17), (18, t18), (19, t19), (20, t20), (21, t21), (22, t22), (23, t23), (24, t24), (25, t25), (26, t26), (27, t27), (28, t28), (29, t29), (30, t30), (31, t31)] H = f70_l0 p n  k m0 t1 t2 t15 t16 t17 H := by
  induction m0 with
  | zero => intros; rfl
  | succ m0 ih =>
    intro t0 t1 t2 t3 t4 t5 t6 t7 t8 t9 t10 t11 t12 t13 t14 t15 t16 t17 t18 t19 t20 t21 t22 t23 t24 t25 t26 t27 t28 t29 t30 t31 H
    rw [f70_L0_step]
    simp only [ih]
    rfl
theorem f70_raw (p : Pr β) (n : Nat) (a0 a1 a2 : AV) (H : Heap) (k : AV → Heap → Option β) : evalBody ti0 p n ⟨c70, 32, Go.Proofs.Try.f70.results.toList, o70⟩ [a0, a1, a2] H k =
  p.len a0 fun t11 =>
  p.len a1 fun t13 =>
  p.bin .neq t11 t13 fun t14 =>
  p.cond t14
  (k (.sc (.bool false)) H)
  (p.len a0 fun t16 =>
  f70_L0 p n  k n [(0, a0), (1, a1), (2, a2), (3, (.sc undef)), (4, (.sc undef)), (5, (.sc undef)), (6, (.sc (.bool false))), (7, (.sc undef)), (8, (.sc undef)), (9, (.sc undef)), (10, a0), (11, t11), (12, a1), (13, t13), (14, t14), (15, a0), (16, t16), (17, (.sc (.int .i64 0))), (18, (.sc undef)), (19, (.sc undef)), (20, (.sc undef)), (21, (.sc undef)), (22, (.sc undef)), (23, (.sc undef)), (24, (.sc undef)), (25, (.sc undef)), (26, (.sc undef)), (27, (.sc undef)), (28, (.sc undef)), (29, (.sc undef)), (30, (.sc undef)), (31, (.sc undef))] H) := by kernel_rfl
theorem f70_body (p : Pr β) (n : Nat) (a0 a1 a2 : AV) (H : Heap) (k : AV → Heap → Option β) : evalBody ti0 p n ⟨c70, 32, Go.Proofs.Try.f70.results.toList, o70⟩ [a0, a1, a2] H k = f70 p n a0 a1 a2 H k := by
  rw [f70_raw]
  simp only [f70_l0_eq]
  rfl

/-! 58 loop.example/g00480/impl.sameMsgs -/
noncomputable def f58 (p : Pr β) (n : Nat) (a0 a1 : AV) (H : Heap) (k : AV → Heap → Option β) : Option β :=
  p.call 4 (.fn 70 [] []) [a0, a1, (.fn 22 [] [])] H fun t7 H =>
  k t7 H
theorem f58_body (p : Pr β) (n : Nat) (a0 a1 : AV) (H : Heap) (k : AV → Heap → Option β) : evalBody ti0 p n ⟨c58, 8, Go.Proofs.Try.f58.results.toList, o58⟩ [a0, a1] H k = f58 p n a0 a1 H k := by kernel_rfl

/-! 33 loop.example/g00480/impl.Ends -/
noncomputable def f33 (p : Pr β) (n : Nat) (a0 a1 : AV) (H : Heap) (k : AV → Heap → Option β) : Option β :=
  p.len a1 fun t6 =>
  p.len a0 fun t8 =>
  p.bin .leq t6 t8 fun t9 =>
  p.guard t9 true H (fun k' => k' a0 H) fun t11 H =>
  p.guard t9 true H (fun k' => k' a0 H) fun t12 H =>
  p.guard t9 true H (fun k' => p.len t12 fun t' => k' t' H) fun t13 H =>
  p.guard t9 true H (fun k' => k' a1 H) fun t14 H =>
  p.guard t9 true H (fun k' => p.len t14 fun t' => k' t' H) fun t15 H =>
  p.guard t9 true H (fun k' => p.bin .sub t13 t15 fun t' => k' t' H) fun t16 H =>
  p.guard t9 true H (fun k' => p.slice 4 t11 (some t16) none fun t' => k' t' H) fun t17 H =>
  p.guard t9 true H (fun k' => k' a1 H) fun t18 H =>
  p.guard t9 true H (fun k' => p.call 4 (.fn 58 [] []) [t17, t18] H fun t' H => k' t' H) fun t19 H =>
  p.pick t9 t19 (.sc (.bool false)) fun t20 =>
  k t20 H
theorem f33_body (p : Pr β) (n : Nat) (a0 a1 : AV) (H : Heap) (k : AV → Heap → Option β) : evalBody ti0 p n ⟨c33, 21, Go.Proofs.Try.f33.results.toList, o33⟩ [a0, a1] H k = f33 p n a0 a1 H k := by kernel_rfl

/-! 34 loop.example/g00480/laws.eqMsgS -/
noncomputable def f34_l0 (p : Pr β) (n : Nat)  (k : AV → Heap → Option β) : Nat → AV → AV → AV → Heap → Option β
  | 0, _, _, _, _ => none
  | m + 1, t0, t1, t5, H => p.len t0 fun t13 =>
      p.bin .lss t5 t13 fun t14 =>
      p.cond t14
      (p.iadr 4 t0 t5 fun t19 =>
      p.load true 4 t19 H fun t20 =>
      p.iadr 4 t1 t5 fun t23 =>
      p.load true 4 t23 H fun t24 =>
      p.call 4 (.fn 23 [] []) [t20, t24] H fun t25 H =>
      p.un .not t25 fun t26 =>
      p.cond t26
      (k (.sc (.bool false)) H)
      (p.bin .add t5 (.sc (.int .i64 1)) fun t16 =>
      f34_l0 p n  k m t0 t1 t16 H))
      (k (.sc (.bool true)) H)
noncomputable def f34 (p : Pr β) (n : Nat) (a0 a1 : AV) (H : Heap) (k : AV → Heap → Option β) : Option β :=
  p.len a0 fun t7 =>
  p.len a1 fun t9 =>
  p.bin .neq t7 t9 fun t10 =>
  p.cond t10
  (k (.sc (.bool false)) H)
  (f34_l0 p n  k n a0 a1 (.sc (.int .i64 0)) H)
noncomputable def f34_L0 (p : Pr β) (n : Nat)  (k : AV → Heap → Option β) (m : Nat) (tm : Tm) (H : Heap) : Option β :=
  iterC 27 (fun tm H k => evalCode ti0 p o34 27 n (cd c34 [1, 1, 0, 1, 0, 0]) tm H k) (blkK 0 (seqK (fun tm H => evalCode ti0 p o34 27 n (cd c34 [1, 1, 1]) tm H (endK ti0 p Go.Proofs.Try.f34.results.toList k)) (endK ti0 p Go.Proofs.Try.f34.results.toList k))) m tm H
theorem f34_L0_step (p : Pr β) (n : Nat)  (k : AV → Heap → Option β) (m0 : Nat) (t0 t1 t2 t3 t4 t5 t6 t7 t8 t9 t10 t11 t12 t13 t14 t15 t16 t17 t18 t19 t20 t21 t22 t23 t24 t25 t26 : AV) (H : Heap) : f34_L0 p n  k (m0 + 1) [(0, t0), (1, t1), (2, t2), (3, t3), (4, t4), (5, t5), (6, t6), (7, t7), (8, t8), (9, t9), (10, t10), (11, t11), (12, t12), (13, t13), (14, t14), (15, t15), (16, t16), (17, t17), (18, t18), (19, t19), (20, t20), (21, t21), (22, t22), (23, t23), (24, t24), (25, t25), (26, t26)] H =
  p.len t0 fun t13 =>
  p.bin .lss t5 t13 fun t14 =>
  p.cond t14
  (p.iadr 4 t0 t5 fun t19 =>
  p.load true 4 t19 H fun t20 =>
  p.iadr 4 t1 t5 fun t23 =>
  p.load true 4 t23 H fun t24 =>
  p.call 4 (.fn 23 [] []) [t20, t24] H fun t25 H =>
  p.un .not t25 fun t26 =>
  p.cond t26
  (k (.sc (.bool false)) H)
  (p.bin .add t5 (.sc (.int .i64 1)) fun t16 =>
  f34_L0 p n  k m0 [(0, t0), (1, t1), (2, t2), (3, t3), (4, t4), (5, t16), (6, t6), (7, t7), (8, t8), (9, t9), (10, t10), (11, t5), (12, t0), (13, t13), (14, t14), (15, t5), (16, t16), (17, t0), (18, t5), (19, t19), (20, t20), (21, t1), (22, t5), (23, t23), (24, t24), (25, t25), (26, t26)] H))
  (k (.sc (.bool true)) H) := by kernel_rfl
theorem f34_l0_eq (p : Pr β) (n : Nat)  (k : AV → Heap → Option β)   (m0 : Nat) : ∀ (t0 t1 t2 t3 t4 t5 t6 t7 t8 t9 t10 t11 t12 t13 t14 t15 t16 t17 t18 t19 t20 t21 t22 t23 t24 t25 t26 : AV) (H : Heap), f34_L0 p n  k m0 [(0, t0), (1, t1), (2, t2), (3, t3), (4, t4), (5, t5), (6, t6), (7, t7), (8, t8), (9, t9), (10, t10), (11, t11), (12, t12), (13, t13), (14, t14), (15, t15), (16, t16), (17, t17), (18, t18), (19, t19), (20, t20), (21, t21), (22, t22), (23, t23), (24, t24), (25, t25), (26, t26)] H = f34_l0 p n  k m0 t0 t1 t5 H := by
  induction m0 with
  | zero => intros; rfl
  | succ m0 ih =>
    intro t0 t1 t2 t3 t4 t5 t6 t7 t8 t9 t10 t11 t12 t13 t14 t15 t16 t17 t18 t19 t20 t21 t22 t23 t24 t25 t26 H
    rw [f34_L0_step]
    simp only [ih]
    rfl
theorem f34_raw (p : Pr β) (n : Nat) (a0 a1 : AV) (H : Heap) (k : AV → Heap → Option β) : evalBody ti0 p n ⟨c34, 27, Go.Proofs.Try.f34.results.toList, o34⟩ [a0, a1] H k =
  p.len a0 fun t7 =>
  p.len a1 fun t9 =>
  p.bin .neq t7 t9 fun t10 =>
  p.cond t10
  (k (.sc (.bool false)) H)
  (f34_L0 p n  k n [(0, a0), (1, a1), (2, (.sc undef)), (3, (.sc undef)), (4, (.sc (.bool false))), (5, (.sc (.int .i64 0))), (6, a0), (7, t7), (8, a1), (9, t9), (10, t10), (11, (.sc undef)), (12, (.sc undef)), (13, (.sc undef)), (14, (.sc undef)), (15, (.sc undef)), (16, (.sc undef)), (17, (.sc undef)), (18, (.sc undef)), (19, (.sc undef)), (20, (.sc undef)), (21, (.sc undef)), (22, (.sc undef)), (23, (.sc undef)), (24, (.sc undef)), (25, (.sc undef)), (26, (.sc undef))] H) := by kernel_rfl
theorem f34_body (p : Pr β) (n : Nat) (a0 a1 : AV) (H : Heap) (k : AV → Heap → Option β) : evalBody ti0 p n ⟨c34, 27, Go.Proofs.Try.f34.results.toList, o34⟩ [a0, a1] H k = f34 p n a0 a1 H k := by
  rw [f34_raw]
  simp only [f34_l0_eq]
  rfl

/-! 8 loop.example/g00480/laws.FnExactEnds -/
noncomputable def f8 (p : Pr β) (n : Nat) (a0 a1 : AV) (H : Heap) (k : AV → Heap → Option β) : Option β :=
  p.call 3 (.fn 30 [] []) [a0, (.sc (.int .i64 1048576))] H fun t12 H =>
  p.bin .lss t12 (.sc (.int .i64 0)) fun t14 =>
  p.cond t14
  (k (.sc (.bool true)) H)
  (p.call 3 (.fn 30 [] []) [a1, t12] H fun t17 H =>
  p.bin .lss t17 (.sc (.int .i64 0)) fun t19 =>
  p.cond t19
  (k (.sc (.bool true)) H)
  (p.call 48 (.fn 32 [] []) [a0] H fun t21 H =>
  p.call 48 (.fn 32 [] []) [a1] H fun t23 H =>
  p.call 4 (.fn 31 [] []) [t21, t23] H fun t24 H =>
  p.call 48 (.fn 32 [] []) [a0] H fun t26 H =>
  p.call 48 (.fn 32 [] []) [a1] H fun t28 H =>
  p.call 4 (.fn 33 [] []) [t26, t28] H fun t31 H =>
  p.binB .neq t31 t24 fun t34 =>
  p.cond t34
  (k (.sc (.bool false)) H)
  (p.call 48 (.fn 32 [] []) [a0] H fun t37 H =>
  p.call 4 (.fn 34 [] []) [t26, t37] H fun t38 H =>
  p.un .not t38 fun t39 =>
  p.cond t39
  (k (.sc (.bool false)) H)
  (p.call 48 (.fn 32 [] []) [a1] H fun t42 H =>
  p.call 4 (.fn 34 [] []) [t28, t42] H fun t43 H =>
  p.un .not t43 fun t44 =>
  p.cond t44
  (k (.sc (.bool false)) H)
  (k (.sc (.bool true)) H)))))
theorem f8_body (p : Pr β) (n : Nat) (a0 a1 : AV) (H : Heap) (k : AV → Heap → Option β) : evalBody ti0 p n ⟨c8, 45, Go.Proofs.Try.f8.results.toList, o8⟩ [a0, a1] H k = f8 p n a0 a1 H k := by kernel_rfl

/-! 60 loop.example/g00480/spec.l12Msg -/
noncomputable def f60 (p : Pr β) (n : Nat) (a0 : AV) (H : Heap) (k : AV → Heap → Option β) : Option β :=
  p.box a0 H fun t1 H =>
  p.new [(.sc (.string ⟨#[]⟩)), .nl, (.sc (.int .i64 0)), (.sc (.bool false))] H fun t2 H =>
  p.fadr 0 t1 fun t3 =>
  p.load false 1 t3 H fun t4 =>
  p.fadr 1 t1 fun t6 =>
  p.load false 1 t6 H fun t7 =>
  p.fadr 2 t1 fun t9 =>
  p.load false 1 t9 H fun t10 =>
  p.fadr 3 t1 fun t11 =>
  p.load false 1 t11 H fun t12 =>
  p.app 1 1 .nl t7 H fun t8 H =>
  p.fill [(.sc (.string ⟨#[]⟩)), .nl, (.sc (.int .i64 0)), (.sc (.bool false))] [(0, 1, t4), (1, 1, t8), (2, 1, t10), (3, 1, t12)] fun ct13 =>
  p.store 4 t2 (.agg ct13) H fun H =>
  p.load true 4 t2 H fun r0 =>
  k r0 H
theorem f60_body (p : Pr β) (n : Nat) (a0 : AV) (H : Heap) (k : AV → Heap → Option β) : evalBody ti0 p n ⟨c60, 14, Go.Proofs.Try.f60.results.toList, o60⟩ [a0] H k = f60 p n a0 H k := by kernel_rfl

/-! 59 loop.example/g00480/spec.l12Copy -/
noncomputable def f59_l0 (p : Pr β) (n : Nat)  (k : AV → Heap → Option β) : Nat → AV → AV → AV → Heap → Option β
  | 0, _, _, _, _ => none
  | m + 1, t0, t3, t4, H => p.len t0 fun t8 =>
      p.bin .lss t4 t8 fun t9 =>
      p.cond t9
      (p.iadr 4 t0 t4 fun t15 =>
      p.load true 4 t15 H fun t16 =>
      p.call 34 (.fn 60 [] []) [t16] H fun t17 H =>
      p.fill [(.sc (.string ⟨#[]⟩)), .nl, (.sc (.int .i64 0)), (.sc (.bool false))] [(0, 4, t17)] fun ct18 => p.newSl 1 4 ct18 true H fun t18 H =>
      p.app 4 56 t3 t18 H fun t19 H =>
      p.bin .add t4 (.sc (.int .i64 1)) fun t11 =>
      f59_l0 p n  k m t0 t19 t11 H)
      (k t3 H)
noncomputable def f59 (p : Pr β) (n : Nat) (a0 : AV) (H : Heap) (k : AV → Heap → Option β) : Option β :=
  f59_l0 p n  k n a0 .nl (.sc (.int .i64 0)) H
noncomputable def f59_L0 (p : Pr β) (n : Nat)  (k : AV → Heap → Option β) (m : Nat) (tm : Tm) (H : Heap) : Option β :=
  iterC 21 (fun tm H k => evalCode ti0 p o59 21 n (cd c59 [1, 1, 0, 1, 0, 0]) tm H k) (blkK 0 (seqK (fun tm H => evalCode ti0 p o59 21 n (cd c59 [1, 1, 1]) tm H (endK ti0 p Go.Proofs.Try.f59.results.toList k)) (endK ti0 p Go.Proofs.Try.f59.results.toList k))) m tm H
theorem f59_L0_step (p : Pr β) (n : Nat)  (k : AV → Heap → Option β) (m0 : Nat) (t0 t1 t2 t3 t4 t5 t6 t7 t8 t9 t10 t11 t12 t13 t14 t15 t16 t17 t18 t19 t20 : AV) (H : Heap) : f59_L0 p n  k (m0 + 1) [(0, t0), (1, t1), (2, t2), (3, t3), (4, t4), (5, t5), (6, t6), (7, t7), (8, t8), (9, t9), (10, t10), (11, t11), (12, t12), (13, t13), (14, t14), (15, t15), (16, t16), (17, t17), (18, t18), (19, t19), (20, t20)] H =
  p.len t0 fun t8 =>
  p.bin .lss t4 t8 fun t9 =>
  p.cond t9
  (p.iadr 4 t0 t4 fun t15 =>
  p.load true 4 t15 H fun t16 =>
  p.call 34 (.fn 60 [] []) [t16] H fun t17 H =>
  p.fill [(.sc (.string ⟨#[]⟩)), .nl, (.sc (.int .i64 0)), (.sc (.bool false))] [(0, 4, t17)] fun ct18 => p.newSl 1 4 ct18 true H fun t18 H =>
  p.app 4 56 t3 t18 H fun t19 H =>
  p.bin .add t4 (.sc (.int .i64 1)) fun t11 =>
  f59_L0 p n  k m0 [(0, t0), (1, t1), (2, t2), (3, t19), (4, t11), (5, t5), (6, t4), (7, t0), (8, t8), (9, t9), (10, t4), (11, t11), (12, t3), (13, t0), (14, t4), (15, t15), (16, t16), (17, t17), (18, t18), (19, t19), (20, t20)] H)
  (k t3 H) := by kernel_rfl
theorem f59_l0_eq (p : Pr β) (n : Nat)  (k : AV → Heap → Option β)   (m0 : Nat) : ∀ (t0 t1 t2 t3 t4 t5 t6 t7 t8 t9 t10 t11 t12 t13 t14 t15 t16 t17 t18 t19 t20 : AV) (H : Heap), f59_L0 p n  k m0 [(0, t0), (1, t1), (2, t2), (3, t3), (4, t4), (5, t5), (6, t6), (7, t7), (8, t8), (9, t9), (10, t10), (11, t11), (12, t12), (13, t13), (14, t14), (15, t15), (16, t16), (17, t17), (18, t18), (19, t19), (20, t20)] H = f59_l0 p n  k m0 t0 t3 t4 H := by
  induction m0 with
  | zero => intros; rfl
  | succ m0 ih =>
    intro t0 t1 t2 t3 t4 t5 t6 t7 t8 t9 t10 t11 t12 t13 t14 t15 t16 t17 t18 t19 t20 H
    rw [f59_L0_step]
    simp only [ih]
    rfl
theorem f59_raw (p : Pr β) (n : Nat) (a0 : AV) (H : Heap) (k : AV → Heap → Option β) : evalBody ti0 p n ⟨c59, 21, Go.Proofs.Try.f59.results.toList, o59⟩ [a0] H k =
  f59_L0 p n  k n [(0, a0), (1, (.sc undef)), (2, .nl), (3, .nl), (4, (.sc (.int .i64 0))), (5, .nl), (6, (.sc undef)), (7, (.sc undef)), (8, (.sc undef)), (9, (.sc undef)), (10, (.sc undef)), (11, (.sc undef)), (12, (.sc undef)), (13, (.sc undef)), (14, (.sc undef)), (15, (.sc undef)), (16, (.sc undef)), (17, (.sc undef)), (18, (.sc undef)), (19, (.sc undef)), (20, (.sc undef))] H := by kernel_rfl
theorem f59_body (p : Pr β) (n : Nat) (a0 : AV) (H : Heap) (k : AV → Heap → Option β) : evalBody ti0 p n ⟨c59, 21, Go.Proofs.Try.f59.results.toList, o59⟩ [a0] H k = f59 p n a0 H k := by
  rw [f59_raw]
  simp only [f59_l0_eq]
  rfl

/-! 35 loop.example/g00480/spec.Pop -/
noncomputable def f35 (p : Pr β) (n : Nat) (a0 : AV) (H : Heap) (k : AV → Heap → Option β) : Option β :=
  p.new [(.sc (.string ⟨#[]⟩)), .nl, (.sc (.int .i64 0)), (.sc (.bool false))] H fun t3 H =>
  p.len a0 fun t6 =>
  p.bin .eql t6 (.sc (.int .i64 0)) fun t7 =>
  p.cond t7
  (p.fill [(.sc (.string ⟨#[]⟩)), .nl, (.sc (.int .i64 0)), (.sc (.bool false))] [] fun ct9 =>
  p.store 4 t3 (.agg ct9) H fun H =>
  p.load true 4 t3 H fun r1 =>
  k (packA [.nl, r1, (.sc (.bool false))]) H)
  (p.slice 4 a0 (some (.sc (.int .i64 1))) none fun t11 =>
  p.iadr 4 a0 (.sc (.int .i64 0)) fun t14 =>
  p.load true 4 t14 H fun t15 =>
  p.call 48 (.fn 59 [] []) [t11] H fun t12 H =>
  p.call 34 (.fn 60 [] []) [t15] H fun t16 H =>
  p.store 4 t3 t16 H fun H =>
  p.load true 4 t3 H fun r1 =>
  k (packA [t12, r1, (.sc (.bool true))]) H)
theorem f35_body (p : Pr β) (n : Nat) (a0 : AV) (H : Heap) (k : AV → Heap → Option β) : evalBody ti0 p n ⟨c35, 17, Go.Proofs.Try.f35.results.toList, o35⟩ [a0] H k = f35 p n a0 H k := by kernel_rfl

/-! 76 loop.example/g00480/impl.joined -/
noncomputable def f76_l0 (p : Pr β) (n : Nat)  (k : AV → Heap → Option β) : Nat → AV → AV → AV → AV → Heap → Option β
  | 0, _, _, _, _, _ => none
  | m + 1, t3, t7, t8, t9, H => p.bin .lss t9 t8 fun t10 =>
      p.cond t10
      (p.iadr 1 t7 t9 fun t11 =>
      p.load false 1 t11 H fun t12 =>
      p.app 1 1 t3 t12 H fun t15 H =>
      p.bin .add t9 (.sc (.int .i64 1)) fun t16 =>
      f76_l0 p n  k m t15 t7 t8 t16 H)
      (k t3 H)
noncomputable def f76 (p : Pr β) (n : Nat) (a0 : AV) (H : Heap) (k : AV → Heap → Option β) : Option β :=
  p.len a0 fun t8 =>
  f76_l0 p n  k n .nl a0 t8 (.sc (.int .i64 0)) H
noncomputable def f76_L0 (p : Pr β) (n : Nat)  (k : AV → Heap → Option β) (m : Nat) (tm : Tm) (H : Heap) : Option β :=
  iterC 18 (fun tm H k => evalCode ti0 p o76 18 n (cd c76 [1, 1, 0, 1, 0, 0]) tm H k) (blkK 0 (seqK (fun tm H => evalCode ti0 p o76 18 n (cd c76 [1, 1, 1]) tm H (endK ti0 p Go.Proofs.Try.f76.results.toList k)) (endK ti0 p Go.Proofs.Try.f76.results.toList k))) m tm H
theorem f76_L0_step (p : Pr β) (n : Nat)  (k : AV → Heap → Option β) (m0 : Nat) (t0 t1 t2 t3 t4 t5 t6 t7 t8 t9 t10 t11 t12 t13 t14 t15 t16 t17 : AV) (H : Heap) : f76_L0 p n  k (m0 + 1) [(0, t0), (1, t1), (2, t2), (3, t3), (4, t4), (5, t5), (6, t6), (7, t7), (8, t8), (9, t9), (10, t10), (11, t11), (12, t12), (13, t13), (14, t14), (15, t15), (16, t16), (17, t17)] H =
  p.bin .lss t9 t8 fun t10 =>
  p.cond t10
  (p.iadr 1 t7 t9 fun t11 =>
  p.load false 1 t11 H fun t12 =>
  p.app 1 1 t3 t12 H fun t15 H =>
  p.bin .add t9 (.sc (.int .i64 1)) fun t16 =>
  f76_L0 p n  k m0 [(0, t0), (1, t1), (2, t2), (3, t15), (4, t4), (5, t12), (6, t6), (7, t7), (8, t8), (9, t16), (10, t10), (11, t11), (12, t12), (13, t3), (14, t12), (15, t15), (16, t16), (17, t17)] H)
  (k t3 H) := by kernel_rfl
theorem f76_l0_eq (p : Pr β) (n : Nat)  (k : AV → Heap → Option β)   (m0 : Nat) : ∀ (t0 t1 t2 t3 t4 t5 t6 t7 t8 t9 t10 t11 t12 t13 t14 t15 t16 t17 : AV) (H : Heap), f76_L0 p n  k m0 [(0, t0), (1, t1), (2, t2), (3, t3), (4, t4), (5, t5), (6, t6), (7, t7), (8, t8), (9, t9), (10, t10), (11, t11), (12, t12), (13, t13), (14, t14), (15, t15), (16, t16), (17, t17)] H = f76_l0 p n  k m0 t3 t7 t8 t9 H := by
  induction m0 with
  | zero => intros; rfl
  | succ m0 ih =>
    intro t0 t1 t2 t3 t4 t5 t6 t7 t8 t9 t10 t11 t12 t13 t14 t15 t16 t17 H
    rw [f76_L0_step]
    simp only [ih]
    rfl
theorem f76_raw (p : Pr β) (n : Nat) (a0 : AV) (H : Heap) (k : AV → Heap → Option β) : evalBody ti0 p n ⟨c76, 18, Go.Proofs.Try.f76.results.toList, o76⟩ [a0] H k =
  p.len a0 fun t8 =>
  f76_L0 p n  k n [(0, a0), (1, (.sc undef)), (2, .nl), (3, .nl), (4, (.sc undef)), (5, (.sc undef)), (6, .nl), (7, a0), (8, t8), (9, (.sc (.int .i64 0))), (10, (.sc undef)), (11, (.sc undef)), (12, (.sc undef)), (13, (.sc undef)), (14, (.sc undef)), (15, (.sc undef)), (16, (.sc undef)), (17, (.sc undef))] H := by kernel_rfl
theorem f76_body (p : Pr β) (n : Nat) (a0 : AV) (H : Heap) (k : AV → Heap → Option β) : evalBody ti0 p n ⟨c76, 18, Go.Proofs.Try.f76.results.toList, o76⟩ [a0] H k = f76 p n a0 H k := by
  rw [f76_raw]
  simp only [f76_l0_eq]
  rfl

/-! 71 loop.example/g00480/impl.copyMsg -/
noncomputable def f71 (p : Pr β) (n : Nat) (a0 : AV) (H : Heap) (k : AV → Heap → Option β) : Option β :=
  p.box a0 H fun t1 H =>
  p.new [(.sc (.string ⟨#[]⟩)), .nl, (.sc (.int .i64 0)), (.sc (.bool false))] H fun t2 H =>
  p.fadr 1 t1 fun t3 =>
  p.load false 1 t3 H fun t4 =>
  p.fill [.nl] [(0, 1, t4)] fun ct5 => p.newSl 1 1 ct5 true H fun t5 H =>
  p.call 29 (.fn 76 [] []) [t5] H fun t6 H =>
  p.fadr 1 t1 fun t7 =>
  p.store 1 t7 t6 H fun H =>
  p.load true 4 t1 H fun t8 =>
  p.store 4 t2 t8 H fun H =>
  p.load true 4 t2 H fun r0 =>
  k r0 H
theorem f71_body (p : Pr β) (n : Nat) (a0 : AV) (H : Heap) (k : AV → Heap → Option β) : evalBody ti0 p n ⟨c71, 9, Go.Proofs.Try.f71.results.toList, o71⟩ [a0] H k = f71 p n a0 H k := by kernel_rfl

/-! 61 loop.example/g00480/impl.copyMsgs -/
noncomputable def f61_l0 (p : Pr β) (n : Nat)  (k : AV → Heap → Option β) : Nat → AV → AV → AV → AV → Heap → Option β
  | 0, _, _, _, _, _ => none
  | m + 1, t3, t7, t8, t9, H => p.bin .lss t9 t8 fun t10 =>
      p.cond t10
      (p.iadr 4 t7 t9 fun t11 =>
      p.load true 4 t11 H fun t12 =>
      p.new [(.sc (.string ⟨#[]⟩)), .nl, (.sc (.int .i64 0)), (.sc (.bool false))] H fun t5 H =>
      p.store 4 t5 t12 H fun H =>
      p.load true 4 t5 H fun t14 =>
      p.call 34 (.fn 71 [] []) [t14] H fun t15 H =>
      p.fill [(.sc (.string ⟨#[]⟩)), .nl, (.sc (.int .i64 0)), (.sc (.bool false))] [(0, 4, t15)] fun ct16 => p.newSl 1 4 ct16 true H fun t16 H =>
      p.app 4 56 t3 t16 H fun t17 H =>
      p.bin .add t9 (.sc (.int .i64 1)) fun t18 =>
      f61_l0 p n  k m t17 t7 t8 t18 H)
      (k t3 H)
noncomputable def f61 (p : Pr β) (n : Nat) (a0 : AV) (H : Heap) (k : AV → Heap → Option β) : Option β :=
  p.len a0 fun t8 =>
  f61_l0 p n  k n .nl a0 t8 (.sc (.int .i64 0)) H
noncomputable def f61_L0 (p : Pr β) (n : Nat)  (k : AV → Heap → Option β) (m : Nat) (tm : Tm) (H : Heap) : Option β :=
  iterC 20 (fun tm H k => evalCode ti0 p o61 20 n (cd c61 [1, 1, 0, 1, 0, 0]) tm H k) (blkK 0 (seqK (fun tm H => evalCode ti0 p o61 20 n (cd c61 [1, 1, 1]) tm H (endK ti0 p Go.Proofs.Try.f61.results.toList k)) (endK ti0 p Go.Proofs.Try.f61.results.toList k))) m tm H
theorem f61_L0_step (p : Pr β) (n : Nat)  (k : AV → Heap → Option β) (m0 : Nat) (t0 t1 t2 t3 t4 t5 t6 t7 t8 t9 t10 t11 t12 t13 t14 t15 t16 t17 t18 t19 : AV) (H : Heap) : f61_L0 p n  k (m0 + 1) [(0, t0), (1, t1), (2, t2), (3, t3), (4, t4), (5, t5), (6, t6), (7, t7), (8, t8), (9, t9), (10, t10), (11, t11), (12, t12), (13, t13), (14, t14), (15, t15), (16, t16), (17, t17), (18, t18), (19, t19)] H =
  p.bin .lss t9 t8 fun t10 =>
  p.cond t10
  (p.iadr 4 t7 t9 fun t11 =>
  p.load true 4 t11 H fun t12 =>
  p.new [(.sc (.string ⟨#[]⟩)), .nl, (.sc (.int .i64 0)), (.sc (.bool false))] H fun t5 H =>
  p.store 4 t5 t12 H fun H =>
  p.load true 4 t5 H fun t14 =>
  p.call 34 (.fn 71 [] []) [t14] H fun t15 H =>
  p.fill [(.sc (.string ⟨#[]⟩)), .nl, (.sc (.int .i64 0)), (.sc (.bool false))] [(0, 4, t15)] fun ct16 => p.newSl 1 4 ct16 true H fun t16 H =>
  p.app 4 56 t3 t16 H fun t17 H =>
  p.bin .add t9 (.sc (.int .i64 1)) fun t18 =>
  f61_L0 p n  k m0 [(0, t0), (1, t1), (2, t2), (3, t17), (4, t4), (5, t5), (6, t6), (7, t7), (8, t8), (9, t18), (10, t10), (11, t11), (12, t12), (13, t3), (14, t14), (15, t15), (16, t16), (17, t17), (18, t18), (19, t19)] H)
  (k t3 H) := by kernel_rfl
theorem f61_l0_eq (p : Pr β) (n : Nat)  (k : AV → Heap → Option β)   (m0 : Nat) : ∀ (t0 t1 t2 t3 t4 t5 t6 t7 t8 t9 t10 t11 t12 t13 t14 t15 t16 t17 t18 t19 : AV) (H : Heap), f61_L0 p n  k m0 [(0, t0), (1, t1), (2, t2), (3, t3), (4, t4), (5, t5), (6, t6), (7, t7), (8, t8), (9, t9), (10, t10), (11, t11), (12, t12), (13, t13), (14, t14), (15, t15), (16, t16), (17, t17), (18, t18), (19, t19)] H = f61_l0 p n  k m0 t3 t7 t8 t9 H := by
  induction m0 with
  | zero => intros; rfl
  | succ m0 ih =>
    intro t0 t1 t2 t3 t4 t5 t6 t7 t8 t9 t10 t11 t12 t13 t14 t15 t16 t17 t18 t19 H
    rw [f61_L0_step]
    simp only [ih]
    rfl
theorem f61_raw (p : Pr β) (n : Nat) (a0 : AV) (H : Heap) (k : AV → Heap → Option β) : evalBody ti0 p n ⟨c61, 20, Go.Proofs.Try.f61.results.toList, o61⟩ [a0] H k =
  p.len a0 fun t8 =>
  f61_L0 p n  k n [(0, a0), (1, (.sc undef)), (2, .nl), (3, .nl), (4, (.sc undef)), (5, (.sc undef)), (6, .nl), (7, a0), (8, t8), (9, (.sc (.int .i64 0))), (10, (.sc undef)), (11, (.sc undef)), (12, (.sc undef)), (13, (.sc undef)), (14, (.sc undef)), (15, (.sc undef)), (16, (.sc undef)), (17, (.sc undef)), (18, (.sc undef)), (19, (.sc undef))] H := by kernel_rfl
theorem f61_body (p : Pr β) (n : Nat) (a0 : AV) (H : Heap) (k : AV → Heap → Option β) : evalBody ti0 p n ⟨c61, 20, Go.Proofs.Try.f61.results.toList, o61⟩ [a0] H k = f61 p n a0 H k := by
  rw [f61_raw]
  simp only [f61_l0_eq]
  rfl

/-! 36 loop.example/g00480/impl.Pop -/
noncomputable def f36 (p : Pr β) (n : Nat) (a0 : AV) (H : Heap) (k : AV → Heap → Option β) : Option β :=
  p.new [(.sc (.string ⟨#[]⟩)), .nl, (.sc (.int .i64 0)), (.sc (.bool false))] H fun t3 H =>
  p.call 48 (.fn 61 [] []) [a0] H fun t7 H =>
  p.len a0 fun t9 =>
  p.bin .eql t9 (.sc (.int .i64 0)) fun t10 =>
  p.cond t10
  (p.fill [(.sc (.string ⟨#[]⟩)), .nl, (.sc (.int .i64 0)), (.sc (.bool false))] [] fun ct12 =>
  p.store 4 t3 (.agg ct12) H fun H =>
  p.load true 4 t3 H fun r1 =>
  k (packA [t7, r1, (.sc (.bool false))]) H)
  (p.slice 4 t7 (some (.sc (.int .i64 1))) none fun t14 =>
  p.iadr 4 t7 (.sc (.int .i64 0)) fun t16 =>
  p.load true 4 t16 H fun t17 =>
  p.store 4 t3 t17 H fun H =>
  p.load true 4 t3 H fun r1 =>
  k (packA [t14, r1, (.sc (.bool true))]) H)
theorem f36_body (p : Pr β) (n : Nat) (a0 : AV) (H : Heap) (k : AV → Heap → Option β) : evalBody ti0 p n ⟨c36, 18, Go.Proofs.Try.f36.results.toList, o36⟩ [a0] H k = f36 p n a0 H k := by kernel_rfl

/-! 62 loop.example/g00480/laws.markText -/
noncomputable def f62_l0 (p : Pr β) (n : Nat)  (k : AV → Heap → Option β) : Nat → AV → AV → Heap → Option β
  | 0, _, _, _ => none
  | m + 1, t0, t3, H => p.bin .gtr t0 (.sc (.int .i64 0)) fun t7 =>
      p.cond t7
      (p.bin .rem t0 (.sc (.int .i64 10)) fun t9 =>
      p.bin .add (.sc (.int .i64 48)) t9 fun t10 =>
      p.cvI .u8 t10 fun t11 =>
      p.fill [(.sc (.int .u8 0))] [(0, 1, t11)] fun ct12 => p.newSl 1 1 ct12 true H fun t12 H =>
      p.cvBS t12 H fun t13 =>
      p.bin .add t13 t3 fun t15 =>
      p.bin .quo t0 (.sc (.int .i64 10)) fun t17 =>
      f62_l0 p n  k m t17 t15 H)
      (p.bin .add (.sc (.string ⟨#[109]⟩)) t3 fun t19 =>
      k t19 H)
noncomputable def f62 (p : Pr β) (n : Nat) (a0 : AV) (H : Heap) (k : AV → Heap → Option β) : Option β :=
  p.bin .leq a0 (.sc (.int .i64 0)) fun t5 =>
  p.cond t5
  (k (.sc (.string ⟨#[109, 48]⟩)) H)
  (f62_l0 p n  k n a0 (.sc (.string ⟨#[]⟩)) H)
noncomputable def f62_L0 (p : Pr β) (n : Nat)  (k : AV → Heap → Option β) (m : Nat) (tm : Tm) (H : Heap) : Option β :=
  iterC 20 (fun tm H k => evalCode ti0 p o62 20 n (cd c62 [1, 1, 1, 0, 0, 0]) tm H k) (blkK 0 (seqK (fun tm H => evalCode ti0 p o62 20 n (cd c62 [1, 1, 1, 1]) tm H (endK ti0 p Go.Proofs.Try.f62.results.toList k)) (endK ti0 p Go.Proofs.Try.f62.results.toList k))) m tm H
theorem f62_L0_step (p : Pr β) (n : Nat)  (k : AV → Heap → Option β) (m0 : Nat) (t0 t1 t2 t3 t4 t5 t6 t7 t8 t9 t10 t11 t12 t13 t14 t15 t16 t17 t18 t19 : AV) (H : Heap) : f62_L0 p n  k (m0 + 1) [(0, t0), (1, t1), (2, t2), (3, t3), (4, t4), (5, t5), (6, t6), (7, t7), (8, t8), (9, t9), (10, t10), (11, t11), (12, t12), (13, t13), (14, t14), (15, t15), (16, t16), (17, t17), (18, t18), (19, t19)] H =
  p.bin .gtr t0 (.sc (.int .i64 0)) fun t7 =>
  p.cond t7
  (p.bin .rem t0 (.sc (.int .i64 10)) fun t9 =>
  p.bin .add (.sc (.int .i64 48)) t9 fun t10 =>
  p.cvI .u8 t10 fun t11 =>
  p.fill [(.sc (.int .u8 0))] [(0, 1, t11)] fun ct12 => p.newSl 1 1 ct12 true H fun t12 H =>
  p.cvBS t12 H fun t13 =>
  p.bin .add t13 t3 fun t15 =>
  p.bin .quo t0 (.sc (.int .i64 10)) fun t17 =>
  f62_L0 p n  k m0 [(0, t17), (1, t1), (2, t2), (3, t15), (4, t4), (5, t5), (6, t0), (7, t7), (8, t0), (9, t9), (10, t10), (11, t11), (12, t12), (13, t13), (14, t3), (15, t15), (16, t0), (17, t17), (18, t18), (19, t19)] H)
  (p.bin .add (.sc (.string ⟨#[109]⟩)) t3 fun t19 =>
  k t19 H) := by kernel_rfl
theorem f62_l0_eq (p : Pr β) (n : Nat)  (k : AV → Heap → Option β)   (m0 : Nat) : ∀ (t0 t1 t2 t3 t4 t5 t6 t7 t8 t9 t10 t11 t12 t13 t14 t15 t16 t17 t18 t19 : AV) (H : Heap), f62_L0 p n  k m0 [(0, t0), (1, t1), (2, t2), (3, t3), (4, t4), (5, t5), (6, t6), (7, t7), (8, t8), (9, t9), (10, t10), (11, t11), (12, t12), (13, t13), (14, t14), (15, t15), (16, t16), (17, t17), (18, t18), (19, t19)] H = f62_l0 p n  k m0 t0 t3 H := by
  induction m0 with
  | zero => intros; rfl
  | succ m0 ih =>
    intro t0 t1 t2 t3 t4 t5 t6 t7 t8 t9 t10 t11 t12 t13 t14 t15 t16 t17 t18 t19 H
    rw [f62_L0_step]
    simp only [ih]
    rfl
theorem f62_raw (p : Pr β) (n : Nat) (a0 : AV) (H : Heap) (k : AV → Heap → Option β) : evalBody ti0 p n ⟨c62, 20, Go.Proofs.Try.f62.results.toList, o62⟩ [a0] H k =
  p.bin .leq a0 (.sc (.int .i64 0)) fun t5 =>
  p.cond t5
  (k (.sc (.string ⟨#[109, 48]⟩)) H)
  (f62_L0 p n  k n [(0, a0), (1, (.sc undef)), (2, (.sc (.string ⟨#[]⟩))), (3, (.sc (.string ⟨#[]⟩))), (4, a0), (5, t5), (6, (.sc undef)), (7, (.sc undef)), (8, (.sc undef)), (9, (.sc undef)), (10, (.sc undef)), (11, (.sc undef)), (12, (.sc undef)), (13, (.sc undef)), (14, (.sc undef)), (15, (.sc undef)), (16, (.sc undef)), (17, (.sc undef)), (18, (.sc undef)), (19, (.sc undef))] H) := by kernel_rfl
theorem f62_body (p : Pr β) (n : Nat) (a0 : AV) (H : Heap) (k : AV → Heap → Option β) : evalBody ti0 p n ⟨c62, 20, Go.Proofs.Try.f62.results.toList, o62⟩ [a0] H k = f62 p n a0 H k := by
  rw [f62_raw]
  simp only [f62_l0_eq]
  rfl

/-! 63 loop.example/g00480/laws.markByteS -/
noncomputable def f63_l0 (p : Pr β) (n : Nat)  (k : AV → Heap → Option β) : Nat → AV → AV → AV → Heap → Option β
  | 0, _, _, _, _ => none
  | m + 1, t0, t1, t5, H => p.len t0 fun t8 =>
      p.bin .lss t5 t8 fun t9 =>
      p.cond t9
      (p.cvI .u8 t1 fun t15 =>
      p.iadr 1 t0 t5 fun t16 =>
      p.store 1 t16 t15 H fun H =>
      p.bin .add t1 (.sc (.int .i64 1)) fun t18 =>
      p.bin .add t5 (.sc (.int .i64 1)) fun t11 =>
      f63_l0 p n  k m t0 t18 t11 H)
      (k t1 H)
noncomputable def f63 (p : Pr β) (n : Nat) (a0 a1 : AV) (H : Heap) (k : AV → Heap → Option β) : Option β :=
  f63_l0 p n  k n a0 a1 (.sc (.int .i64 0)) H
noncomputable def f63_L0 (p : Pr β) (n : Nat)  (k : AV → Heap → Option β) (m : Nat) (tm : Tm) (H : Heap) : Option β :=
  iterC 20 (fun tm H k => evalCode ti0 p o63 20 n (cd c63 [1, 0, 1, 0, 0]) tm H k) (blkK 0 (seqK (fun tm H => evalCode ti0 p o63 20 n (cd c63 [1, 1]) tm H (endK ti0 p Go.Proofs.Try.f63.results.toList k)) (endK ti0 p Go.Proofs.Try.f63.results.toList k))) m tm H
theorem f63_L0_step (p : Pr β) (n : Nat)  (k : AV → Heap → Option β) (m0 : Nat) (t0 t1 t2 t3 t4 t5 t6 t7 t8 t9 t10 t11 t12 t13 t14 t15 t16 t17 t18 t19 : AV) (H : Heap) : f63_L0 p n  k (m0 + 1) [(0, t0), (1, t1), (2, t2), (3, t3), (4, t4), (5, t5), (6, t6), (7, t7), (8, t8), (9, t9), (10, t10), (11, t11), (12, t12), (13, t13), (14, t14), (15, t15), (16, t16), (17, t17), (18, t18), (19, t19)] H =
  p.len t0 fun t8 =>
  p.bin .lss t5 t8 fun t9 =>
  p.cond t9
  (p.cvI .u8 t1 fun t15 =>
  p.iadr 1 t0 t5 fun t16 =>
  p.store 1 t16 t15 H fun H =>
  p.bin .add t1 (.sc (.int .i64 1)) fun t18 =>
  p.bin .add t5 (.sc (.int .i64 1)) fun t11 =>
  f63_L0 p n  k m0 [(0, t0), (1, t18), (2, t2), (3, t3), (4, t4), (5, t11), (6, t5), (7, t0), (8, t8), (9, t9), (10, t5), (11, t11), (12, t0), (13, t5), (14, t1), (15, t15), (16, t16), (17, t1), (18, t18), (19, t19)] H)
  (k t1 H) := by kernel_rfl
theorem f63_l0_eq (p : Pr β) (n : Nat)  (k : AV → Heap → Option β)   (m0 : Nat) : ∀ (t0 t1 t2 t3 t4 t5 t6 t7 t8 t9 t10 t11 t12 t13 t14 t15 t16 t17 t18 t19 : AV) (H : Heap), f63_L0 p n  k m0 [(0, t0), (1, t1), (2, t2), (3, t3), (4, t4), (5, t5), (6, t6), (7, t7), (8, t8), (9, t9), (10, t10), (11, t11), (12, t12), (13, t13), (14, t14), (15, t15), (16, t16), (17, t17), (18, t18), (19, t19)] H = f63_l0 p n  k m0 t0 t1 t5 H := by
  induction m0 with
  | zero => intros; rfl
  | succ m0 ih =>
    intro t0 t1 t2 t3 t4 t5 t6 t7 t8 t9 t10 t11 t12 t13 t14 t15 t16 t17 t18 t19 H
    rw [f63_L0_step]
    simp only [ih]
    rfl
theorem f63_raw (p : Pr β) (n : Nat) (a0 a1 : AV) (H : Heap) (k : AV → Heap → Option β) : evalBody ti0 p n ⟨c63, 20, Go.Proofs.Try.f63.results.toList, o63⟩ [a0, a1] H k =
  f63_L0 p n  k n [(0, a0), (1, a1), (2, (.sc undef)), (3, (.sc undef)), (4, (.sc (.int .i64 0))), (5, (.sc (.int .i64 0))), (6, (.sc undef)), (7, (.sc undef)), (8, (.sc undef)), (9, (.sc undef)), (10, (.sc undef)), (11, (.sc undef)), (12, (.sc undef)), (13, (.sc undef)), (14, (.sc undef)), (15, (.sc undef)), (16, (.sc undef)), (17, (.sc undef)), (18, (.sc undef)), (19, (.sc undef))] H := by kernel_rfl
theorem f63_body (p : Pr β) (n : Nat) (a0 a1 : AV) (H : Heap) (k : AV → Heap → Option β) : evalBody ti0 p n ⟨c63, 20, Go.Proofs.Try.f63.results.toList, o63⟩ [a0, a1] H k = f63 p n a0 a1 H k := by
  rw [f63_raw]
  simp only [f63_l0_eq]
  rfl

/-! 37 loop.example/g00480/laws.markMsgS -/
noncomputable def f37_l0 (p : Pr β) (n : Nat)  (k : AV → Heap → Option β) : Nat → AV → AV → AV → Heap → Option β
  | 0, _, _, _, _ => none
  | m + 1, t0, t1, t5, H => p.len t0 fun t8 =>
      p.bin .lss t5 t8 fun t9 =>
      p.cond t9
      (p.call 9 (.fn 62 [] []) [t1] H fun t15 H =>
      p.iadr 4 t0 t5 fun t16 =>
      p.fadr 0 t16 fun t17 =>
      p.store 1 t17 t15 H fun H =>
      p.bin .add t1 (.sc (.int .i64 1)) fun t19 =>
      p.iadr 4 t0 t5 fun t22 =>
      p.fadr 1 t22 fun t23 =>
      p.load false 1 t23 H fun t24 =>
      p.call 3 (.fn 63 [] []) [t24, t19] H fun t26 H =>
      p.iadr 4 t0 t5 fun t30 =>
      p.fadr 2 t30 fun t31 =>
      p.store 1 t31 t26 H fun H =>
      p.bin .add t26 (.sc (.int .i64 1)) fun t33 =>
      p.bin .rem t33 (.sc (.int .i64 3)) fun t37 =>
      p.bin .eql t37 (.sc (.int .i64 0)) fun t38 =>
      p.iadr 4 t0 t5 fun t39 =>
      p.fadr 3 t39 fun t40 =>
      p.store 1 t40 t38 H fun H =>
      p.bin .add t33 (.sc (.int .i64 1)) fun t42 =>
      p.bin .add t5 (.sc (.int .i64 1)) fun t11 =>
      f37_l0 p n  k m t0 t42 t11 H)
      (k t1 H)
noncomputable def f37 (p : Pr β) (n : Nat) (a0 a1 : AV) (H : Heap) (k : AV → Heap → Option β) : Option β :=
  f37_l0 p n  k n a0 a1 (.sc (.int .i64 0)) H
noncomputable def f37_L0 (p : Pr β) (n : Nat)  (k : AV → Heap → Option β) (m : Nat) (tm : Tm) (H : Heap) : Option β :=
  iterC 44 (fun tm H k => evalCode ti0 p o37 44 n (cd c37 [1, 0, 1, 0, 0]) tm H k) (blkK 0 (seqK (fun tm H => evalCode ti0 p o37 44 n (cd c37 [1, 1]) tm H (endK ti0 p Go.Proofs.Try.f37.results.toList k)) (endK ti0 p Go.Proofs.Try.f37.results.toList k))) m tm H
theorem f37_L0_step (p : Pr β) (n : Nat)  (k : AV → Heap → Option β) (m0 : Nat) (t0 t1 t2 t3 t4 t5 t6 t7 t8 t9 t10 t11 t12 t13 t14 t15 t16 t17 t18 t19 t20 t21 t22 t23 t24 t25 t26 t27 t28 t29 t30 t31 t32 t33 t34 t35 t36 t37 t38 t39 t40 t41 t42 t43 : AV) (H : Heap) : f37_L0 p n  k (m0 + 1) [(0, t0), (1, t1), (2, t2), (3, t3), (4, t4), (5, t5), (6, t6), (7, t7), (8, t8), (9, t9), (10, t10), (11, t11), (12, t12), (13, t13), (14, t14), (15, t15), (16, t16), (17, t17), (18, t18), (19, t19), (20, t20), (21, t21), (22, t22), (23, t23), (24, t24), (25, t25), (26, t26), (27, t27), (28, t28), (29, t29), (30, t30), (31, t31), (32, t32), (33, t33), (34, t34), (35, t35), (36, t36), (37, t37), (38, t38), (39, t39), (40, t40), (41, t41), (42, t42), (43, t43)] H =
  p.len t0 fun t8 =>
  p.bin .lss t5 t8 fun t9 =>
  p.cond t9
  (p.call 9 (.fn 62 [] []) [t1] H fun t15 H =>
  p.iadr 4 t0 t5 fun t16 =>
  p.fadr 0 t16 fun t17 =>
  p.store 1 t17 t15 H fun H =>
  p.bin .add t1 (.sc (.int .i64 1)) fun t19 =>
  p.iadr 4 t0 t5 fun t22 =>
  p.fadr 1 t22 fun t23 =>
  p.load false 1 t23 H fun t24 =>
  p.call 3 (.fn 63 [] []) [t24, t19] H fun t26 H =>
  p.iadr 4 t0 t5 fun t30 =>
  p.fadr 2 t30 fun t31 =>
  p.store 1 t31 t26 H fun H =>
  p.bin .add t26 (.sc (.int .i64 1)) fun t33 =>
  p.bin .rem t33 (.sc (.int .i64 3)) fun t37 =>
  p.bin .eql t37 (.sc (.int .i64 0)) fun t38 =>
  p.iadr 4 t0 t5 fun t39 =>
  p.fadr 3 t39 fun t40 =>
  p.store 1 t40 t38 H fun H =>
  p.bin .add t33 (.sc (.int .i64 1)) fun t42 =>
  p.bin .add t5 (.sc (.int .i64 1)) fun t11 =>
  f37_L0 p n  k m0 [(0, t0), (1, t42), (2, t2), (3, t3), (4, t4), (5, t11), (6, t5), (7, t0), (8, t8), (9, t9), (10, t5), (11, t11), (12, t0), (13, t5), (14, t1), (15, t15), (16, t16), (17, t17), (18, t1), (19, t19), (20, t0), (21, t5), (22, t22), (23, t23), (24, t24), (25, t19), (26, t26), (27, t0), (28, t5), (29, t26), (30, t30), (31, t31), (32, t26), (33, t33), (34, t0), (35, t5), (36, t33), (37, t37), (38, t38), (39, t39), (40, t40), (41, t33), (42, t42), (43, t43)] H)
  (k t1 H) := by kernel_rfl
theorem f37_l0_eq (p : Pr β) (n : Nat)  (k : AV → Heap → Option β)   (m0 : Nat) : ∀ (t0 t1 t2 t3 t4 t5 t6 t7 t8 t9 t10 t11 t12 t13 t14 t15 t16 t17 t18 t19 t20 t21 t22 t23 t24 t25 t26 t27 t28 t29 t30 t31 t32 t33 t34 t35 t36 t37 t38 t39 t40 t41 t42 t43 : AV) (H : Heap), f37_L0 p n  k m0 [(0, t0), (1, t1), (2, t2), (3, t3), (4, t4), (5, t5), (6, t6), (7, t7), (8, t8), (9, t9), (10, t10), (11, t11), (12, t12), (13, t13), (14, t14), (15, t15), (16, t16), (17, t17), (18, t18), (19, t19), (20, t20), (21, t21), (22, t22), (23, t23), (24, t24), (25, t25), (26, t26), (27, t27), (28, t28), (29, t29), (30, t30), (31, t31), (32, t32), (33, t33), (34, t34), (35, t35), (36, t36), (37, t37), (38, t38), (39, t39), (40, t40), (41, t41), (42, t42), (43, t43)] H = f37_l0 p n  k m0 t0 t1 t5 H := by
  induction m0 with
  | zero => intros; rfl
  | succ m0 ih =>
    intro t0 t1 t2 t3 t4 t5 t6 t7 t8 t9 t10 t11 t12 t13 t14 t15 t16 t17 t18 t19 t20 t21 t22 t23 t24 t25 t26 t27 t28 t29 t30 t31 t32 t33 t34 t35 t36 t37 t38 t39 t40 t41 t42 t43 H
    rw [f37_L0_step]
    simp only [ih]
    rfl
theorem f37_raw (p : Pr β) (n : Nat) (a0 a1 : AV) (H : Heap) (k : AV → Heap → Option β) : evalBody ti0 p n ⟨c37, 44, Go.Proofs.Try.f37.results.toList, o37⟩ [a0, a1] H k =
  f37_L0 p n  k n [(0, a0), (1, a1), (2, (.sc undef)), (3, (.sc undef)), (4, (.sc (.int .i64 0))), (5, (.sc (.int .i64 0))), (6, (.sc undef)), (7, (.sc undef)), (8, (.sc undef)), (9, (.sc undef)), (10, (.sc undef)), (11, (.sc undef)), (12, (.sc undef)), (13, (.sc undef)), (14, (.sc undef)), (15, (.sc undef)), (16, (.sc undef)), (17, (.sc undef)), (18, (.sc undef)), (19, (.sc undef)), (20, (.sc undef)), (21, (.sc undef)), (22, (.sc undef)), (23, (.sc undef)), (24, (.sc undef)), (25, (.sc undef)), (26, (.sc undef)), (27, (.sc undef)), (28, (.sc undef)), (29, (.sc undef)), (30, (.sc undef)), (31, (.sc undef)), (32, (.sc undef)), (33, (.sc undef)), (34, (.sc undef)), (35, (.sc undef)), (36, (.sc undef)), (37, (.sc undef)), (38, (.sc undef)), (39, (.sc undef)), (40, (.sc undef)), (41, (.sc undef)), (42, (.sc undef)), (43, (.sc undef))] H := by kernel_rfl
theorem f37_body (p : Pr β) (n : Nat) (a0 a1 : AV) (H : Heap) (k : AV → Heap → Option β) : evalBody ti0 p n ⟨c37, 44, Go.Proofs.Try.f37.results.toList, o37⟩ [a0, a1] H k = f37 p n a0 a1 H k := by
  rw [f37_raw]
  simp only [f37_l0_eq]
  rfl

/-! 38 loop.example/g00480/laws.markMsg -/
noncomputable def f38 (p : Pr β) (n : Nat) (a0 a1 : AV) (H : Heap) (k : AV → Heap → Option β) : Option β :=
  p.box a0 H fun t2 H =>
  p.fadr 1 t2 fun t5 =>
  p.load false 1 t5 H fun t6 =>
  p.call 3 (.fn 63 [] []) [t6, a1] H fun t8 H =>
  k t8 H
theorem f38_body (p : Pr β) (n : Nat) (a0 a1 : AV) (H : Heap) (k : AV → Heap → Option β) : evalBody ti0 p n ⟨c38, 10, Go.Proofs.Try.f38.results.toList, o38⟩ [a0, a1] H k = f38 p n a0 a1 H k := by kernel_rfl

/-! 64 loop.example/g00480/laws.heldByteS -/
noncomputable def f64_l0 (p : Pr β) (n : Nat)  (k : AV → Heap → Option β) : Nat → AV → AV → AV → Heap → Option β
  | 0, _, _, _, _ => none
  | m + 1, t0, t1, t5, H => p.len t0 fun t8 =>
      p.bin .lss t5 t8 fun t9 =>
      p.cond t9
      (p.iadr 1 t0 t5 fun t14 =>
      p.load false 1 t14 H fun t15 =>
      p.cvI .u8 t1 fun t17 =>
      p.bin .neq t15 t17 fun t18 =>
      p.cond t18
      (k (.sc (.int .i64 (-1))) H)
      (p.bin .add t1 (.sc (.int .i64 1)) fun t20 =>
      p.bin .add t5 (.sc (.int .i64 1)) fun t11 =>
      f64_l0 p n  k m t0 t20 t11 H))
      (k t1 H)
noncomputable def f64 (p : Pr β) (n : Nat) (a0 a1 : AV) (H : Heap) (k : AV → Heap → Option β) : Option β :=
  f64_l0 p n  k n a0 a1 (.sc (.int .i64 0)) H
noncomputable def f64_L0 (p : Pr β) (n : Nat)  (k : AV → Heap → Option β) (m : Nat) (tm : Tm) (H : Heap) : Option β :=
  iterC 22 (fun tm H k => evalCode ti0 p o64 22 n (cd c64 [1, 0, 1, 0, 0]) tm H k) (blkK 0 (seqK (fun tm H => evalCode ti0 p o64 22 n (cd c64 [1, 1]) tm H (endK ti0 p Go.Proofs.Try.f64.results.toList k)) (endK ti0 p Go.Proofs.Try.f64.results.toList k))) m tm H
theorem f64_L0_step (p : Pr β) (n : Nat)  (k : AV → Heap → Option β) (m0 : Nat) (t0 t1 t2 t3 t4 t5 t6 t7 t8 t9 t10 t11 t12 t13 t14 t15 t16 t17 t18 t19 t20 t21 : AV) (H : Heap) : f64_L0 p n  k (m0 + 1) [(0, t0), (1, t1), (2, t2), (3, t3), (4, t4), (5, t5), (6, t6), (7, t7), (8, t8), (9, t9), (10, t10), (11, t11), (12, t12), (13, t13), (14, t14), (15, t15), (16, t16), (17, t17), (18, t18), (19, t19), (20, t20), (21, t21)] H =
  p.len t0 fun t8 =>
  p.bin .lss t5 t8 fun t9 =>
  p.cond t9
  (p.iadr 1 t0 t5 fun t14 =>
  p.load false 1 t14 H fun t15 =>
  p.cvI .u8 t1 fun t17 =>
  p.bin .neq t15 t17 fun t18 =>
  p.cond t18
  (k (.sc (.int .i64 (-1))) H)
  (p.bin .add t1 (.sc (.int .i64 1)) fun t20 =>
  p.bin .add t5 (.sc (.int .i64 1)) fun t11 =>
  f64_L0 p n  k m0 [(0, t0), (1, t20), (2, t2), (3, t3), (4, t4), (5, t11), (6, t5), (7, t0), (8, t8), (9, t9), (10, t5), (11, t11), (12, t0), (13, t5), (14, t14), (15, t15), (16, t1), (17, t17), (18, t18), (19, t1), (20, t20), (21, t21)] H))
  (k t1 H) := by kernel_rfl
theorem f64_l0_eq (p : Pr β) (n : Nat)  (k : AV → Heap → Option β)   (m0 : Nat) : ∀ (t0 t1 t2 t3 t4 t5 t6 t7 t8 t9 t10 t11 t12 t13 t14 t15 t16 t17 t18 t19 t20 t21 : AV) (H : Heap), f64_L0 p n  k m0 [(0, t0), (1, t1), (2, t2), (3, t3), (4, t4), (5, t5), (6, t6), (7, t7), (8, t8), (9, t9), (10, t10), (11, t11), (12, t12), (13, t13), (14, t14), (15, t15), (16, t16), (17, t17), (18, t18), (19, t19), (20, t20), (21, t21)] H = f64_l0 p n  k m0 t0 t1 t5 H := by
  induction m0 with
  | zero => intros; rfl
  | succ m0 ih =>
    intro t0 t1 t2 t3 t4 t5 t6 t7 t8 t9 t10 t11 t12 t13 t14 t15 t16 t17 t18 t19 t20 t21 H
    rw [f64_L0_step]
    simp only [ih]
    rfl
theorem f64_raw (p : Pr β) (n : Nat) (a0 a1 : AV) (H : Heap) (k : AV → Heap → Option β) : evalBody ti0 p n ⟨c64, 22, Go.Proofs.Try.f64.results.toList, o64⟩ [a0, a1] H k =
  f64_L0 p n  k n [(0, a0), (1, a1), (2, (.sc undef)), (3, (.sc undef)), (4, (.sc (.int .i64 0))), (5, (.sc (.int .i64 0))), (6, (.sc undef)), (7, (.sc undef)), (8, (.sc undef)), (9, (.sc undef)), (10, (.sc undef)), (11, (.sc undef)), (12, (.sc undef)), (13, (.sc undef)), (14, (.sc undef)), (15, (.sc undef)), (16, (.sc undef)), (17, (.sc undef)), (18, (.sc undef)), (19, (.sc undef)), (20, (.sc undef)), (21, (.sc undef))] H := by kernel_rfl
theorem f64_body (p : Pr β) (n : Nat) (a0 a1 : AV) (H : Heap) (k : AV → Heap → Option β) : evalBody ti0 p n ⟨c64, 22, Go.Proofs.Try.f64.results.toList, o64⟩ [a0, a1] H k = f64 p n a0 a1 H k := by
  rw [f64_raw]
  simp only [f64_l0_eq]
  rfl

/-! 39 loop.example/g00480/laws.heldMsgS -/
noncomputable def f39_l0 (p : Pr β) (n : Nat)  (k : AV → Heap → Option β) : Nat → AV → AV → AV → Heap → Option β
  | 0, _, _, _, _ => none
  | m + 1, t0, t1, t5, H => p.len t0 fun t8 =>
      p.bin .lss t5 t8 fun t9 =>
      p.cond t9
      (p.iadr 4 t0 t5 fun t14 =>
      p.fadr 0 t14 fun t15 =>
      p.load false 1 t15 H fun t16 =>
      p.call 9 (.fn 62 [] []) [t1] H fun t18 H =>
      p.bin .neq t16 t18 fun t19 =>
      p.cond t19
      (k (.sc (.int .i64 (-1))) H)
      (p.bin .add t1 (.sc (.int .i64 1)) fun t21 =>
      p.iadr 4 t0 t5 fun t24 =>
      p.fadr 1 t24 fun t25 =>
      p.load false 1 t25 H fun t26 =>
      p.call 3 (.fn 64 [] []) [t26, t21] H fun t28 H =>
      p.bin .lss t28 (.sc (.int .i64 0)) fun t30 =>
      p.cond t30
      (k (.sc (.int .i64 (-1))) H)
      (p.iadr 4 t0 t5 fun t33 =>
      p.fadr 2 t33 fun t34 =>
      p.load false 1 t34 H fun t35 =>
      p.bin .neq t35 t28 fun t37 =>
      p.cond t37
      (k (.sc (.int .i64 (-1))) H)
      (p.bin .add t28 (.sc (.int .i64 1)) fun t39 =>
      p.iadr 4 t0 t5 fun t42 =>
      p.fadr 3 t42 fun t43 =>
      p.load false 1 t43 H fun t44 =>
      p.bin .rem t39 (.sc (.int .i64 3)) fun t46 =>
      p.bin .eql t46 (.sc (.int .i64 0)) fun t47 =>
      p.binB .neq t44 t47 fun t48 =>
      p.cond t48
      (k (.sc (.int .i64 (-1))) H)
      (p.bin .add t39 (.sc (.int .i64 1)) fun t50 =>
      p.bin .add t5 (.sc (.int .i64 1)) fun t11 =>
      f39_l0 p n  k m t0 t50 t11 H)))))
      (k t1 H)
noncomputable def f39 (p : Pr β) (n : Nat) (a0 a1 : AV) (H : Heap) (k : AV → Heap → Option β) : Option β :=
  f39_l0 p n  k n a0 a1 (.sc (.int .i64 0)) H
noncomputable def f39_L0 (p : Pr β) (n : Nat)  (k : AV → Heap → Option β) (m : Nat) (tm : Tm) (H : Heap) : Option β :=
  iterC 52 (fun tm H k => evalCode ti0 p o39 52 n (cd c39 [1, 0, 1, 0, 0]) tm H k) (blkK 0 (seqK (fun tm H => evalCode ti0 p o39 52 n (cd c39 [1, 1]) tm H (endK ti0 p Go.Proofs.Try.f39.results.toList k)) (endK ti0 p Go.Proofs.Try.f39.results.toList k))) m tm H
theorem f39_L0_step (p : Pr β) (n : Nat)  (k : AV → Heap → Option β) (m0 : Nat) (t0 t1 t2 t3 t4 t5 t6 t7 t8 t9 t10 t11 t12 t13 t14 t15 t16 t17 t18 t19 t20 t21 t22 t23 t24 t25 t26 t27 t28 t29 t30 t31 t32 t33 t34 t35 t36 t37 t38 t39 t40 t41 t42 t43 t44 t45 t46 t47 t48 t49 t50 t51 : AV) (H : Heap) : f39_L0 p n  k (m0 + 1) [(0, t0), (1, t1), (2, t2), (3, t3), (4, t4), (5, t5), (6, t6), (7, t7), (8, t8), (9, t9), (10, t10), (11, t11), (12, t12), (13, t13), (14, t14), (15, t15), (16, t16), (17, t17), (18, t18), (19, t19), (20, t20), (21, t21), (22, t22), (23, t23), (24, t24), (25, t25), (26, t26), (27, t27), (28, t28), (29, t29), (30, t30), (31, t31), (32, t32), (33, t33), (34, t34), (35, t35), (36, t36), (37, t37), (38, t38), (39, t39), (40, t40), (41, t41), (42, t42), (43, t43), (44, t44), (45, t45), (46, t46), (47, t47), (48, t48), (49, t49), (50, t50), (51, t51)] H =
  p.len t0 fun t8 =>
  p.bin .lss t5 t8 fun t9 =>
  p.cond t9
  (p.iadr 4 t0 t5 fun t14 =>
  p.fadr 0 t14 fun t15 =>
  p.load false 1 t15 H fun t16 =>
  p.call 9 (.fn 62 [] []) [t1] H fun t18 H =>
  p.bin .neq t16 t18 fun t19 =>
  p.cond t19
  (k (.sc (.int .i64 (-1))) H)
  (p.bin .add t1 (.sc (.int .i64 1)) fun t21 =>
  p.iadr 4 t0 t5 fun t24 =>
  p.fadr 1 t24 fun t25 =>
  p.load false 1 t25 H fun t26 =>
  p.call 3 (.fn 64 [] []) [t26, t21] H fun t28 H =>
  p.bin .lss t28 (.sc (.int .i64 0)) fun t30 =>
  p.cond t30
  (k (.sc (.int .i64 (-1))) H)
  (p.iadr 4 t0 t5 fun t33 =>
  p.fadr 2 t33 fun t34 =>
  p.load false 1 t34 H fun t35 =>
  p.bin .neq t35 t28 fun t37 =>
  p.cond t37
  (k (.sc (.int .i64 (-1))) H)
  (p.bin .add t28 (.sc (.int .i64 1)) fun t39 =>
  p.iadr 4 t0 t5 fun t42 =>
  p.fadr 3 t42 fun t43 =>
  p.load false 1 t43 H fun t44 =>
  p.bin .rem t39 (.sc (.int .i64 3)) fun t46 =>
  p.bin .eql t46 (.sc (.int .i64 0)) fun t47 =>
  p.binB .neq t44 t47 fun t48 =>
  p.cond t48
  (k (.sc (.int .i64 (-1))) H)
  (p.bin .add t39 (.sc (.int .i64 1)) fun t50 =>
  p.bin .add t5 (.sc (.int .i64 1)) fun t11 =>
  f39_L0 p n  k m0 [(0, t0), (1, t50), (2, t2), (3, t3), (4, t4), (5, t11), (6, t5), (7, t0), (8, t8), (9, t9), (10, t5), (11, t11), (12, t0), (13, t5), (14, t14), (15, t15), (16, t16), (17, t1), (18, t18), (19, t19), (20, t1), (21, t21), (22, t0), (23, t5), (24, t24), (25, t25), (26, t26), (27, t21), (28, t28), (29, t28), (30, t30), (31, t0), (32, t5), (33, t33), (34, t34), (35, t35), (36, t28), (37, t37), (38, t28), (39, t39), (40, t0), (41, t5), (42, t42), (43, t43), (44, t44), (45, t39), (46, t46), (47, t47), (48, t48), (49, t39), (50, t50), (51, t51)] H)))))
  (k t1 H) := by kernel_rfl
theorem f39_l0_eq (p : Pr β) (n : Nat)  (k : AV → Heap → Option β)   (m0 : Nat) : ∀ (t0 t1 t2 t3 t4 t5 t6 t7 t8 t9 t10 t11 t12 t13 t14 t15 t16 t17 t18 t19 t20 t21 t22 t23 t24 t25 t26 t27 t28 t29 t30 t31 t32 t33 t34 t35 t36 t37 t38 t39 t40 t41 t42 t43 t44 t45 t46 t47 t48 t49 t50 t51 : AV) (H : Heap), f39_L0 p n  k m0 [(0, t0), (1, t1), (2, t2), (3, t3), (4, t4), (5, t5), (6, t6), (7, t7), (8, t8), (9, t9), (10, t10), (11, t11), (12, t12), (13, t13), (14, t14), (15, t15), (16, t16), (17, t17), (18, t18), (19, t19), (20, t20), (21, t21), (22, t22), (23, t23), (24, t24), (25, t25), (26, t26), (27, t27), (28, t28), (29, t29), (30, t30), (31, t31), (32, t32), (33, t33), (34, t34), (35, t35), (36, t36), (37, t37), (38, t38), (39, t39), (40, t40), (41, t41), (42, t42), (43, t43), (44, t44), (45, t45), (46, t46), (47, t47), (48, t48), (49, t49), (50, t50), (51, t51)] H = f39_l0 p n  k m0 t0 t1 t5 H := by
  induction m0 with
  | zero => intros; rfl
  | succ m0 ih =>
    intro t0 t1 t2 t3 t4 t5 t6 t7 t8 t9 t10 t11 t12 t13 t14 t15 t16 t17 t18 t19 t20 t21 t22 t23 t24 t25 t26 t27 t28 t29 t30 t31 t32 t33 t34 t35 t36 t37 t38 t39 t40 t41 t42 t43 t44 t45 t46 t47 t48 t49 t50 t51 H
    rw [f39_L0_step]
    simp only [ih]
    rfl
theorem f39_raw (p : Pr β) (n : Nat) (a0 a1 : AV) (H : Heap) (k : AV → Heap → Option β) : evalBody ti0 p n ⟨c39, 52, Go.Proofs.Try.f39.results.toList, o39⟩ [a0, a1] H k =
  f39_L0 p n  k n [(0, a0), (1, a1), (2, (.sc undef)), (3, (.sc undef)), (4, (.sc (.int .i64 0))), (5, (.sc (.int .i64 0))), (6, (.sc undef)), (7, (.sc undef)), (8, (.sc undef)), (9, (.sc undef)), (10, (.sc undef)), (11, (.sc undef)), (12, (.sc undef)), (13, (.sc undef)), (14, (.sc undef)), (15, (.sc undef)), (16, (.sc undef)), (17, (.sc undef)), (18, (.sc undef)), (19, (.sc undef)), (20, (.sc undef)), (21, (.sc undef)), (22, (.sc undef)), (23, (.sc undef)), (24, (.sc undef)), (25, (.sc undef)), (26, (.sc undef)), (27, (.sc undef)), (28, (.sc undef)), (29, (.sc undef)), (30, (.sc undef)), (31, (.sc undef)), (32, (.sc undef)), (33, (.sc undef)), (34, (.sc undef)), (35, (.sc undef)), (36, (.sc undef)), (37, (.sc undef)), (38, (.sc undef)), (39, (.sc undef)), (40, (.sc undef)), (41, (.sc undef)), (42, (.sc undef)), (43, (.sc undef)), (44, (.sc undef)), (45, (.sc undef)), (46, (.sc undef)), (47, (.sc undef)), (48, (.sc undef)), (49, (.sc undef)), (50, (.sc undef)), (51, (.sc undef))] H := by kernel_rfl
theorem f39_body (p : Pr β) (n : Nat) (a0 a1 : AV) (H : Heap) (k : AV → Heap → Option β) : evalBody ti0 p n ⟨c39, 52, Go.Proofs.Try.f39.results.toList, o39⟩ [a0, a1] H k = f39 p n a0 a1 H k := by
  rw [f39_raw]
  simp only [f39_l0_eq]
  rfl

/-! 40 loop.example/g00480/laws.heldMsg -/
noncomputable def f40 (p : Pr β) (n : Nat) (a0 a1 : AV) (H : Heap) (k : AV → Heap → Option β) : Option β :=
  p.box a0 H fun t2 H =>
  p.fadr 1 t2 fun t5 =>
  p.load false 1 t5 H fun t6 =>
  p.call 3 (.fn 64 [] []) [t6, a1] H fun t8 H =>
  p.bin .lss t8 (.sc (.int .i64 0)) fun t10 =>
  p.cond t10
  (k (.sc (.int .i64 (-1))) H)
  (k t8 H)
theorem f40_body (p : Pr β) (n : Nat) (a0 a1 : AV) (H : Heap) (k : AV → Heap → Option β) : evalBody ti0 p n ⟨c40, 12, Go.Proofs.Try.f40.results.toList, o40⟩ [a0, a1] H k = f40 p n a0 a1 H k := by kernel_rfl

/-! 9 loop.example/g00480/laws.FnExactPop -/
noncomputable def f9 (p : Pr β) (n : Nat) (a0 : AV) (H : Heap) (k : AV → Heap → Option β) : Option β :=
  p.call 3 (.fn 30 [] []) [a0, (.sc (.int .i64 1048576))] H fun t19 H =>
  p.bin .lss t19 (.sc (.int .i64 0)) fun t21 =>
  p.cond t21
  (k (.sc (.bool true)) H)
  (p.call 48 (.fn 32 [] []) [a0] H fun t24 H =>
  p.call 51 (.fn 35 [] []) [t24] H fun t25 H =>
  p.extr t25 0 fun t26 =>
  p.extr t25 1 fun t27 =>
  p.extr t25 2 fun t28 =>
  p.new [(.sc (.string ⟨#[]⟩)), .nl, (.sc (.int .i64 0)), (.sc (.bool false))] H fun t5 H =>
  p.store 4 t5 t27 H fun H =>
  p.call 48 (.fn 32 [] []) [a0] H fun t30 H =>
  p.call 51 (.fn 36 [] []) [t30] H fun t33 H =>
  p.extr t33 0 fun t34 =>
  p.extr t33 1 fun t35 =>
  p.extr t33 2 fun t36 =>
  p.new [(.sc (.string ⟨#[]⟩)), .nl, (.sc (.int .i64 0)), (.sc (.bool false))] H fun t9 H =>
  p.store 4 t9 t35 H fun H =>
  p.call 4 (.fn 34 [] []) [t34, t26] H fun t39 H =>
  p.un .not t39 fun t40 =>
  p.guard t40 false H (fun k' => p.load true 4 t9 H fun t' => k' t' H) fun t42 H =>
  p.guard t40 false H (fun k' => p.load true 4 t5 H fun t' => k' t' H) fun t43 H =>
  p.guard t40 false H (fun k' => p.call 4 (.fn 23 [] []) [t42, t43] H fun t' H => k' t' H) fun t44 H =>
  p.guard t40 false H (fun k' => p.un .not t44 fun t' => k' t' H) fun t45 H =>
  p.pick t40 (.sc (.bool true)) t45 fun t46 =>
  p.guard t46 false H (fun k' => k' t36 H) fun t48 H =>
  p.guard t46 false H (fun k' => k' t28 H) fun t49 H =>
  p.guard t46 false H (fun k' => p.binB .neq t48 t49 fun t' => k' t' H) fun t50 H =>
  p.pick t46 (.sc (.bool true)) t50 fun t51 =>
  p.cond t51
  (k (.sc (.bool false)) H)
  (p.call 48 (.fn 32 [] []) [a0] H fun t54 H =>
  p.call 4 (.fn 34 [] []) [t30, t54] H fun t55 H =>
  p.un .not t55 fun t56 =>
  p.cond t56
  (k (.sc (.bool false)) H)
  (p.call 3 (.fn 37 [] []) [t30, (.sc (.int .i64 1))] H fun t59 H =>
  p.bin .lss t59 (.sc (.int .i64 0)) fun t61 =>
  p.guard t61 false H (fun k' => k' t34 H) fun t63 H =>
  p.guard t61 false H (fun k' => k' t26 H) fun t64 H =>
  p.guard t61 false H (fun k' => p.call 4 (.fn 34 [] []) [t63, t64] H fun t' H => k' t' H) fun t65 H =>
  p.guard t61 false H (fun k' => p.un .not t65 fun t' => k' t' H) fun t66 H =>
  p.pick t61 (.sc (.bool true)) t66 fun t67 =>
  p.guard t67 false H (fun k' => p.load true 4 t9 H fun t' => k' t' H) fun t69 H =>
  p.guard t67 false H (fun k' => p.load true 4 t5 H fun t' => k' t' H) fun t70 H =>
  p.guard t67 false H (fun k' => p.call 4 (.fn 23 [] []) [t69, t70] H fun t' H => k' t' H) fun t71 H =>
  p.guard t67 false H (fun k' => p.un .not t71 fun t' => k' t' H) fun t72 H =>
  p.pick t67 (.sc (.bool true)) t72 fun t73 =>
  p.guard t73 false H (fun k' => k' t36 H) fun t75 H =>
  p.guard t73 false H (fun k' => k' t28 H) fun t76 H =>
  p.guard t73 false H (fun k' => p.binB .neq t75 t76 fun t' => k' t' H) fun t77 H =>
  p.pick t73 (.sc (.bool true)) t77 fun t78 =>
  p.cond t78
  (k (.sc (.bool false)) H)
  (p.call 3 (.fn 37 [] []) [t34, (.sc (.int .i64 1))] H fun t81 H =>
  p.load true 4 t9 H fun t82 =>
  p.call 3 (.fn 38 [] []) [t82, t81] H fun t84 H =>
  p.call 3 (.fn 39 [] []) [t34, (.sc (.int .i64 1))] H fun t87 H =>
  p.bin .lss t87 (.sc (.int .i64 0)) fun t89 =>
  p.cond t89
  (k (.sc (.bool false)) H)
  (p.load true 4 t9 H fun t90 =>
  p.call 3 (.fn 40 [] []) [t90, t87] H fun t92 H =>
  p.bin .lss t92 (.sc (.int .i64 0)) fun t94 =>
  p.cond t94
  (k (.sc (.bool false)) H)
  (p.bin .neq t92 t84 fun t97 =>
  p.cond t97
  (k (.sc (.bool false)) H)
  (p.call 48 (.fn 32 [] []) [a0] H fun t100 H =>
  p.call 51 (.fn 36 [] []) [t100] H fun t101 H =>
  p.extr t101 0 fun t102 =>
  p.extr t101 1 fun t103 =>
  p.extr t101 2 fun t104 =>
  p.new [(.sc (.string ⟨#[]⟩)), .nl, (.sc (.int .i64 0)), (.sc (.bool false))] H fun t15 H =>
  p.store 4 t15 t103 H fun H =>
  p.call 4 (.fn 34 [] []) [t102, t26] H fun t107 H =>
  p.un .not t107 fun t108 =>
  p.guard t108 false H (fun k' => p.load true 4 t15 H fun t' => k' t' H) fun t110 H =>
  p.guard t108 false H (fun k' => p.load true 4 t5 H fun t' => k' t' H) fun t111 H =>
  p.guard t108 false H (fun k' => p.call 4 (.fn 23 [] []) [t110, t111] H fun t' H => k' t' H) fun t112 H =>
  p.guard t108 false H (fun k' => p.un .not t112 fun t' => k' t' H) fun t113 H =>
  p.pick t108 (.sc (.bool true)) t113 fun t114 =>
  p.guard t114 false H (fun k' => k' t104 H) fun t116 H =>
  p.guard t114 false H (fun k' => k' t28 H) fun t117 H =>
  p.guard t114 false H (fun k' => p.binB .neq t116 t117 fun t' => k' t' H) fun t118 H =>
  p.pick t114 (.sc (.bool true)) t118 fun t119 =>
  p.cond t119
  (k (.sc (.bool false)) H)
  (p.call 3 (.fn 39 [] []) [t34, (.sc (.int .i64 1))] H fun t122 H =>
  p.bin .lss t122 (.sc (.int .i64 0)) fun t124 =>
  p.cond t124
  (k (.sc (.bool false)) H)
  (p.load true 4 t9 H fun t125 =>
  p.call 3 (.fn 40 [] []) [t125, t122] H fun t127 H =>
  p.bin .lss t127 (.sc (.int .i64 0)) fun t129 =>
  p.cond t129
  (k (.sc (.bool false)) H)
  (p.bin .neq t127 t84 fun t132 =>
  p.cond t132
  (k (.sc (.bool false)) H)
  (k (.sc (.bool true)) H)))))))))))
theorem f9_body (p : Pr β) (n : Nat) (a0 : AV) (H : Heap) (k : AV → Heap → Option β) : evalBody ti0 p n ⟨c9, 133, Go.Proofs.Try.f9.results.toList, o9⟩ [a0] H k = f9 p n a0 H k := by kernel_rfl

/-! 77 loop.example/g00480/laws.szFlight -/
noncomputable def f77 (p : Pr β) (n : Nat) (a0 a1 : AV) (H : Heap) (k : AV → Heap → Option β) : Option β :=
  p.box a0 H fun t2 H =>
  p.fadr 1 t2 fun t5 =>
  p.load true 4 t5 H fun t6 =>
  p.call 3 (.fn 19 [] []) [t6, a1] H fun t8 H =>
  p.bin .lss t8 (.sc (.int .i64 0)) fun t10 =>
  p.cond t10
  (k (.sc (.int .i64 (-1))) H)
  (k t8 H)
theorem f77_body (p : Pr β) (n : Nat) (a0 a1 : AV) (H : Heap) (k : AV → Heap → Option β) : evalBody ti0 p n ⟨c77, 12, Go.Proofs.Try.f77.results.toList, o77⟩ [a0, a1] H k = f77 p n a0 a1 H k := by kernel_rfl

/-! 72 loop.example/g00480/laws.szFlightS -/
noncomputable def f72_l0 (p : Pr β) (n : Nat)  (k : AV → Heap → Option β) : Nat → AV → AV → AV → Heap → Option β
  | 0, _, _, _, _ => none
  | m + 1, t0, t1, t5, H => p.len t0 fun t14 =>
      p.bin .lss t5 t14 fun t15 =>
      p.cond t15
      (p.iadr 6 t0 t5 fun t20 =>
      p.load true 6 t20 H fun t21 =>
      p.call 3 (.fn 77 [] []) [t21, t1] H fun t23 H =>
      p.bin .lss t23 (.sc (.int .i64 0)) fun t25 =>
      p.cond t25
      (k (.sc (.int .i64 (-1))) H)
      (p.bin .add t5 (.sc (.int .i64 1)) fun t17 =>
      f72_l0 p n  k m t0 t23 t17 H))
      (k t1 H)
noncomputable def f72 (p : Pr β) (n : Nat) (a0 a1 : AV) (H : Heap) (k : AV → Heap → Option β) : Option β :=
  p.len a0 fun t8 =>
  p.bin .sub a1 t8 fun t9 =>
  p.bin .lss t9 (.sc (.int .i64 0)) fun t11 =>
  p.cond t11
  (k (.sc (.int .i64 (-1))) H)
  (f72_l0 p n  k n a0 t9 (.sc (.int .i64 0)) H)
noncomputable def f72_L0 (p : Pr β) (n : Nat)  (k : AV → Heap → Option β) (m : Nat) (tm : Tm) (H : Heap) : Option β :=
  iterC 27 (fun tm H k => evalCode ti0 p o72 27 n (cd c72 [1, 1, 1, 0, 1, 0, 0]) tm H k) (blkK 0 (seqK (fun tm H => evalCode ti0 p o72 27 n (cd c72 [1, 1, 1, 1]) tm H (endK ti0 p Go.Proofs.Try.f72.results.toList k)) (endK ti0 p Go.Proofs.Try.f72.results.toList k))) m tm H
theorem f72_L0_step (p : Pr β) (n : Nat)  (k : AV → Heap → Option β) (m0 : Nat) (t0 t1 t2 t3 t4 t5 t6 t7 t8 t9 t10 t11 t12 t13 t14 t15 t16 t17 t18 t19 t20 t21 t22 t23 t24 t25 t26 : AV) (H : Heap) : f72_L0 p n  k (m0 + 1) [(0, t0), (1, t1), (2, t2), (3, t3), (4, t4), (5, t5), (6, t6), (7, t7), (8, t8), (9, t9), (10, t10), (11, t11), (12, t12), (13, t13), (14, t14), (15, t15), (16, t16), (17, t17), (18, t18), (19, t19), (20, t20), (21, t21), (22, t22), (23, t23), (24, t24), (25, t25), (26, t26)] H =
  p.len t0 fun t14 =>
  p.bin .lss t5 t14 fun t15 =>
  p.cond t15
  (p.iadr 6 t0 t5 fun t20 =>
  p.load true 6 t20 H fun t21 =>
  p.call 3 (.fn 77 [] []) [t21, t1] H fun t23 H =>
  p.bin .lss t23 (.sc (.int .i64 0)) fun t25 =>
  p.cond t25
  (k (.sc (.int .i64 (-1))) H)
  (p.bin .add t5 (.sc (.int .i64 1)) fun t17 =>
  f72_L0 p n  k m0 [(0, t0), (1, t23), (2, t2), (3, t3), (4, t4), (5, t17), (6, t6), (7, t7), (8, t8), (9, t9), (10, t10), (11, t11), (12, t5), (13, t0), (14, t14), (15, t15), (16, t5), (17, t17), (18, t0), (19, t5), (20, t20), (21, t21), (22, t1), (23, t23), (24, t23), (25, t25), (26, t26)] H))
  (k t1 H) := by kernel_rfl
theorem f72_l0_eq (p : Pr β) (n : Nat)  (k : AV → Heap → Option β)   (m0 : Nat) : ∀ (t0 t1 t2 t3 t4 t5 t6 t7 t8 t9 t10 t11 t12 t13 t14 t15 t16 t17 t18 t19 t20 t21 t22 t23 t24 t25 t26 : AV) (H : Heap), f72_L0 p n  k m0 [(0, t0), (1, t1), (2, t2), (3, t3), (4, t4), (5, t5), (6, t6), (7, t7), (8, t8), (9, t9), (10, t10), (11, t11), (12, t12), (13, t13), (14, t14), (15, t15), (16, t16), (17, t17), (18, t18), (19, t19), (20, t20), (21, t21), (22, t22), (23, t23), (24, t24), (25, t25), (26, t26)] H = f72_l0 p n  k m0 t0 t1 t5 H := by
  induction m0 with
  | zero => intros; rfl
  | succ m0 ih =>
    intro t0 t1 t2 t3 t4 t5 t6 t7 t8 t9 t10 t11 t12 t13 t14 t15 t16 t17 t18 t19 t20 t21 t22 t23 t24 t25 t26 H
    rw [f72_L0_step]
    simp only [ih]
    rfl
theorem f72_raw (p : Pr β) (n : Nat) (a0 a1 : AV) (H : Heap) (k : AV → Heap → Option β) : evalBody ti0 p n ⟨c72, 27, Go.Proofs.Try.f72.results.toList, o72⟩ [a0, a1] H k =
  p.len a0 fun t8 =>
  p.bin .sub a1 t8 fun t9 =>
  p.bin .lss t9 (.sc (.int .i64 0)) fun t11 =>
  p.cond t11
  (k (.sc (.int .i64 (-1))) H)
  (f72_L0 p n  k n [(0, a0), (1, t9), (2, (.sc undef)), (3, (.sc undef)), (4, (.sc (.int .i64 0))), (5, (.sc (.int .i64 0))), (6, a1), (7, a0), (8, t8), (9, t9), (10, t9), (11, t11), (12, (.sc undef)), (13, (.sc undef)), (14, (.sc undef)), (15, (.sc undef)), (16, (.sc undef)), (17, (.sc undef)), (18, (.sc undef)), (19, (.sc undef)), (20, (.sc undef)), (21, (.sc undef)), (22, (.sc undef)), (23, (.sc undef)), (24, (.sc undef)), (25, (.sc undef)), (26, (.sc undef))] H) := by kernel_rfl
theorem f72_body (p : Pr β) (n : Nat) (a0 a1 : AV) (H : Heap) (k : AV → Heap → Option β) : evalBody ti0 p n ⟨c72, 27, Go.Proofs.Try.f72.results.toList, o72⟩ [a0, a1] H k = f72 p n a0 a1 H k := by
  rw [f72_raw]
  simp only [f72_l0_eq]
  rfl

/-! 65 loop.example/g00480/laws.szOut -/
noncomputable def f65 (p : Pr β) (n : Nat) (a0 a1 : AV) (H : Heap) (k : AV → Heap → Option β) : Option β :=
  p.box a0 H fun t2 H =>
  p.fadr 1 t2 fun t5 =>
  p.load false 1 t5 H fun t6 =>
  p.call 3 (.fn 72 [] []) [t6, a1] H fun t8 H =>
  p.bin .lss t8 (.sc (.int .i64 0)) fun t10 =>
  p.cond t10
  (k (.sc (.int .i64 (-1))) H)
  (p.fadr 2 t2 fun t11 =>
  p.load false 1 t11 H fun t12 =>
  p.call 3 (.fn 30 [] []) [t12, t8] H fun t14 H =>
  p.bin .lss t14 (.sc (.int .i64 0)) fun t16 =>
  p.cond t16
  (k (.sc (.int .i64 (-1))) H)
  (k t14 H))
theorem f65_body (p : Pr β) (n : Nat) (a0 a1 : AV) (H : Heap) (k : AV → Heap → Option β) : evalBody ti0 p n ⟨c65, 18, Go.Proofs.Try.f65.results.toList, o65⟩ [a0, a1] H k = f65 p n a0 a1 H k := by kernel_rfl

/-! 66 loop.example/g00480/laws.szIntS -/
noncomputable def f66 (p : Pr β) (n : Nat) (a0 a1 : AV) (H : Heap) (k : AV → Heap → Option β) : Option β :=
  p.len a0 fun t7 =>
  p.bin .sub a1 t7 fun t8 =>
  p.bin .lss t8 (.sc (.int .i64 0)) fun t10 =>
  p.cond t10
  (k (.sc (.int .i64 (-1))) H)
  (k t8 H)
theorem f66_body (p : Pr β) (n : Nat) (a0 a1 : AV) (H : Heap) (k : AV → Heap → Option β) : evalBody ti0 p n ⟨c66, 12, Go.Proofs.Try.f66.results.toList, o66⟩ [a0, a1] H k = f66 p n a0 a1 H k := by kernel_rfl

/-! 41 loop.example/g00480/laws.szSess -/
noncomputable def f41 (p : Pr β) (n : Nat) (a0 a1 : AV) (H : Heap) (k : AV → Heap → Option β) : Option β :=
  p.box a0 H fun t2 H =>
  p.fadr 0 t2 fun t6 =>
  p.load false 1 t6 H fun t7 =>
  p.lenS t7 fun t8 =>
  p.bin .sub a1 t8 fun t9 =>
  p.bin .lss t9 (.sc (.int .i64 0)) fun t11 =>
  p.cond t11
  (k (.sc (.int .i64 (-1))) H)
  (p.fadr 5 t2 fun t12 =>
  p.load true 3 t12 H fun t13 =>
  p.call 3 (.fn 65 [] []) [t13, t9] H fun t15 H =>
  p.bin .lss t15 (.sc (.int .i64 0)) fun t17 =>
  p.cond t17
  (k (.sc (.int .i64 (-1))) H)
  (p.fadr 8 t2 fun t18 =>
  p.load false 1 t18 H fun t19 =>
  p.call 3 (.fn 66 [] []) [t19, t15] H fun t21 H =>
  p.bin .lss t21 (.sc (.int .i64 0)) fun t23 =>
  p.cond t23
  (k (.sc (.int .i64 (-1))) H)
  (k t21 H)))
theorem f41_body (p : Pr β) (n : Nat) (a0 a1 : AV) (H : Heap) (k : AV → Heap → Option β) : evalBody ti0 p n ⟨c41, 25, Go.Proofs.Try.f41.results.toList, o41⟩ [a0, a1] H k = f41 p n a0 a1 H k := by kernel_rfl

/-! 78 loop.example/g00480/laws.toFlight -/
noncomputable def f78 (p : Pr β) (n : Nat) (a0 : AV) (H : Heap) (k : AV → Heap → Option β) : Option β :=
  p.box a0 H fun t1 H =>
  p.new [(.sc (.int .i64 0)), (.sc (.string ⟨#[]⟩)), .nl, (.sc (.int .i64 0)), (.sc (.bool false)), (.sc (.int .i64 0))] H fun t2 H =>
  p.new [(.sc (.int .i64 0)), (.sc (.string ⟨#[]⟩)), .nl, (.sc (.int .i64 0)), (.sc (.bool false)), (.sc (.int .i64 0))] H fun t3 H =>
  p.fadr 0 t1 fun t4 =>
  p.load false 1 t4 H fun t5 =>
  p.fadr 0 t3 fun t6 =>
  p.store 1 t6 t5 H fun H =>
  p.fadr 1 t1 fun t7 =>
  p.load true 4 t7 H fun t8 =>
  p.call 34 (.fn 21 [] []) [t8] H fun t9 H =>
  p.fadr 1 t3 fun t10 =>
  p.store 4 t10 t9 H fun H =>
  p.fadr 5 t1 fun t11 =>
  p.load false 1 t11 H fun t12 =>
  p.fadr 5 t3 fun t13 =>
  p.store 1 t13 t12 H fun H =>
  p.load true 6 t3 H fun t14 =>
  p.store 6 t2 t14 H fun H =>
  p.load true 6 t2 H fun r0 =>
  k r0 H
theorem f78_body (p : Pr β) (n : Nat) (a0 : AV) (H : Heap) (k : AV → Heap → Option β) : evalBody ti0 p n ⟨c78, 15, Go.Proofs.Try.f78.results.toList, o78⟩ [a0] H k = f78 p n a0 H k := by kernel_rfl

/-! 73 loop.example/g00480/laws.toFlightS -/
noncomputable def f73_l0 (p : Pr β) (n : Nat)  (k : AV → Heap → Option β) : Nat → AV → AV → AV → Heap → Option β
  | 0, _, _, _, _ => none
  | m + 1, t0, t3, t4, H => p.len t0 fun t10 =>
      p.bin .lss t4 t10 fun t11 =>
      p.cond t11
      (p.iadr 6 t0 t4 fun t18 =>
      p.load true 6 t18 H fun t19 =>
      p.call 101 (.fn 78 [] []) [t19] H fun t20 H =>
      p.iadr 6 t3 t4 fun t21 =>
      p.store 6 t21 t20 H fun H =>
      p.bin .add t4 (.sc (.int .i64 1)) fun t13 =>
      f73_l0 p n  k m t0 t3 t13 H)
      (k t3 H)
noncomputable def f73 (p : Pr β) (n : Nat) (a0 : AV) (H : Heap) (k : AV → Heap → Option β) : Option β :=
  p.len a0 fun t6 =>
  p.make 6 72 [(.sc (.int .i64 0)), (.sc (.string ⟨#[]⟩)), .nl, (.sc (.int .i64 0)), (.sc (.bool false)), (.sc (.int .i64 0))] t6 t6 H fun t7 H =>
  f73_l0 p n  k n a0 t7 (.sc (.int .i64 0)) H
noncomputable def f73_L0 (p : Pr β) (n : Nat)  (k : AV → Heap → Option β) (m : Nat) (tm : Tm) (H : Heap) : Option β :=
  iterC 23 (fun tm H k => evalCode ti0 p o73 23 n (cd c73 [1, 1, 0, 1, 0, 0]) tm H k) (blkK 0 (seqK (fun tm H => evalCode ti0 p o73 23 n (cd c73 [1, 1, 1]) tm H (endK ti0 p Go.Proofs.Try.f73.results.toList k)) (endK ti0 p Go.Proofs.Try.f73.results.toList k))) m tm H
theorem f73_L0_step (p : Pr β) (n : Nat)  (k : AV → Heap → Option β) (m0 : Nat) (t0 t1 t2 t3 t4 t5 t6 t7 t8 t9 t10 t11 t12 t13 t14 t15 t16 t17 t18 t19 t20 t21 t22 : AV) (H : Heap) : f73_L0 p n  k (m0 + 1) [(0, t0), (1, t1), (2, t2), (3, t3), (4, t4), (5, t5), (6, t6), (7, t7), (8, t8), (9, t9), (10, t10), (11, t11), (12, t12), (13, t13), (14, t14), (15, t15), (16, t16), (17, t17), (18, t18), (19, t19), (20, t20), (21, t21), (22, t22)] H =
  p.len t0 fun t10 =>
  p.bin .lss t4 t10 fun t11 =>
  p.cond t11
  (p.iadr 6 t0 t4 fun t18 =>
  p.load true 6 t18 H fun t19 =>
  p.call 101 (.fn 78 [] []) [t19] H fun t20 H =>
  p.iadr 6 t3 t4 fun t21 =>
  p.store 6 t21 t20 H fun H =>
  p.bin .add t4 (.sc (.int .i64 1)) fun t13 =>
  f73_L0 p n  k m0 [(0, t0), (1, t1), (2, t2), (3, t3), (4, t13), (5, t5), (6, t6), (7, t7), (8, t4), (9, t0), (10, t10), (11, t11), (12, t4), (13, t13), (14, t3), (15, t4), (16, t0), (17, t4), (18, t18), (19, t19), (20, t20), (21, t21), (22, t22)] H)
  (k t3 H) := by kernel_rfl
theorem f73_l0_eq (p : Pr β) (n : Nat)  (k : AV → Heap → Option β)   (m0 : Nat) : ∀ (t0 t1 t2 t3 t4 t5 t6 t7 t8 t9 t10 t11 t12 t13 t14 t15 t16 t17 t18 t19 t20 t21 t22 : AV) (H : Heap), f73_L0 p n  k m0 [(0, t0), (1, t1), (2, t2), (3, t3), (4, t4), (5, t5), (6, t6), (7, t7), (8, t8), (9, t9), (10, t10), (11, t11), (12, t12), (13, t13), (14, t14), (15, t15), (16, t16), (17, t17), (18, t18), (19, t19), (20, t20), (21, t21), (22, t22)] H = f73_l0 p n  k m0 t0 t3 t4 H := by
  induction m0 with
  | zero => intros; rfl
  | succ m0 ih =>
    intro t0 t1 t2 t3 t4 t5 t6 t7 t8 t9 t10 t11 t12 t13 t14 t15 t16 t17 t18 t19 t20 t21 t22 H
    rw [f73_L0_step]
    simp only [ih]
    rfl
theorem f73_raw (p : Pr β) (n : Nat) (a0 : AV) (H : Heap) (k : AV → Heap → Option β) : evalBody ti0 p n ⟨c73, 23, Go.Proofs.Try.f73.results.toList, o73⟩ [a0] H k =
  p.len a0 fun t6 =>
  p.make 6 72 [(.sc (.int .i64 0)), (.sc (.string ⟨#[]⟩)), .nl, (.sc (.int .i64 0)), (.sc (.bool false)), (.sc (.int .i64 0))] t6 t6 H fun t7 H =>
  f73_L0 p n  k n [(0, a0), (1, (.sc undef)), (2, .nl), (3, t7), (4, (.sc (.int .i64 0))), (5, a0), (6, t6), (7, t7), (8, (.sc undef)), (9, (.sc undef)), (10, (.sc undef)), (11, (.sc undef)), (12, (.sc undef)), (13, (.sc undef)), (14, (.sc undef)), (15, (.sc undef)), (16, (.sc undef)), (17, (.sc undef)), (18, (.sc undef)), (19, (.sc undef)), (20, (.sc undef)), (21, (.sc undef)), (22, (.sc undef))] H := by kernel_rfl
theorem f73_body (p : Pr β) (n : Nat) (a0 : AV) (H : Heap) (k : AV → Heap → Option β) : evalBody ti0 p n ⟨c73, 23, Go.Proofs.Try.f73.results.toList, o73⟩ [a0] H k = f73 p n a0 H k := by
  rw [f73_raw]
  simp only [f73_l0_eq]
  rfl

/-! 67 loop.example/g00480/laws.toOut -/
noncomputable def f67 (p : Pr β) (n : Nat) (a0 : AV) (H : Heap) (k : AV → Heap → Option β) : Option β :=
  p.box a0 H fun t1 H =>
  p.new [(.sc (.int .i64 0)), .nl, .nl] H fun t2 H =>
  p.new [(.sc (.int .i64 0)), .nl, .nl] H fun t3 H =>
  p.fadr 0 t1 fun t4 =>
  p.load false 1 t4 H fun t5 =>
  p.fadr 0 t3 fun t6 =>
  p.store 1 t6 t5 H fun H =>
  p.fadr 1 t1 fun t7 =>
  p.load false 1 t7 H fun t8 =>
  p.call 63 (.fn 73 [] []) [t8] H fun t9 H =>
  p.fadr 1 t3 fun t10 =>
  p.store 1 t10 t9 H fun H =>
  p.fadr 2 t1 fun t11 =>
  p.load false 1 t11 H fun t12 =>
  p.call 48 (.fn 32 [] []) [t12] H fun t13 H =>
  p.fadr 2 t3 fun t14 =>
  p.store 1 t14 t13 H fun H =>
  p.load true 3 t3 H fun t15 =>
  p.store 3 t2 t15 H fun H =>
  p.load true 3 t2 H fun r0 =>
  k r0 H
theorem f67_body (p : Pr β) (n : Nat) (a0 : AV) (H : Heap) (k : AV → Heap → Option β) : evalBody ti0 p n ⟨c67, 16, Go.Proofs.Try.f67.results.toList, o67⟩ [a0] H k = f67 p n a0 H k := by kernel_rfl

/-! 43 loop.example/g00480/laws.toSess -/
noncomputable def f43 (p : Pr β) (n : Nat) (a0 : AV) (H : Heap) (k : AV → Heap → Option β) : Option β :=
  p.box a0 H fun t1 H =>
  p.new [(.sc (.string ⟨#[]⟩)), (.sc (.int .i64 0)), (.sc (.bool false)), (.sc (.int .i64 0)), (.sc (.int .i64 0)), (.sc (.int .i64 0)), .nl, .nl, .nl] H fun t2 H =>
  p.new [(.sc (.string ⟨#[]⟩)), (.sc (.int .i64 0)), (.sc (.bool false)), (.sc (.int .i64 0)), (.sc (.int .i64 0)), (.sc (.int .i64 0)), .nl, .nl, .nl] H fun t3 H =>
  p.fadr 0 t1 fun t4 =>
  p.load false 1 t4 H fun t5 =>
  p.fadr 0 t3 fun t6 =>
  p.store 1 t6 t5 H fun H =>
  p.fadr 1 t1 fun t7 =>
  p.load false 1 t7 H fun t8 =>
  p.fadr 1 t3 fun t9 =>
  p.store 1 t9 t8 H fun H =>
  p.fadr 2 t1 fun t10 =>
  p.load false 1 t10 H fun t11 =>
  p.fadr 2 t3 fun t12 =>
  p.store 1 t12 t11 H fun H =>
  p.fadr 3 t1 fun t13 =>
  p.load false 1 t13 H fun t14 =>
  p.fadr 3 t3 fun t15 =>
  p.store 1 t15 t14 H fun H =>
  p.fadr 4 t1 fun t16 =>
  p.load false 1 t16 H fun t17 =>
  p.fadr 4 t3 fun t18 =>
  p.store 1 t18 t17 H fun H =>
  p.fadr 5 t1 fun t19 =>
  p.load true 3 t19 H fun t20 =>
  p.call 65 (.fn 67 [] []) [t20] H fun t21 H =>
  p.fadr 5 t3 fun t22 =>
  p.store 3 t22 t21 H fun H =>
  p.fadr 8 t1 fun t23 =>
  p.load false 1 t23 H fun t24 =>
  p.call 25 (.fn 16 [] []) [t24] H fun t25 H =>
  p.fadr 8 t3 fun t26 =>
  p.store 1 t26 t25 H fun H =>
  p.load true 9 t3 H fun t27 =>
  p.store 9 t2 t27 H fun H =>
  p.load true 9 t2 H fun r0 =>
  k r0 H
theorem f43_body (p : Pr β) (n : Nat) (a0 : AV) (H : Heap) (k : AV → Heap → Option β) : evalBody ti0 p n ⟨c43, 28, Go.Proofs.Try.f43.results.toList, o43⟩ [a0] H k = f43 p n a0 H k := by kernel_rfl
end Go.Proofs.Ytgidofkechabbaa.Abs
