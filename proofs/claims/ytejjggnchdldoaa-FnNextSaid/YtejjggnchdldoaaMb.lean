/- What the proof needs, part 2: a sound evaluator over trees, the program's functions on it, and what they come to. -/
import Derived.Test.YtejjggnchdldoaaMa
import Derived.Test.YtejjggnchdldoaaProg
import Derived.KernelRfl
import Derived.Test.YtejjggnchdldoaaChecked
import Derived.Laws.BitsLemmas
set_option linter.unusedVariables false
set_option linter.unusedSimpArgs false
set_option maxRecDepth 100000
namespace Go.Proofs.Ytejjggnchdldoaa.Abs
open Go
variable {β : Type}
noncomputable def tis : List (Option TI) := [none,
 none,
 some ⟨false, false, 1, 8, [(.int .i64 0)], 0, [], some .i64, false, false, [2], false⟩,
 some ⟨false, false, 1, 8, [(.int .i64 0)], 0, [], some .i64, false, false, [3], false⟩,
 some ⟨false, false, 1, 1, [(.bool false)], 0, [], none, false, true, [4], false⟩,
 some ⟨false, false, 1, 1, [(.int .u8 0)], 0, [], some .u8, false, false, [5], false⟩,
 some ⟨false, false, 1, 1, [(.int .u8 0)], 0, [], some .u8, false, false, [6], false⟩,
 none,
 none,
 some ⟨false, false, 1, 16, [(.string ⟨#[]⟩)], 0, [], none, true, false, [9], false⟩,
 some ⟨false, false, 1, 16, [(.string ⟨#[]⟩)], 0, [], none, true, false, [10], false⟩,
 some ⟨false, false, 1, 16, [(.string ⟨#[]⟩)], 0, [], none, true, false, [11], false⟩,
 some ⟨false, false, 1, 8, [(.int .u64 0)], 0, [], some .u64, false, false, [12], false⟩,
 none,
 none,
 none,
 none,
 none,
 none,
 none,
 none,
 some ⟨false, false, 1, 4, [(.int .i32 0)], 0, [], some .i32, false, false, [21], false⟩,
 none,
 none,
 none,
 none,
 none,
 none,
 none,
 none,
 none,
 none,
 none,
 none,
 some ⟨false, true, 1, 24, [(.slice none 0 0)], 5, [], none, false, false, [34], false⟩,
 none,
 none,
 none,
 none,
 none,
 none,
 some ⟨false, true, 1, 24, [(.slice none 0 0)], 3, [], none, false, false, [41], false⟩,
 none,
 none,
 none,
 none,
 none,
 none,
 none,
 none,
 none,
 none,
 none,
 none,
 none,
 none,
 none,
 none,
 none,
 none,
 none,
 none,
 none,
 some ⟨false, false, 1, 8, [(.pointer none)], 0, [], none, false, false, [63], false⟩,
 none,
 none,
 none,
 none,
 none,
 none,
 none,
 none,
 some ⟨false, true, 1, 24, [(.slice none 0 0)], 4, [], none, false, false, [72], false⟩,
 none,
 none,
 none,
 none,
 none,
 none,
 none,
 none,
 none,
 none,
 none,
 none,
 none,
 none,
 none,
 none,
 some ⟨true, false, 3, 40, [(.slice none 0 0), (.int .i64 0), (.int .i64 0)], 0, [(0, 34), (1, 3), (2, 3)], none, false, false, [34, 3, 3], false⟩,
 none,
 none,
 none,
 some ⟨false, true, 1, 24, [(.slice none 0 0)], 9, [], none, false, false, [93], false⟩]
noncomputable def bodyOf (f : Func) : Code := match f.body with | some c => c | none => .skip
noncomputable def c13 : Code := bodyOf Go.Proofs.Try.f13
noncomputable def c33 : Code := bodyOf Go.Proofs.Try.f33
noncomputable def c60 : Code := bodyOf Go.Proofs.Try.f60
noncomputable def c36 : Code := bodyOf Go.Proofs.Try.f36
noncomputable def c38 : Code := bodyOf Go.Proofs.Try.f38
noncomputable def c39 : Code := bodyOf Go.Proofs.Try.f39
noncomputable def c19 : Code := bodyOf Go.Proofs.Try.f19
noncomputable def c37 : Code := bodyOf Go.Proofs.Try.f37
noncomputable def c40 : Code := bodyOf Go.Proofs.Try.f40
noncomputable def c41 : Code := bodyOf Go.Proofs.Try.f41
noncomputable def c20 : Code := bodyOf Go.Proofs.Try.f20
noncomputable def c21 : Code := bodyOf Go.Proofs.Try.f21
noncomputable def c22 : Code := bodyOf Go.Proofs.Try.f22
noncomputable def c42 : Code := bodyOf Go.Proofs.Try.f42
noncomputable def c23 : Code := bodyOf Go.Proofs.Try.f23
noncomputable def c5 : Code := bodyOf Go.Proofs.Try.f5
noncomputable def o13 : List (Nat × PI) := []
noncomputable def o33 : List (Nat × PI) := []
noncomputable def o60 : List (Nat × PI) := [(2, PI.of [0, 1, 2, 3, 4, 5, 6, 7, 8, 9, 10, 11, 12]), (3, PI.of [0, 1, 2, 3, 4, 5, 6, 7, 8, 9]), (4, PI.of [0, 1, 2, 3, 4, 5, 6, 7, 8, 9, 10, 11, 12, 13, 14])]
noncomputable def o36 : List (Nat × PI) := []
noncomputable def o38 : List (Nat × PI) := []
noncomputable def o39 : List (Nat × PI) := []
noncomputable def o19 : List (Nat × PI) := []
noncomputable def o37 : List (Nat × PI) := []
noncomputable def o40 : List (Nat × PI) := []
noncomputable def o41 : List (Nat × PI) := []
noncomputable def o20 : List (Nat × PI) := []
noncomputable def o21 : List (Nat × PI) := []
noncomputable def o22 : List (Nat × PI) := []
noncomputable def o42 : List (Nat × PI) := []
noncomputable def o23 : List (Nat × PI) := []
noncomputable def o5 : List (Nat × PI) := []
abbrev uu : AV := .sc undef
noncomputable def tzG : Nat → List AV → Tm
 | _, [] => []
 | i, x :: l => (i, x) :: tzG (i + 1) l
noncomputable def tz (l : List AV) : Tm := tzG 0 l
noncomputable def tf : Nat → Nat → (Nat → AV) → Tm
 | 0, _, _ => []
 | n + 1, i, t => (i, t i) :: tf n (i + 1) t
noncomputable def ut : Nat → AV := fun _ => uu
noncomputable def ud : List (Nat × AV) → (Nat → AV) → Nat → AV
 | [], t, i => t i
 | (j, v) :: r, t, i => match Nat.beq j i with
  | true => v
  | false => ud r t i
noncomputable def ti0 (t : Nat) : Option TI := (tis[t]?).getD none
noncomputable def cd : Code → List Nat → Code
 | c, [] => c
 | .seq a b, i :: p => cd (if i = 0 then a else b) p
 | .cond _ a b, i :: p => cd (if i = 1 then a else b) p
 | .block _ a, _ :: p => cd a p
 | .loop a, _ :: p => cd a p
 | c, _ => c
noncomputable def f13 (p : Pr β) (n : Nat) (a0 : AV) (H : Heap) (k : AV → Heap → Option β) : Option β :=
 p.len a0 fun t4 =>
 p.bin .gtr t4 (.sc (.int .i64 1048576)) fun t5 =>
 k t5 H
theorem f13_body (p : Pr β) (n : Nat) (a0 : AV) (H : Heap) (k : AV → Heap → Option β) : evalBody ti0 p n ⟨c13, 6, Go.Proofs.Try.f13.results.toList, o13⟩ [a0] H k = f13 p n a0 H k := by kernel_rfl
noncomputable def f33_l0 (p : Pr β) (n : Nat)  (k : AV → Heap → Option β) : Nat → AV → AV → AV → Heap → Option β
 | 0, _, _, _, _ => none
 | m + 1, t0, t3, t4, H => p.len t0 fun t10 =>
   p.bin .lss t4 t10 fun t11 =>
   p.guard t11 true H (fun k' => k' t4 H) fun t13 H =>
   p.guard t11 true H (fun k' => p.bin .lss t13 (.sc (.int .i64 4000)) fun t' => k' t' H) fun t14 H =>
   p.pick t11 t14 (.sc (.bool false)) fun t15 =>
   p.cond t15
   (p.bin .mul t3 (.sc (.int .i64 137)) fun t19 =>
   p.iadr 1 t0 t4 fun t22 =>
   p.load false 1 t22 H fun t23 =>
   p.cvI .i64 t23 fun t24 =>
   p.bin .add t19 t24 fun t25 =>
   p.bin .add t25 (.sc (.int .i64 11)) fun t26 =>
   p.bin .and t26 (.sc (.int .i64 1073741823)) fun t27 =>
   p.bin .add t4 (.sc (.int .i64 1)) fun t17 =>
   f33_l0 p n  k m t0 t27 t17 H)
   (p.fill [.nl, (.sc (.int .i64 0)), (.sc (.int .i64 0))] [(0, 1, t0), (2, 1, t3)] fun ct30 =>
   p.box (.agg ct30) H fun t31 H =>
   k t31 H)
noncomputable def f33 (p : Pr β) (n : Nat) (a0 : AV) (H : Heap) (k : AV → Heap → Option β) : Option β :=
 p.len a0 fun t6 =>
 p.bin .add (.sc (.int .i64 128361)) t6 fun t7 =>
 f33_l0 p n  k n a0 t7 (.sc (.int .i64 0)) H
noncomputable def f33_L0 (p : Pr β) (n : Nat)  (k : AV → Heap → Option β) (m : Nat) (tm : Tm) (H : Heap) : Option β :=
 iterC 32 (fun tm H k => evalCode ti0 p o33 32 n (cd c33 [1, 1, 0, 1, 0, 0]) tm H k) (blkK 0 (seqK (fun tm H => evalCode ti0 p o33 32 n (cd c33 [1, 1, 1]) tm H (endK ti0 p Go.Proofs.Try.f33.results.toList k)) (endK ti0 p Go.Proofs.Try.f33.results.toList k))) m tm H
theorem f33_L0_step (p : Pr β) (n : Nat)  (k : AV → Heap → Option β) (m0 : Nat) (t : Nat → AV) (H : Heap) : f33_L0 p n  k (m0 + 1) (tf 32 0 t) H =
 p.len (t 0) fun t10 =>
 p.bin .lss (t 4) t10 fun t11 =>
 p.guard t11 true H (fun k' => k' (t 4) H) fun t13 H =>
 p.guard t11 true H (fun k' => p.bin .lss t13 (.sc (.int .i64 4000)) fun t' => k' t' H) fun t14 H =>
 p.pick t11 t14 (.sc (.bool false)) fun t15 =>
 p.cond t15
 (p.bin .mul (t 3) (.sc (.int .i64 137)) fun t19 =>
 p.iadr 1 (t 0) (t 4) fun t22 =>
 p.load false 1 t22 H fun t23 =>
 p.cvI .i64 t23 fun t24 =>
 p.bin .add t19 t24 fun t25 =>
 p.bin .add t25 (.sc (.int .i64 11)) fun t26 =>
 p.bin .and t26 (.sc (.int .i64 1073741823)) fun t27 =>
 p.bin .add (t 4) (.sc (.int .i64 1)) fun t17 =>
 f33_L0 p n  k m0 (tf 32 0 (ud [(3, t27), (4, t17), (8, (t 4)), (9, (t 0)), (10, t10), (11, t11), (12, t11), (13, t13), (14, t14), (15, t15), (16, (t 4)), (17, t17), (18, (t 3)), (19, t19), (20, (t 0)), (21, (t 4)), (22, t22), (23, t23), (24, t24), (25, t25), (26, t26), (27, t27)] t)) H)
 (p.fill [.nl, (.sc (.int .i64 0)), (.sc (.int .i64 0))] [(0, 1, (t 0)), (2, 1, (t 3))] fun ct30 =>
 p.box (.agg ct30) H fun t31 H =>
 k t31 H) := by kernel_rfl
theorem f33_l0_eq (p : Pr β) (n : Nat)  (k : AV → Heap → Option β)   (m0 : Nat) : ∀ (t : Nat → AV) (H : Heap), f33_L0 p n  k m0 (tf 32 0 t) H = f33_l0 p n  k m0 (t 0) (t 3) (t 4) H := by
 induction m0 with
 | zero => intros; rfl
 | succ m0 ih =>
  intro t H
  rw [f33_L0_step]
  simp only [ih]
  kernel_rfl
theorem f33_raw (p : Pr β) (n : Nat) (a0 : AV) (H : Heap) (k : AV → Heap → Option β) : evalBody ti0 p n ⟨c33, 32, Go.Proofs.Try.f33.results.toList, o33⟩ [a0] H k =
 p.len a0 fun t6 =>
 p.bin .add (.sc (.int .i64 128361)) t6 fun t7 =>
 f33_L0 p n  k n (tf 32 0 (ud [(0, a0), (2, (.sc (.pointer none))), (3, t7), (4, (.sc (.int .i64 0))), (5, a0), (6, t6), (7, t7)] ut)) H := by kernel_rfl
theorem f33_body (p : Pr β) (n : Nat) (a0 : AV) (H : Heap) (k : AV → Heap → Option β) : evalBody ti0 p n ⟨c33, 32, Go.Proofs.Try.f33.results.toList, o33⟩ [a0] H k = f33 p n a0 H k := by
 rw [f33_raw]
 simp only [f33_l0_eq]
 kernel_rfl
noncomputable def f60 (p : Pr β) (n : Nat) (a0 : AV) (H : Heap) (k : AV → Heap → Option β) : Option β :=
 p.nil a0 fun t6 =>
 p.fadr 2 t6 fun t7 =>
 p.load false 1 t7 H fun t8 =>
 p.bin .mul t8 (.sc (.int .i64 6364136223846793005)) fun t9 =>
 p.bin .add t9 (.sc (.int .i64 1442695040888963407)) fun t10 =>
 p.nil a0 fun t11 =>
 p.fadr 2 t11 fun t12 =>
 p.store 1 t12 t10 H fun H =>
 p.nil a0 fun t14 =>
 p.fadr 2 t14 fun t15 =>
 p.load false 1 t15 H fun t16 =>
 p.bin .shr t16 (.sc (.int .u64 33)) fun t17 =>
 p.nil a0 fun t19 =>
 p.fadr 2 t19 fun t20 =>
 p.load false 1 t20 H fun t21 =>
 p.bin .shr t21 (.sc (.int .u64 47)) fun t22 =>
 p.bin .xor t17 t22 fun t23 =>
 p.bin .and t23 (.sc (.int .i64 255)) fun t24 =>
 p.nil a0 fun t26 =>
 p.fadr 1 t26 fun t27 =>
 p.load false 1 t27 H fun t28 =>
 p.nil a0 fun t30 =>
 p.fadr 0 t30 fun t31 =>
 p.load false 1 t31 H fun t32 =>
 p.len t32 fun t33 =>
 p.bin .lss t28 t33 fun t34 =>
 letJ (fun (t3 : AV) (H : Heap) => k t3 H) fun j1 =>
 p.cond t34
 (p.nil a0 fun t37 =>
 p.fadr 0 t37 fun t38 =>
 p.load false 1 t38 H fun t39 =>
 p.nil a0 fun t41 =>
 p.fadr 1 t41 fun t42 =>
 p.load false 1 t42 H fun t43 =>
 p.iadr 1 t39 t43 fun t44 =>
 p.load false 1 t44 H fun t45 =>
 p.cvI .i64 t45 fun t46 =>
 p.bin .add t24 t46 fun t47 =>
 p.bin .and t47 (.sc (.int .i64 255)) fun t48 =>
 p.nil a0 fun t51 =>
 p.fadr 1 t51 fun t52 =>
 p.load false 1 t52 H fun t53 =>
 p.bin .add t53 (.sc (.int .i64 1)) fun t54 =>
 p.nil a0 fun t55 =>
 p.fadr 1 t55 fun t56 =>
 p.store 1 t56 t54 H fun H =>
 j1 t48 H)
 (j1 t24 H)
theorem f60_body (p : Pr β) (n : Nat) (a0 : AV) (H : Heap) (k : AV → Heap → Option β) : evalBody ti0 p n ⟨c60, 58, Go.Proofs.Try.f60.results.toList, o60⟩ [a0] H k = f60 p n a0 H k := by kernel_rfl
noncomputable def f36 (p : Pr β) (n : Nat) (a0 a1 : AV) (H : Heap) (k : AV → Heap → Option β) : Option β :=
 p.bin .leq a1 (.sc (.int .i64 0)) fun t9 =>
 p.cond t9
 (k (.sc (.int .i64 0)) H)
 (p.bin .leq a1 (.sc (.int .i64 256)) fun t11 =>
 p.cond t11
 (p.call 3 (.fn 60 [] []) [a0] H fun t13 H =>
 p.bin .rem t13 a1 fun t15 =>
 k t15 H)
 (p.call 3 (.fn 60 [] []) [a0] H fun t17 H =>
 p.call 3 (.fn 60 [] []) [a0] H fun t19 H =>
 p.call 3 (.fn 60 [] []) [a0] H fun t21 H =>
 p.bin .mul t17 (.sc (.int .i64 65536)) fun t23 =>
 p.bin .mul t19 (.sc (.int .i64 256)) fun t25 =>
 p.bin .add t23 t25 fun t26 =>
 p.bin .add t26 t21 fun t28 =>
 p.bin .rem t28 a1 fun t30 =>
 k t30 H))
theorem f36_body (p : Pr β) (n : Nat) (a0 a1 : AV) (H : Heap) (k : AV → Heap → Option β) : evalBody ti0 p n ⟨c36, 31, Go.Proofs.Try.f36.results.toList, o36⟩ [a0, a1] H k = f36 p n a0 a1 H k := by kernel_rfl
noncomputable def f38 (p : Pr β) (n : Nat) (a0 a1 : AV) (H : Heap) (k : AV → Heap → Option β) : Option β :=
 p.len a1 fun t8 =>
 p.call 3 (.fn 36 [] []) [a0, t8] H fun t9 H =>
 p.iadr 1 a1 t9 fun t10 =>
 p.load false 1 t10 H fun t11 =>
 k t11 H
theorem f38_body (p : Pr β) (n : Nat) (a0 a1 : AV) (H : Heap) (k : AV → Heap → Option β) : evalBody ti0 p n ⟨c38, 12, Go.Proofs.Try.f38.results.toList, o38⟩ [a0, a1] H k = f38 p n a0 a1 H k := by kernel_rfl
noncomputable def f39_l0 (p : Pr β) (n : Nat)  (k : AV → Heap → Option β) : Nat → AV → AV → AV → Heap → Option β
 | 0, _, _, _, _ => none
 | m + 1, t0, t3, t4, H => p.bin .gtr t4 (.sc (.int .i64 0)) fun t9 =>
   p.cond t9
   (p.fill [(.sc (.int .i64 0)), (.sc (.int .i64 0)), (.sc (.int .i64 0)), (.sc (.int .i64 0)), (.sc (.int .i64 0)), (.sc (.int .i64 0)), (.sc (.int .i64 0)), (.sc (.int .i64 0)), (.sc (.int .i64 0))] [(0, 1, (.sc (.int .i64 1))), (1, 1, (.sc (.int .i64 2))), (2, 1, (.sc (.int .i64 3))), (3, 1, (.sc (.int .i64 4))), (4, 1, (.sc (.int .i64 65535))), (5, 1, (.sc (.int .i64 65534))), (6, 1, (.sc (.int .i64 0))), (7, 1, (.sc (.int .i64 (-1)))), (8, 1, (.sc (.int .i64 65536)))] fun ct14 => p.newSl 9 1 ct14 true H fun t14 H =>
   p.call 3 (.fn 38 [] []) [t0, t14] H fun t15 H =>
   p.fill [(.sc (.int .i64 0))] [(0, 1, t15)] fun ct16 => p.newSl 1 1 ct16 true H fun t16 H =>
   p.app 1 8 t3 t16 H fun t17 H =>
   p.bin .sub t4 (.sc (.int .i64 1)) fun t11 =>
   f39_l0 p n  k m t0 t17 t11 H)
   (k t3 H)
noncomputable def f39 (p : Pr β) (n : Nat) (a0 : AV) (H : Heap) (k : AV → Heap → Option β) : Option β :=
 p.call 3 (.fn 36 [] []) [a0, (.sc (.int .i64 8))] H fun t7 H =>
 f39_l0 p n  k n a0 .nl t7 H
noncomputable def f39_L0 (p : Pr β) (n : Nat)  (k : AV → Heap → Option β) (m : Nat) (tm : Tm) (H : Heap) : Option β :=
 iterC 19 (fun tm H k => evalCode ti0 p o39 19 n (cd c39 [1, 1, 0, 1, 0, 0]) tm H k) (blkK 0 (seqK (fun tm H => evalCode ti0 p o39 19 n (cd c39 [1, 1, 1]) tm H (endK ti0 p Go.Proofs.Try.f39.results.toList k)) (endK ti0 p Go.Proofs.Try.f39.results.toList k))) m tm H
theorem f39_L0_step (p : Pr β) (n : Nat)  (k : AV → Heap → Option β) (m0 : Nat) (t : Nat → AV) (H : Heap) : f39_L0 p n  k (m0 + 1) (tf 19 0 t) H =
 p.bin .gtr (t 4) (.sc (.int .i64 0)) fun t9 =>
 p.cond t9
 (p.fill [(.sc (.int .i64 0)), (.sc (.int .i64 0)), (.sc (.int .i64 0)), (.sc (.int .i64 0)), (.sc (.int .i64 0)), (.sc (.int .i64 0)), (.sc (.int .i64 0)), (.sc (.int .i64 0)), (.sc (.int .i64 0))] [(0, 1, (.sc (.int .i64 1))), (1, 1, (.sc (.int .i64 2))), (2, 1, (.sc (.int .i64 3))), (3, 1, (.sc (.int .i64 4))), (4, 1, (.sc (.int .i64 65535))), (5, 1, (.sc (.int .i64 65534))), (6, 1, (.sc (.int .i64 0))), (7, 1, (.sc (.int .i64 (-1)))), (8, 1, (.sc (.int .i64 65536)))] fun ct14 => p.newSl 9 1 ct14 true H fun t14 H =>
 p.call 3 (.fn 38 [] []) [(t 0), t14] H fun t15 H =>
 p.fill [(.sc (.int .i64 0))] [(0, 1, t15)] fun ct16 => p.newSl 1 1 ct16 true H fun t16 H =>
 p.app 1 8 (t 3) t16 H fun t17 H =>
 p.bin .sub (t 4) (.sc (.int .i64 1)) fun t11 =>
 f39_L0 p n  k m0 (tf 19 0 (ud [(3, t17), (4, t11), (8, (t 4)), (9, t9), (10, (t 4)), (11, t11), (12, (t 3)), (13, (t 0)), (14, t14), (15, t15), (16, t16), (17, t17)] t)) H)
 (k (t 3) H) := by kernel_rfl
theorem f39_l0_eq (p : Pr β) (n : Nat)  (k : AV → Heap → Option β)   (m0 : Nat) : ∀ (t : Nat → AV) (H : Heap), f39_L0 p n  k m0 (tf 19 0 t) H = f39_l0 p n  k m0 (t 0) (t 3) (t 4) H := by
 induction m0 with
 | zero => intros; rfl
 | succ m0 ih =>
  intro t H
  rw [f39_L0_step]
  simp only [ih]
  kernel_rfl
theorem f39_raw (p : Pr β) (n : Nat) (a0 : AV) (H : Heap) (k : AV → Heap → Option β) : evalBody ti0 p n ⟨c39, 19, Go.Proofs.Try.f39.results.toList, o39⟩ [a0] H k =
 p.call 3 (.fn 36 [] []) [a0, (.sc (.int .i64 8))] H fun t7 H =>
 f39_L0 p n  k n (tf 19 0 (ud [(0, a0), (2, .nl), (3, .nl), (4, t7), (5, .nl), (6, a0), (7, t7)] ut)) H := by kernel_rfl
theorem f39_body (p : Pr β) (n : Nat) (a0 : AV) (H : Heap) (k : AV → Heap → Option β) : evalBody ti0 p n ⟨c39, 19, Go.Proofs.Try.f39.results.toList, o39⟩ [a0] H k = f39 p n a0 H k := by
 rw [f39_raw]
 simp only [f39_l0_eq]
 kernel_rfl
noncomputable def f19 (p : Pr β) (n : Nat) (a0 : AV) (H : Heap) (k : AV → Heap → Option β) : Option β :=
 p.call 63 (.fn 33 [] []) [a0] H fun t6 H =>
 p.fill [(.sc (.int .i64 0)), (.sc (.int .i64 0)), (.sc (.int .i64 0)), (.sc (.int .i64 0)), (.sc (.int .i64 0)), (.sc (.int .i64 0)), (.sc (.int .i64 0)), (.sc (.int .i64 0)), (.sc (.int .i64 0))] [(0, 1, (.sc (.int .i64 0))), (1, 1, (.sc (.int .i64 1))), (2, 1, (.sc (.int .i64 2))), (3, 1, (.sc (.int .i64 3))), (4, 1, (.sc (.int .i64 65533))), (5, 1, (.sc (.int .i64 65534))), (6, 1, (.sc (.int .i64 65535))), (7, 1, (.sc (.int .i64 65536))), (8, 1, (.sc (.int .i64 (-1))))] fun ct8 => p.newSl 9 1 ct8 true H fun t8 H =>
 p.call 3 (.fn 38 [] []) [t6, t8] H fun t9 H =>
 p.call 41 (.fn 39 [] []) [t6] H fun t11 H =>
 k (packA [t9, t11]) H
theorem f19_body (p : Pr β) (n : Nat) (a0 : AV) (H : Heap) (k : AV → Heap → Option β) : evalBody ti0 p n ⟨c19, 12, Go.Proofs.Try.f19.results.toList, o19⟩ [a0] H k = f19 p n a0 H k := by kernel_rfl
noncomputable def f37 (p : Pr β) (n : Nat) (a0 a1 a2 : AV) (H : Heap) (k : AV → Heap → Option β) : Option β :=
 p.bin .geq a0 a1 fun t9 =>
 p.guard t9 true H (fun k' => k' a0 H) fun t11 H =>
 p.guard t9 true H (fun k' => k' a2 H) fun t12 H =>
 p.guard t9 true H (fun k' => p.bin .leq t11 t12 fun t' => k' t' H) fun t13 H =>
 p.pick t9 t13 (.sc (.bool false)) fun t14 =>
 k t14 H
theorem f37_body (p : Pr β) (n : Nat) (a0 a1 a2 : AV) (H : Heap) (k : AV → Heap → Option β) : evalBody ti0 p n ⟨c37, 15, Go.Proofs.Try.f37.results.toList, o37⟩ [a0, a1, a2] H k = f37 p n a0 a1 a2 H k := by kernel_rfl
noncomputable def f40 (p : Pr β) (n : Nat) (a0 : AV) (H : Heap) (k : AV → Heap → Option β) : Option β :=
 p.call 4 (.fn 37 [] []) [a0, (.sc (.int .i64 0)), (.sc (.int .i64 65535))] H fun t4 H =>
 k t4 H
theorem f40_body (p : Pr β) (n : Nat) (a0 : AV) (H : Heap) (k : AV → Heap → Option β) : evalBody ti0 p n ⟨c40, 5, Go.Proofs.Try.f40.results.toList, o40⟩ [a0] H k = f40 p n a0 H k := by kernel_rfl
noncomputable def f41 (p : Pr β) (n : Nat) (a0 : AV) (H : Heap) (k : AV → Heap → Option β) : Option β :=
 p.call 4 (.fn 37 [] []) [a0, (.sc (.int .i64 1)), (.sc (.int .i64 65535))] H fun t4 H =>
 k t4 H
theorem f41_body (p : Pr β) (n : Nat) (a0 : AV) (H : Heap) (k : AV → Heap → Option β) : evalBody ti0 p n ⟨c41, 5, Go.Proofs.Try.f41.results.toList, o41⟩ [a0] H k = f41 p n a0 H k := by kernel_rfl
noncomputable def f20_l1 (p : Pr β) (n : Nat)  (k : AV → Heap → Option β) : Nat → AV → AV → AV → Heap → Option β
 | 0, _, _, _, _ => none
 | m + 1, t6, t9, t27, H => p.bin .lss t27 (.sc (.int .i64 65535)) fun t28 =>
   p.cond t28
   (p.bin .add t9 (.sc (.int .i64 1)) fun t30 =>
   p.bin .gtr t30 (.sc (.int .i64 65535)) fun t32 =>
   letJ (fun (t6 t9 t27 : AV) (H : Heap) => p.iadr 1 t6 t9 fun t35 =>
   p.load false 1 t35 H fun t36 =>
   p.un .not t36 fun t37 =>
   p.cond t37
   (k (packA [t9, (.sc (.bool true))]) H)
   (p.bin .add t27 (.sc (.int .i64 1)) fun t39 =>
   f20_l1 p n  k m t6 t9 t39 H)) fun j1 =>
   p.cond t32
   (j1 t6 (.sc (.int .i64 1)) t27 H)
   (j1 t6 t30 t27 H))
   (k (packA [(.sc (.int .i64 0)), (.sc (.bool false))]) H)
noncomputable def f20_l0 (p : Pr β) (n : Nat)  (k : AV → Heap → Option β) : Nat → AV → AV → AV → AV → AV → Heap → Option β
 | 0, _, _, _, _, _, _ => none
 | m + 1, t0, t6, t14, t15, t16, H => p.bin .lss t16 t15 fun t17 =>
   p.cond t17
   (p.iadr 1 t14 t16 fun t18 =>
   p.load false 1 t18 H fun t19 =>
   p.call 4 (.fn 41 [] []) [t19] H fun t21 H =>
   p.cond t21
   (p.iadr 1 t6 t19 fun t24 =>
   p.store 1 t24 (.sc (.bool true)) H fun H =>
   p.bin .add t16 (.sc (.int .i64 1)) fun t25 =>
   f20_l0 p n  k m t0 t6 t14 t15 t25 H)
   (p.bin .add t16 (.sc (.int .i64 1)) fun t25 =>
   f20_l0 p n  k m t0 t6 t14 t15 t25 H))
   (f20_l1 p n  k n t6 t0 (.sc (.int .i64 0)) H)
noncomputable def f20 (p : Pr β) (n : Nat) (a0 a1 : AV) (H : Heap) (k : AV → Heap → Option β) : Option β :=
 p.call 4 (.fn 40 [] []) [a0] H fun t11 H =>
 p.un .not t11 fun t12 =>
 p.cond t12
 (k (packA [(.sc (.int .i64 0)), (.sc (.bool false))]) H)
 (p.make 1 1 [(.sc (.bool false))] (.sc (.int .i64 65536)) (.sc (.int .i64 65536)) H fun t13 H =>
 p.len a1 fun t15 =>
 f20_l0 p n  k n a0 t13 a1 t15 (.sc (.int .i64 0)) H)
noncomputable def f20_L1 (p : Pr β) (n : Nat)  (k : AV → Heap → Option β) (m : Nat) (tm : Tm) (H : Heap) : Option β :=
 iterC 40 (fun tm H k => evalCode ti0 p o20 40 n (cd c20 [1, 1, 1, 1, 1, 0, 1, 0, 0]) tm H k) (blkK 2 (seqK (fun tm H => evalCode ti0 p o20 40 n (cd c20 [1, 1, 1, 1, 1, 1]) tm H (endK ti0 p Go.Proofs.Try.f20.results.toList k)) (endK ti0 p Go.Proofs.Try.f20.results.toList k))) m tm H
noncomputable def f20_L0 (p : Pr β) (n : Nat)  (k : AV → Heap → Option β) (m : Nat) (tm : Tm) (H : Heap) : Option β :=
 iterC 40 (fun tm H k => evalCode ti0 p o20 40 n (cd c20 [1, 1, 1, 0, 1, 0, 0]) tm H k) (blkK 0 (seqK (fun tm H => evalCode ti0 p o20 40 n (cd c20 [1, 1, 1, 1]) tm H (endK ti0 p Go.Proofs.Try.f20.results.toList k)) (endK ti0 p Go.Proofs.Try.f20.results.toList k))) m tm H
theorem f20_L1_step (p : Pr β) (n : Nat)  (k : AV → Heap → Option β) (m1 : Nat) (t : Nat → AV) (H : Heap) : f20_L1 p n  k (m1 + 1) (tf 40 0 t) H =
 p.bin .lss (t 27) (.sc (.int .i64 65535)) fun t28 =>
 p.cond t28
 (p.bin .add (t 9) (.sc (.int .i64 1)) fun t30 =>
 p.bin .gtr t30 (.sc (.int .i64 65535)) fun t32 =>
 letJ (fun (t : Nat → AV) (H : Heap) => p.iadr 1 (t 6) (t 9) fun t35 =>
 p.load false 1 t35 H fun t36 =>
 p.un .not t36 fun t37 =>
 p.cond t37
 (k (packA [(t 9), (.sc (.bool true))]) H)
 (p.bin .add (t 27) (.sc (.int .i64 1)) fun t39 =>
 f20_L1 p n  k m1 (tf 40 0 (ud [(27, t39), (33, (t 6)), (34, (t 9)), (35, t35), (36, t36), (37, t37), (39, t39)] t)) H)) fun j1 =>
 p.cond t32
 (j1 (ud [(9, (.sc (.int .i64 1))), (28, t28), (29, (t 9)), (30, t30), (31, t30), (32, t32)] t) H)
 (j1 (ud [(9, t30), (28, t28), (29, (t 9)), (30, t30), (31, t30), (32, t32)] t) H))
 (k (packA [(.sc (.int .i64 0)), (.sc (.bool false))]) H) := by kernel_rfl
theorem f20_l1_eq (p : Pr β) (n : Nat)  (k : AV → Heap → Option β)   (m1 : Nat) : ∀ (t : Nat → AV) (H : Heap), f20_L1 p n  k m1 (tf 40 0 t) H = f20_l1 p n  k m1 (t 6) (t 9) (t 27) H := by
 induction m1 with
 | zero => intros; rfl
 | succ m1 ih =>
  intro t H
  rw [f20_L1_step]
  simp only [ih]
  kernel_rfl
theorem f20_L0_step (p : Pr β) (n : Nat)  (k : AV → Heap → Option β) (m0 : Nat) (t : Nat → AV) (H : Heap) : f20_L0 p n  k (m0 + 1) (tf 40 0 t) H =
 p.bin .lss (t 16) (t 15) fun t17 =>
 p.cond t17
 (p.iadr 1 (t 14) (t 16) fun t18 =>
 p.load false 1 t18 H fun t19 =>
 p.call 4 (.fn 41 [] []) [t19] H fun t21 H =>
 p.cond t21
 (p.iadr 1 (t 6) t19 fun t24 =>
 p.store 1 t24 (.sc (.bool true)) H fun H =>
 p.bin .add (t 16) (.sc (.int .i64 1)) fun t25 =>
 f20_L0 p n  k m0 (tf 40 0 (ud [(8, t19), (16, t25), (17, t17), (18, t18), (19, t19), (20, t19), (21, t21), (22, (t 6)), (23, t19), (24, t24), (25, t25)] t)) H)
 (p.bin .add (t 16) (.sc (.int .i64 1)) fun t25 =>
 f20_L0 p n  k m0 (tf 40 0 (ud [(8, t19), (16, t25), (17, t17), (18, t18), (19, t19), (20, t19), (21, t21), (25, t25)] t)) H))
 (f20_L1 p n  k n (tf 40 0 (ud [(9, (t 0)), (17, t17), (26, (t 0)), (27, (.sc (.int .i64 0)))] t)) H) := by kernel_rfl
theorem f20_l0_eq (p : Pr β) (n : Nat)  (k : AV → Heap → Option β)   (m0 : Nat) : ∀ (t : Nat → AV) (H : Heap), f20_L0 p n  k m0 (tf 40 0 t) H = f20_l0 p n  k m0 (t 0) (t 6) (t 14) (t 15) (t 16) H := by
 induction m0 with
 | zero => intros; rfl
 | succ m0 ih =>
  intro t H
  rw [f20_L0_step]
  simp only [ih, f20_l1_eq p n  k  ]
  kernel_rfl
theorem f20_raw (p : Pr β) (n : Nat) (a0 a1 : AV) (H : Heap) (k : AV → Heap → Option β) : evalBody ti0 p n ⟨c20, 40, Go.Proofs.Try.f20.results.toList, o20⟩ [a0, a1] H k =
 p.call 4 (.fn 40 [] []) [a0] H fun t11 H =>
 p.un .not t11 fun t12 =>
 p.cond t12
 (k (packA [(.sc (.int .i64 0)), (.sc (.bool false))]) H)
 (p.make 1 1 [(.sc (.bool false))] (.sc (.int .i64 65536)) (.sc (.int .i64 65536)) H fun t13 H =>
 p.len a1 fun t15 =>
 f20_L0 p n  k n (tf 40 0 (ud [(0, a0), (1, a1), (4, (.sc (.int .i64 0))), (5, (.sc (.bool false))), (6, t13), (10, a0), (11, t11), (12, t12), (13, t13), (14, a1), (15, t15), (16, (.sc (.int .i64 0)))] ut)) H) := by kernel_rfl
theorem f20_body (p : Pr β) (n : Nat) (a0 a1 : AV) (H : Heap) (k : AV → Heap → Option β) : evalBody ti0 p n ⟨c20, 40, Go.Proofs.Try.f20.results.toList, o20⟩ [a0, a1] H k = f20 p n a0 a1 H k := by
 rw [f20_raw]
 simp only [f20_l1_eq, f20_l0_eq]
 kernel_rfl
noncomputable def f21 (p : Pr β) (n : Nat) (a0 : AV) (H : Heap) (k : AV → Heap → Option β) : Option β :=
 p.call 63 (.fn 33 [] []) [a0] H fun t6 H =>
 p.fill [(.sc (.int .i64 0)), (.sc (.int .i64 0)), (.sc (.int .i64 0)), (.sc (.int .i64 0)), (.sc (.int .i64 0)), (.sc (.int .i64 0))] [(0, 1, (.sc (.int .i64 0))), (1, 1, (.sc (.int .i64 1))), (2, 1, (.sc (.int .i64 5))), (3, 1, (.sc (.int .i64 65535))), (4, 1, (.sc (.int .i64 65536))), (5, 1, (.sc (.int .i64 (-1))))] fun ct8 => p.newSl 6 1 ct8 true H fun t8 H =>
 p.call 3 (.fn 38 [] []) [t6, t8] H fun t9 H =>
 p.fill [(.sc (.int .i64 0)), (.sc (.int .i64 0)), (.sc (.int .i64 0)), (.sc (.int .i64 0)), (.sc (.int .i64 0)), (.sc (.int .i64 0))] [(0, 1, (.sc (.int .i64 0))), (1, 1, (.sc (.int .i64 1))), (2, 1, (.sc (.int .i64 2))), (3, 1, (.sc (.int .i64 5))), (4, 1, (.sc (.int .i64 65535))), (5, 1, (.sc (.int .i64 65536)))] fun ct11 => p.newSl 6 1 ct11 true H fun t11 H =>
 p.call 3 (.fn 38 [] []) [t6, t11] H fun t12 H =>
 k (packA [t9, t12]) H
theorem f21_body (p : Pr β) (n : Nat) (a0 : AV) (H : Heap) (k : AV → Heap → Option β) : evalBody ti0 p n ⟨c21, 13, Go.Proofs.Try.f21.results.toList, o21⟩ [a0] H k = f21 p n a0 H k := by kernel_rfl
noncomputable def f22 (p : Pr β) (n : Nat) (a0 a1 : AV) (H : Heap) (k : AV → Heap → Option β) : Option β :=
 p.call 4 (.fn 40 [] []) [a0] H fun t6 H =>
 p.un .not t6 fun t7 =>
 p.guard t7 false H (fun k' => k' a1 H) fun t9 H =>
 p.guard t7 false H (fun k' => p.call 4 (.fn 41 [] []) [t9] H fun t' H => k' t' H) fun t10 H =>
 p.guard t7 false H (fun k' => p.un .not t10 fun t' => k' t' H) fun t11 H =>
 p.pick t7 (.sc (.bool true)) t11 fun t12 =>
 p.cond t12
 (k (.sc (.int .i64 (-1))) H)
 (p.bin .lss a0 a1 fun t15 =>
 p.cond t15
 (p.bin .sub a1 a0 fun t18 =>
 k t18 H)
 (p.bin .sub a1 a0 fun t21 =>
 p.bin .add t21 (.sc (.int .i64 65535)) fun t22 =>
 k t22 H))
theorem f22_body (p : Pr β) (n : Nat) (a0 a1 : AV) (H : Heap) (k : AV → Heap → Option β) : evalBody ti0 p n ⟨c22, 23, Go.Proofs.Try.f22.results.toList, o22⟩ [a0, a1] H k = f22 p n a0 a1 H k := by kernel_rfl
noncomputable def f42 (p : Pr β) (n : Nat) (a0 a1 a2 : AV) (H : Heap) (k : AV → Heap → Option β) : Option β :=
 p.bin .geq a0 a1 fun t9 =>
 p.guard t9 true H (fun k' => k' a0 H) fun t11 H =>
 p.guard t9 true H (fun k' => k' a2 H) fun t12 H =>
 p.guard t9 true H (fun k' => p.bin .leq t11 t12 fun t' => k' t' H) fun t13 H =>
 p.pick t9 t13 (.sc (.bool false)) fun t14 =>
 k t14 H
theorem f42_body (p : Pr β) (n : Nat) (a0 a1 a2 : AV) (H : Heap) (k : AV → Heap → Option β) : evalBody ti0 p n ⟨c42, 15, Go.Proofs.Try.f42.results.toList, o42⟩ [a0, a1, a2] H k = f42 p n a0 a1 a2 H k := by kernel_rfl
noncomputable def f23 (p : Pr β) (n : Nat) (a0 a1 : AV) (H : Heap) (k : AV → Heap → Option β) : Option β :=
 p.call 4 (.fn 42 [] []) [a0, (.sc (.int .i64 0)), (.sc (.int .i64 65535))] H fun t6 H =>
 p.un .not t6 fun t7 =>
 p.guard t7 false H (fun k' => k' a1 H) fun t9 H =>
 p.guard t7 false H (fun k' => p.call 4 (.fn 42 [] []) [t9, (.sc (.int .i64 1)), (.sc (.int .i64 65535))] H fun t' H => k' t' H) fun t10 H =>
 p.guard t7 false H (fun k' => p.un .not t10 fun t' => k' t' H) fun t11 H =>
 p.pick t7 (.sc (.bool true)) t11 fun t12 =>
 p.cond t12
 (k (.sc (.int .i64 (-1))) H)
 (p.bin .gtr a1 a0 fun t15 =>
 p.cond t15
 (p.bin .sub a1 a0 fun t18 =>
 k t18 H)
 (p.bin .sub a1 a0 fun t21 =>
 p.bin .add t21 (.sc (.int .i64 65535)) fun t22 =>
 k t22 H))
theorem f23_body (p : Pr β) (n : Nat) (a0 a1 : AV) (H : Heap) (k : AV → Heap → Option β) : evalBody ti0 p n ⟨c23, 23, Go.Proofs.Try.f23.results.toList, o23⟩ [a0, a1] H k = f23 p n a0 a1 H k := by kernel_rfl
noncomputable def f5_l1 (p : Pr β) (n : Nat) (g0 : AV → AV → AV → AV → AV → Heap → Option β) (k : AV → Heap → Option β) : Nat → AV → AV → AV → AV → AV → AV → AV → Heap → Option β
 | 0, _, _, _, _, _, _, _, _ => none
 | m + 1, t3, t4, t5, t9, t10, t11, t12, H => p.len t4 fun t76 =>
   p.bin .lss t12 t76 fun t77 =>
   p.cond t77
   (p.guard t11 false H (fun k' => k' t4 H) fun t82 H =>
   p.guard t11 false H (fun k' => k' t12 H) fun t83 H =>
   p.guard t11 false H (fun k' => p.iadr 1 t82 t83 fun t' => k' t' H) fun t84 H =>
   p.guard t11 false H (fun k' => p.load false 1 t84 H fun t' => k' t' H) fun t85 H =>
   p.guard t11 false H (fun k' => k' t9 H) fun t86 H =>
   p.guard t11 false H (fun k' => p.bin .eql t85 t86 fun t' => k' t' H) fun t87 H =>
   p.pick t11 (.sc (.bool true)) t87 fun t88 =>
   p.bin .add t12 (.sc (.int .i64 1)) fun t79 =>
   f5_l1 p n g0 k m t3 t4 t5 t9 t10 t88 t79 H)
   (p.un .not t11 fun t90 =>
   p.cond t90
   (k (.sc (.bool false)) H)
   (p.bin .add t10 (.sc (.int .i64 1)) fun t70 =>
   g0 t3 t4 t5 t9 t70 H))
noncomputable def f5_l2 (p : Pr β) (n : Nat)  (k : AV → Heap → Option β) : Nat → AV → AV → AV → AV → Heap → Option β
 | 0, _, _, _, _, _ => none
 | m + 1, t4, t5, t9, t13, H => p.len t4 fun t93 =>
   p.bin .lss t13 t93 fun t94 =>
   p.cond t94
   (p.iadr 1 t4 t13 fun t99 =>
   p.load false 1 t99 H fun t100 =>
   p.bin .eql t100 t5 fun t102 =>
   p.cond t102
   (k (.sc (.bool false)) H)
   (p.bin .add t13 (.sc (.int .i64 1)) fun t96 =>
   f5_l2 p n  k m t4 t5 t9 t96 H))
   (p.bin .rem t9 (.sc (.int .i64 65535)) fun t104 =>
   p.bin .add t104 (.sc (.int .i64 1)) fun t105 =>
   p.bin .eql t105 t5 fun t107 =>
   k t107 H)
noncomputable def f5_l0 (p : Pr β) (n : Nat)  (k : AV → Heap → Option β) : Nat → AV → AV → AV → AV → AV → Heap → Option β
 | 0, _, _, _, _, _, _ => none
 | m + 1, t3, t4, t5, t9, t10, H => p.call 3 (.fn 22 [] []) [t3, t5] H fun t67 H =>
   p.bin .lss t10 t67 fun t68 =>
   p.cond t68
   (p.bin .rem t9 (.sc (.int .i64 65535)) fun t72 =>
   p.bin .add t72 (.sc (.int .i64 1)) fun t73 =>
   f5_l1 p n (f5_l0 p n  k m) k n t3 t4 t5 t73 t10 (.sc (.bool false)) (.sc (.int .i64 0)) H)
   (f5_l2 p n  k n t4 t5 t9 (.sc (.int .i64 0)) H)
noncomputable def f5 (p : Pr β) (n : Nat) (a0 : AV) (H : Heap) (k : AV → Heap → Option β) : Option β :=
 p.call 4 (.fn 13 [] []) [a0] H fun t15 H =>
 p.cond t15
 (k (.sc (.bool true)) H)
 (p.call 42 (.fn 19 [] []) [a0] H fun t18 H =>
 p.extr t18 0 fun t19 =>
 p.extr t18 1 fun t20 =>
 p.call 44 (.fn 20 [] []) [t19, t20] H fun t24 H =>
 p.extr t24 0 fun t25 =>
 p.extr t24 1 fun t26 =>
 p.call 46 (.fn 21 [] []) [a0] H fun t29 H =>
 p.extr t29 0 fun t30 =>
 p.extr t29 1 fun t31 =>
 p.bin .lss t19 (.sc (.int .i64 0)) fun t33 =>
 p.guard t33 false H (fun k' => k' t19 H) fun t35 H =>
 p.guard t33 false H (fun k' => p.bin .gtr t35 (.sc (.int .i64 65535)) fun t' => k' t' H) fun t36 H =>
 p.pick t33 (.sc (.bool true)) t36 fun t37 =>
 p.cond t37
 (p.un .not t26 fun t39 =>
 p.guard t39 true H (fun k' => k' t25 H) fun t41 H =>
 p.guard t39 true H (fun k' => p.bin .eql t41 (.sc (.int .i64 0)) fun t' => k' t' H) fun t42 H =>
 p.pick t39 t42 (.sc (.bool false)) fun t43 =>
 k t43 H)
 (p.un .not t26 fun t45 =>
 p.guard t45 false H (fun k' => k' t25 H) fun t47 H =>
 p.guard t45 false H (fun k' => p.bin .lss t47 (.sc (.int .i64 1)) fun t' => k' t' H) fun t48 H =>
 p.pick t45 (.sc (.bool true)) t48 fun t49 =>
 p.guard t49 false H (fun k' => k' t25 H) fun t51 H =>
 p.guard t49 false H (fun k' => p.bin .gtr t51 (.sc (.int .i64 65535)) fun t' => k' t' H) fun t52 H =>
 p.pick t49 (.sc (.bool true)) t52 fun t53 =>
 p.guard t53 false H (fun k' => k' t30 H) fun t55 H =>
 p.guard t53 false H (fun k' => k' t31 H) fun t56 H =>
 p.guard t53 false H (fun k' => p.call 3 (.fn 22 [] []) [t55, t56] H fun t' H => k' t' H) fun t57 H =>
 p.guard t53 false H (fun k' => k' t30 H) fun t58 H =>
 p.guard t53 false H (fun k' => k' t31 H) fun t59 H =>
 p.guard t53 false H (fun k' => p.call 3 (.fn 23 [] []) [t58, t59] H fun t' H => k' t' H) fun t60 H =>
 p.guard t53 false H (fun k' => p.bin .neq t57 t60 fun t' => k' t' H) fun t61 H =>
 p.pick t53 (.sc (.bool true)) t61 fun t62 =>
 p.cond t62
 (k (.sc (.bool false)) H)
 (f5_l0 p n  k n t19 t20 t25 t19 (.sc (.int .i64 1)) H)))
noncomputable def f5_L1 (p : Pr β) (n : Nat) (m0 : Nat) (k : AV → Heap → Option β) (m : Nat) (tm : Tm) (H : Heap) : Option β :=
 iterC 108 (fun tm H k => evalCode ti0 p o5 108 n (cd c5 [1, 1, 1, 1, 1, 1, 1, 1, 0, 1, 0, 0, 1, 0, 0, 1, 1, 0, 1, 0, 0]) tm H k) (blkK 2 (seqK (fun tm H => evalCode ti0 p o5 108 n (cd c5 [1, 1, 1, 1, 1, 1, 1, 1, 0, 1, 0, 0, 1, 0, 0, 1, 1, 1]) tm H (blkK 1 (seqK (fun tm H => evalCode ti0 p o5 108 n (cd c5 [1, 1, 1, 1, 1, 1, 1, 1, 0, 1, 0, 0, 1, 1]) tm H (seqK (fun tm H => iterC 108 (fun tm H k => evalCode ti0 p o5 108 n (cd c5 [1, 1, 1, 1, 1, 1, 1, 1, 0, 1, 0, 0]) tm H k) (blkK 0 (seqK (fun tm H => evalCode ti0 p o5 108 n (cd c5 [1, 1, 1, 1, 1, 1, 1, 1, 1]) tm H (endK ti0 p Go.Proofs.Try.f5.results.toList k)) (endK ti0 p Go.Proofs.Try.f5.results.toList k))) m0 (nrm 108 tm) H) (blkK 0 (seqK (fun tm H => evalCode ti0 p o5 108 n (cd c5 [1, 1, 1, 1, 1, 1, 1, 1, 1]) tm H (endK ti0 p Go.Proofs.Try.f5.results.toList k)) (endK ti0 p Go.Proofs.Try.f5.results.toList k))))) (seqK (fun tm H => iterC 108 (fun tm H k => evalCode ti0 p o5 108 n (cd c5 [1, 1, 1, 1, 1, 1, 1, 1, 0, 1, 0, 0]) tm H k) (blkK 0 (seqK (fun tm H => evalCode ti0 p o5 108 n (cd c5 [1, 1, 1, 1, 1, 1, 1, 1, 1]) tm H (endK ti0 p Go.Proofs.Try.f5.results.toList k)) (endK ti0 p Go.Proofs.Try.f5.results.toList k))) m0 (nrm 108 tm) H) (blkK 0 (seqK (fun tm H => evalCode ti0 p o5 108 n (cd c5 [1, 1, 1, 1, 1, 1, 1, 1, 1]) tm H (endK ti0 p Go.Proofs.Try.f5.results.toList k)) (endK ti0 p Go.Proofs.Try.f5.results.toList k))))))) (blkK 1 (seqK (fun tm H => evalCode ti0 p o5 108 n (cd c5 [1, 1, 1, 1, 1, 1, 1, 1, 0, 1, 0, 0, 1, 1]) tm H (seqK (fun tm H => iterC 108 (fun tm H k => evalCode ti0 p o5 108 n (cd c5 [1, 1, 1, 1, 1, 1, 1, 1, 0, 1, 0, 0]) tm H k) (blkK 0 (seqK (fun tm H => evalCode ti0 p o5 108 n (cd c5 [1, 1, 1, 1, 1, 1, 1, 1, 1]) tm H (endK ti0 p Go.Proofs.Try.f5.results.toList k)) (endK ti0 p Go.Proofs.Try.f5.results.toList k))) m0 (nrm 108 tm) H) (blkK 0 (seqK (fun tm H => evalCode ti0 p o5 108 n (cd c5 [1, 1, 1, 1, 1, 1, 1, 1, 1]) tm H (endK ti0 p Go.Proofs.Try.f5.results.toList k)) (endK ti0 p Go.Proofs.Try.f5.results.toList k))))) (seqK (fun tm H => iterC 108 (fun tm H k => evalCode ti0 p o5 108 n (cd c5 [1, 1, 1, 1, 1, 1, 1, 1, 0, 1, 0, 0]) tm H k) (blkK 0 (seqK (fun tm H => evalCode ti0 p o5 108 n (cd c5 [1, 1, 1, 1, 1, 1, 1, 1, 1]) tm H (endK ti0 p Go.Proofs.Try.f5.results.toList k)) (endK ti0 p Go.Proofs.Try.f5.results.toList k))) m0 (nrm 108 tm) H) (blkK 0 (seqK (fun tm H => evalCode ti0 p o5 108 n (cd c5 [1, 1, 1, 1, 1, 1, 1, 1, 1]) tm H (endK ti0 p Go.Proofs.Try.f5.results.toList k)) (endK ti0 p Go.Proofs.Try.f5.results.toList k)))))))) m tm H
noncomputable def f5_L2 (p : Pr β) (n : Nat)  (k : AV → Heap → Option β) (m : Nat) (tm : Tm) (H : Heap) : Option β :=
 iterC 108 (fun tm H k => evalCode ti0 p o5 108 n (cd c5 [1, 1, 1, 1, 1, 1, 1, 1, 1, 0, 1, 0, 0]) tm H k) (blkK 4 (seqK (fun tm H => evalCode ti0 p o5 108 n (cd c5 [1, 1, 1, 1, 1, 1, 1, 1, 1, 1]) tm H (endK ti0 p Go.Proofs.Try.f5.results.toList k)) (endK ti0 p Go.Proofs.Try.f5.results.toList k))) m tm H
noncomputable def f5_L0 (p : Pr β) (n : Nat)  (k : AV → Heap → Option β) (m : Nat) (tm : Tm) (H : Heap) : Option β :=
 iterC 108 (fun tm H k => evalCode ti0 p o5 108 n (cd c5 [1, 1, 1, 1, 1, 1, 1, 1, 0, 1, 0, 0]) tm H k) (blkK 0 (seqK (fun tm H => evalCode ti0 p o5 108 n (cd c5 [1, 1, 1, 1, 1, 1, 1, 1, 1]) tm H (endK ti0 p Go.Proofs.Try.f5.results.toList k)) (endK ti0 p Go.Proofs.Try.f5.results.toList k))) m tm H
theorem f5_L1_step (p : Pr β) (n : Nat) (m0 : Nat) (k : AV → Heap → Option β) (m1 : Nat) (t : Nat → AV) (H : Heap) : f5_L1 p n m0 k (m1 + 1) (tf 108 0 t) H =
 p.len (t 4) fun t76 =>
 p.bin .lss (t 12) t76 fun t77 =>
 p.cond t77
 (p.guard (t 11) false H (fun k' => k' (t 4) H) fun t82 H =>
 p.guard (t 11) false H (fun k' => k' (t 12) H) fun t83 H =>
 p.guard (t 11) false H (fun k' => p.iadr 1 t82 t83 fun t' => k' t' H) fun t84 H =>
 p.guard (t 11) false H (fun k' => p.load false 1 t84 H fun t' => k' t' H) fun t85 H =>
 p.guard (t 11) false H (fun k' => k' (t 9) H) fun t86 H =>
 p.guard (t 11) false H (fun k' => p.bin .eql t85 t86 fun t' => k' t' H) fun t87 H =>
 p.pick (t 11) (.sc (.bool true)) t87 fun t88 =>
 p.bin .add (t 12) (.sc (.int .i64 1)) fun t79 =>
 f5_L1 p n m0 k m1 (tf 108 0 (ud [(11, t88), (12, t79), (74, (t 12)), (75, (t 4)), (76, t76), (77, t77), (78, (t 12)), (79, t79), (80, (t 11)), (81, (t 11)), (82, t82), (83, t83), (84, t84), (85, t85), (86, t86), (87, t87), (88, t88)] t)) H)
 (p.un .not (t 11) fun t90 =>
 p.cond t90
 (k (.sc (.bool false)) H)
 (p.bin .add (t 10) (.sc (.int .i64 1)) fun t70 =>
 f5_L0 p n  k m0 (tf 108 0 (ud [(10, t70), (69, (t 10)), (70, t70), (74, (t 12)), (75, (t 4)), (76, t76), (77, t77), (89, (t 11)), (90, t90)] t)) H)) := by kernel_rfl
theorem f5_l1_eq (p : Pr β) (n : Nat) (m0 : Nat) (k : AV → Heap → Option β) (g0 : AV → AV → AV → AV → AV → Heap → Option β) (h0 : ∀ (t : Nat → AV) H, f5_L0 p n  k m0 (tf 108 0 t) H = g0 (t 3) (t 4) (t 5) (t 9) (t 10) H) (m1 : Nat) : ∀ (t : Nat → AV) (H : Heap), f5_L1 p n m0 k m1 (tf 108 0 t) H = f5_l1 p n g0 k m1 (t 3) (t 4) (t 5) (t 9) (t 10) (t 11) (t 12) H := by
 induction m1 with
 | zero => intros; rfl
 | succ m1 ih =>
  intro t H
  rw [f5_L1_step]
  simp only [ih, h0]
  kernel_rfl
theorem f5_L2_step (p : Pr β) (n : Nat)  (k : AV → Heap → Option β) (m2 : Nat) (t : Nat → AV) (H : Heap) : f5_L2 p n  k (m2 + 1) (tf 108 0 t) H =
 p.len (t 4) fun t93 =>
 p.bin .lss (t 13) t93 fun t94 =>
 p.cond t94
 (p.iadr 1 (t 4) (t 13) fun t99 =>
 p.load false 1 t99 H fun t100 =>
 p.bin .eql t100 (t 5) fun t102 =>
 p.cond t102
 (k (.sc (.bool false)) H)
 (p.bin .add (t 13) (.sc (.int .i64 1)) fun t96 =>
 f5_L2 p n  k m2 (tf 108 0 (ud [(13, t96), (91, (t 13)), (92, (t 4)), (93, t93), (94, t94), (95, (t 13)), (96, t96), (97, (t 4)), (98, (t 13)), (99, t99), (100, t100), (101, (t 5)), (102, t102)] t)) H))
 (p.bin .rem (t 9) (.sc (.int .i64 65535)) fun t104 =>
 p.bin .add t104 (.sc (.int .i64 1)) fun t105 =>
 p.bin .eql t105 (t 5) fun t107 =>
 k t107 H) := by kernel_rfl
theorem f5_l2_eq (p : Pr β) (n : Nat)  (k : AV → Heap → Option β)   (m2 : Nat) : ∀ (t : Nat → AV) (H : Heap), f5_L2 p n  k m2 (tf 108 0 t) H = f5_l2 p n  k m2 (t 4) (t 5) (t 9) (t 13) H := by
 induction m2 with
 | zero => intros; rfl
 | succ m2 ih =>
  intro t H
  rw [f5_L2_step]
  simp only [ih]
  kernel_rfl
theorem f5_L0_step (p : Pr β) (n : Nat)  (k : AV → Heap → Option β) (m0 : Nat) (t : Nat → AV) (H : Heap) : f5_L0 p n  k (m0 + 1) (tf 108 0 t) H =
 p.call 3 (.fn 22 [] []) [(t 3), (t 5)] H fun t67 H =>
 p.bin .lss (t 10) t67 fun t68 =>
 p.cond t68
 (p.bin .rem (t 9) (.sc (.int .i64 65535)) fun t72 =>
 p.bin .add t72 (.sc (.int .i64 1)) fun t73 =>
 f5_L1 p n m0 k n (tf 108 0 (ud [(9, t73), (11, (.sc (.bool false))), (12, (.sc (.int .i64 0))), (64, (t 10)), (65, (t 3)), (66, (t 5)), (67, t67), (68, t68), (71, (t 9)), (72, t72), (73, t73)] t)) H)
 (f5_L2 p n  k n (tf 108 0 (ud [(13, (.sc (.int .i64 0))), (64, (t 10)), (65, (t 3)), (66, (t 5)), (67, t67), (68, t68)] t)) H) := by kernel_rfl
theorem f5_l0_eq (p : Pr β) (n : Nat)  (k : AV → Heap → Option β)   (m0 : Nat) : ∀ (t : Nat → AV) (H : Heap), f5_L0 p n  k m0 (tf 108 0 t) H = f5_l0 p n  k m0 (t 3) (t 4) (t 5) (t 9) (t 10) H := by
 induction m0 with
 | zero => intros; rfl
 | succ m0 ih =>
  intro t H
  rw [f5_L0_step]
  simp only [ih, f5_l1_eq p n m0 k (f5_l0 p n  k m0) ih, f5_l2_eq p n  k  ]
  kernel_rfl
theorem f5_raw (p : Pr β) (n : Nat) (a0 : AV) (H : Heap) (k : AV → Heap → Option β) : evalBody ti0 p n ⟨c5, 108, Go.Proofs.Try.f5.results.toList, o5⟩ [a0] H k =
 p.call 4 (.fn 13 [] []) [a0] H fun t15 H =>
 p.cond t15
 (k (.sc (.bool true)) H)
 (p.call 42 (.fn 19 [] []) [a0] H fun t18 H =>
 p.extr t18 0 fun t19 =>
 p.extr t18 1 fun t20 =>
 p.call 44 (.fn 20 [] []) [t19, t20] H fun t24 H =>
 p.extr t24 0 fun t25 =>
 p.extr t24 1 fun t26 =>
 p.call 46 (.fn 21 [] []) [a0] H fun t29 H =>
 p.extr t29 0 fun t30 =>
 p.extr t29 1 fun t31 =>
 p.bin .lss t19 (.sc (.int .i64 0)) fun t33 =>
 p.guard t33 false H (fun k' => k' t19 H) fun t35 H =>
 p.guard t33 false H (fun k' => p.bin .gtr t35 (.sc (.int .i64 65535)) fun t' => k' t' H) fun t36 H =>
 p.pick t33 (.sc (.bool true)) t36 fun t37 =>
 p.cond t37
 (p.un .not t26 fun t39 =>
 p.guard t39 true H (fun k' => k' t25 H) fun t41 H =>
 p.guard t39 true H (fun k' => p.bin .eql t41 (.sc (.int .i64 0)) fun t' => k' t' H) fun t42 H =>
 p.pick t39 t42 (.sc (.bool false)) fun t43 =>
 k t43 H)
 (p.un .not t26 fun t45 =>
 p.guard t45 false H (fun k' => k' t25 H) fun t47 H =>
 p.guard t45 false H (fun k' => p.bin .lss t47 (.sc (.int .i64 1)) fun t' => k' t' H) fun t48 H =>
 p.pick t45 (.sc (.bool true)) t48 fun t49 =>
 p.guard t49 false H (fun k' => k' t25 H) fun t51 H =>
 p.guard t49 false H (fun k' => p.bin .gtr t51 (.sc (.int .i64 65535)) fun t' => k' t' H) fun t52 H =>
 p.pick t49 (.sc (.bool true)) t52 fun t53 =>
 p.guard t53 false H (fun k' => k' t30 H) fun t55 H =>
 p.guard t53 false H (fun k' => k' t31 H) fun t56 H =>
 p.guard t53 false H (fun k' => p.call 3 (.fn 22 [] []) [t55, t56] H fun t' H => k' t' H) fun t57 H =>
 p.guard t53 false H (fun k' => k' t30 H) fun t58 H =>
 p.guard t53 false H (fun k' => k' t31 H) fun t59 H =>
 p.guard t53 false H (fun k' => p.call 3 (.fn 23 [] []) [t58, t59] H fun t' H => k' t' H) fun t60 H =>
 p.guard t53 false H (fun k' => p.bin .neq t57 t60 fun t' => k' t' H) fun t61 H =>
 p.pick t53 (.sc (.bool true)) t61 fun t62 =>
 p.cond t62
 (k (.sc (.bool false)) H)
 (f5_L0 p n  k n (tf 108 0 (ud [(0, a0), (2, (.sc (.bool false))), (3, t19), (4, t20), (5, t25), (6, t26), (7, t30), (8, t31), (9, t19), (10, (.sc (.int .i64 1))), (14, a0), (15, t15), (16, t18), (17, a0), (18, t18), (19, t19), (20, t20), (21, t24), (22, t19), (23, t20), (24, t24), (25, t25), (26, t26), (27, t29), (28, a0), (29, t29), (30, t30), (31, t31), (32, t19), (33, t33), (34, t33), (35, t35), (36, t36), (37, t37), (44, t26), (45, t45), (46, t45), (47, t47), (48, t48), (49, t49), (50, t49), (51, t51), (52, t52), (53, t53), (54, t53), (55, t55), (56, t56), (57, t57), (58, t58), (59, t59), (60, t60), (61, t61), (62, t62), (63, t19)] ut)) H))) := by kernel_rfl
theorem f5_body (p : Pr β) (n : Nat) (a0 : AV) (H : Heap) (k : AV → Heap → Option β) : evalBody ti0 p n ⟨c5, 108, Go.Proofs.Try.f5.results.toList, o5⟩ [a0] H k = f5 p n a0 H k := by
 rw [f5_raw]
 simp only [f5_l2_eq, f5_l0_eq]
 kernel_rfl
noncomputable def fss : List (Option FnI) := [none, none, none, none, none, some ⟨c5, 108, Go.Proofs.Try.f5.results.toList, o5⟩, none, none, none, none, none, none, none, some ⟨c13, 6, Go.Proofs.Try.f13.results.toList, o13⟩, none, none, none, none, none, some ⟨c19, 12, Go.Proofs.Try.f19.results.toList, o19⟩, some ⟨c20, 40, Go.Proofs.Try.f20.results.toList, o20⟩, some ⟨c21, 13, Go.Proofs.Try.f21.results.toList, o21⟩, some ⟨c22, 23, Go.Proofs.Try.f22.results.toList, o22⟩, some ⟨c23, 23, Go.Proofs.Try.f23.results.toList, o23⟩, none, none, none, none, none, none, none, none, none, some ⟨c33, 32, Go.Proofs.Try.f33.results.toList, o33⟩, none, none, some ⟨c36, 31, Go.Proofs.Try.f36.results.toList, o36⟩, some ⟨c37, 15, Go.Proofs.Try.f37.results.toList, o37⟩, some ⟨c38, 12, Go.Proofs.Try.f38.results.toList, o38⟩, some ⟨c39, 19, Go.Proofs.Try.f39.results.toList, o39⟩, some ⟨c40, 5, Go.Proofs.Try.f40.results.toList, o40⟩, some ⟨c41, 5, Go.Proofs.Try.f41.results.toList, o41⟩, some ⟨c42, 15, Go.Proofs.Try.f42.results.toList, o42⟩, none, none, none, none, none, none, none, none, none, none, none, none, none, none, none, none, none, some ⟨c60, 58, Go.Proofs.Try.f60.results.toList, o60⟩]
noncomputable def tps : List (Nat × List Nat) := [(36, [28, 3]), (38, [28, 4]), (42, [3, 41]), (44, [3, 4]), (46, [3, 3]), (124, [53, 123, 4]), (127, [53, 3]), (143, [51, 98, 4]), (147, [51, 3]), (157, [3, 3, 4])]
noncomputable def E0 : Env := { ti := ti0, tp := fun t => ordOf tps t, fs := fun f => (fss[f]?).getD none, ext := fun _ => none, hm := fun f => [11, 14, 16, 19, 21, 28, 31, 33, 34, 35, 36, 38, 39, 50, 51, 52, 56, 57, 58, 59, 60, 71, 75, 76, 77, 80, 81, 92, 93, 94, 98, 109, 110, 117, 125, 131, 144, 145, 146, 147, 148].contains f }
noncomputable def PR (n : Nat) (β : Type) : Pr β := prims E0 (evalFn E0 n) β
theorem f13_eq (n : Nat) (a0 : AV) (H : Heap) (k : AV → Heap → Option β) : evalFn E0 (n + 1) β 13 [a0] H k = f13 (PR n β) n a0 H k := f13_body (PR n β) n a0 H k
theorem f33_eq (n : Nat) (a0 : AV) (H : Heap) (k : AV → Heap → Option β) : evalFn E0 (n + 1) β 33 [a0] H k = f33 (PR n β) n a0 H k := f33_body (PR n β) n a0 H k
theorem f60_eq (n : Nat) (a0 : AV) (H : Heap) (k : AV → Heap → Option β) : evalFn E0 (n + 1) β 60 [a0] H k = f60 (PR n β) n a0 H k := f60_body (PR n β) n a0 H k
theorem f36_eq (n : Nat) (a0 a1 : AV) (H : Heap) (k : AV → Heap → Option β) : evalFn E0 (n + 1) β 36 [a0, a1] H k = f36 (PR n β) n a0 a1 H k := f36_body (PR n β) n a0 a1 H k
theorem f38_eq (n : Nat) (a0 a1 : AV) (H : Heap) (k : AV → Heap → Option β) : evalFn E0 (n + 1) β 38 [a0, a1] H k = f38 (PR n β) n a0 a1 H k := f38_body (PR n β) n a0 a1 H k
theorem f39_eq (n : Nat) (a0 : AV) (H : Heap) (k : AV → Heap → Option β) : evalFn E0 (n + 1) β 39 [a0] H k = f39 (PR n β) n a0 H k := f39_body (PR n β) n a0 H k
theorem f19_eq (n : Nat) (a0 : AV) (H : Heap) (k : AV → Heap → Option β) : evalFn E0 (n + 1) β 19 [a0] H k = f19 (PR n β) n a0 H k := f19_body (PR n β) n a0 H k
theorem f37_eq (n : Nat) (a0 a1 a2 : AV) (H : Heap) (k : AV → Heap → Option β) : evalFn E0 (n + 1) β 37 [a0, a1, a2] H k = f37 (PR n β) n a0 a1 a2 H k := f37_body (PR n β) n a0 a1 a2 H k
theorem f40_eq (n : Nat) (a0 : AV) (H : Heap) (k : AV → Heap → Option β) : evalFn E0 (n + 1) β 40 [a0] H k = f40 (PR n β) n a0 H k := f40_body (PR n β) n a0 H k
theorem f41_eq (n : Nat) (a0 : AV) (H : Heap) (k : AV → Heap → Option β) : evalFn E0 (n + 1) β 41 [a0] H k = f41 (PR n β) n a0 H k := f41_body (PR n β) n a0 H k
theorem f20_eq (n : Nat) (a0 a1 : AV) (H : Heap) (k : AV → Heap → Option β) : evalFn E0 (n + 1) β 20 [a0, a1] H k = f20 (PR n β) n a0 a1 H k := f20_body (PR n β) n a0 a1 H k
theorem f21_eq (n : Nat) (a0 : AV) (H : Heap) (k : AV → Heap → Option β) : evalFn E0 (n + 1) β 21 [a0] H k = f21 (PR n β) n a0 H k := f21_body (PR n β) n a0 H k
theorem f22_eq (n : Nat) (a0 a1 : AV) (H : Heap) (k : AV → Heap → Option β) : evalFn E0 (n + 1) β 22 [a0, a1] H k = f22 (PR n β) n a0 a1 H k := f22_body (PR n β) n a0 a1 H k
theorem f42_eq (n : Nat) (a0 a1 a2 : AV) (H : Heap) (k : AV → Heap → Option β) : evalFn E0 (n + 1) β 42 [a0, a1, a2] H k = f42 (PR n β) n a0 a1 a2 H k := f42_body (PR n β) n a0 a1 a2 H k
theorem f23_eq (n : Nat) (a0 a1 : AV) (H : Heap) (k : AV → Heap → Option β) : evalFn E0 (n + 1) β 23 [a0, a1] H k = f23 (PR n β) n a0 a1 H k := f23_body (PR n β) n a0 a1 H k
theorem f5_eq (n : Nat) (a0 : AV) (H : Heap) (k : AV → Heap → Option β) : evalFn E0 (n + 1) β 5 [a0] H k = f5 (PR n β) n a0 H k := f5_body (PR n β) n a0 H k
end Go.Proofs.Ytejjggnchdldoaa.Abs
set_option linter.unusedVariables false
set_option linter.unusedSimpArgs false
set_option maxRecDepth 100000
namespace Go.Proofs.Ytejjggnchdldoaa.Abs
open Go
theorem tab0 : tabB Go.Proofs.Try.prog 0 tis = true := by kernel_rfl
theorem code0 : fnsB E0 fss = true := by kernel_rfl
theorem tabOk0 : TabOk Go.Proofs.Try.prog ti0 := by
 intro t i h
 unfold ti0 at h
 cases hl : tis[t]? with
 | none => rw [hl] at h; cases h
 | some o =>
  rw [hl] at h
  simp only [Option.getD_some] at h
  subst h
  simpa using (tabB_ok tis 0 t i tab0 hl).1
theorem byte0 : ∀ t i, ti0 t = some i → i.ik = some .u8 → i.size = 1 := by
 intro t i h
 unfold ti0 at h
 cases hl : tis[t]? with
 | none => rw [hl] at h; cases h
 | some o =>
  rw [hl] at h
  simp only [Option.getD_some] at h
  subst h
  exact (tabB_ok tis 0 t i tab0 hl).2
def FnQ (n : Nat) (c : Code) (t : Nat) (f : Func) : Prop := ∃ fn, Go.Proofs.Try.prog.funcs[n]? = some fn ∧ (fn.name == "runtime.NumGoroutine") = false ∧ fn.body = some c ∧ fn.ntmps = t ∧ fn.results.toList = f.results.toList
theorem fn13 : FnQ 13 c13 6 Go.Proofs.Try.f13 := ⟨_, Go.Proofs.Try.func13, by kernel_rfl, by kernel_rfl, rfl, rfl⟩
theorem fn33 : FnQ 33 c33 32 Go.Proofs.Try.f33 := ⟨_, Go.Proofs.Try.func33, by kernel_rfl, by kernel_rfl, rfl, rfl⟩
theorem fn60 : FnQ 60 c60 58 Go.Proofs.Try.f60 := ⟨_, Go.Proofs.Try.func60, by kernel_rfl, by kernel_rfl, rfl, rfl⟩
theorem fn36 : FnQ 36 c36 31 Go.Proofs.Try.f36 := ⟨_, Go.Proofs.Try.func36, by kernel_rfl, by kernel_rfl, rfl, rfl⟩
theorem fn38 : FnQ 38 c38 12 Go.Proofs.Try.f38 := ⟨_, Go.Proofs.Try.func38, by kernel_rfl, by kernel_rfl, rfl, rfl⟩
theorem fn39 : FnQ 39 c39 19 Go.Proofs.Try.f39 := ⟨_, Go.Proofs.Try.func39, by kernel_rfl, by kernel_rfl, rfl, rfl⟩
theorem fn19 : FnQ 19 c19 12 Go.Proofs.Try.f19 := ⟨_, Go.Proofs.Try.func19, by kernel_rfl, by kernel_rfl, rfl, rfl⟩
theorem fn37 : FnQ 37 c37 15 Go.Proofs.Try.f37 := ⟨_, Go.Proofs.Try.func37, by kernel_rfl, by kernel_rfl, rfl, rfl⟩
theorem fn40 : FnQ 40 c40 5 Go.Proofs.Try.f40 := ⟨_, Go.Proofs.Try.func40, by kernel_rfl, by kernel_rfl, rfl, rfl⟩
theorem fn41 : FnQ 41 c41 5 Go.Proofs.Try.f41 := ⟨_, Go.Proofs.Try.func41, by kernel_rfl, by kernel_rfl, rfl, rfl⟩
theorem fn20 : FnQ 20 c20 40 Go.Proofs.Try.f20 := ⟨_, Go.Proofs.Try.func20, by kernel_rfl, by kernel_rfl, rfl, rfl⟩
theorem fn21 : FnQ 21 c21 13 Go.Proofs.Try.f21 := ⟨_, Go.Proofs.Try.func21, by kernel_rfl, by kernel_rfl, rfl, rfl⟩
theorem fn22 : FnQ 22 c22 23 Go.Proofs.Try.f22 := ⟨_, Go.Proofs.Try.func22, by kernel_rfl, by kernel_rfl, rfl, rfl⟩
theorem fn42 : FnQ 42 c42 15 Go.Proofs.Try.f42 := ⟨_, Go.Proofs.Try.func42, by kernel_rfl, by kernel_rfl, rfl, rfl⟩
theorem fn23 : FnQ 23 c23 23 Go.Proofs.Try.f23 := ⟨_, Go.Proofs.Try.func23, by kernel_rfl, by kernel_rfl, rfl, rfl⟩
theorem fn5 : FnQ 5 c5 108 Go.Proofs.Try.f5 := ⟨_, Go.Proofs.Try.func5, by kernel_rfl, by kernel_rfl, rfl, rfl⟩
theorem fnC {c : Code} {t : Nat} {f : Func} {o : List (Nat × PI)} {i : FnI} (e : (⟨c, t, f.results.toList, o⟩ : FnI) = i) {n : Nat} (h : FnQ n c t f) : ∃ fn, Go.Proofs.Try.prog.funcs[n]? = some fn ∧ (fn.name == "runtime.NumGoroutine") = false ∧ fn.body = some i.body ∧ fn.ntmps = i.ntmps ∧ fn.results.toList = i.results := by subst e; exact h
theorem fnAll : ∀ (f : Nat) (i : FnI), f < 61 → fss[f]? = some (some i) → ∃ fn, Go.Proofs.Try.prog.funcs[f]? = some fn ∧ (fn.name == "runtime.NumGoroutine") = false ∧ fn.body = some i.body ∧ fn.ntmps = i.ntmps ∧ fn.results.toList = i.results
 | 0, i, _, h => nomatch Option.some.inj h
 | 1, i, _, h => nomatch Option.some.inj h
 | 2, i, _, h => nomatch Option.some.inj h
 | 3, i, _, h => nomatch Option.some.inj h
 | 4, i, _, h => nomatch Option.some.inj h
 | 5, i, _, h => fnC (Option.some.inj (Option.some.inj h)) fn5
 | 6, i, _, h => nomatch Option.some.inj h
 | 7, i, _, h => nomatch Option.some.inj h
 | 8, i, _, h => nomatch Option.some.inj h
 | 9, i, _, h => nomatch Option.some.inj h
 | 10, i, _, h => nomatch Option.some.inj h
 | 11, i, _, h => nomatch Option.some.inj h
 | 12, i, _, h => nomatch Option.some.inj h
 | 13, i, _, h => fnC (Option.some.inj (Option.some.inj h)) fn13
 | 14, i, _, h => nomatch Option.some.inj h
 | 15, i, _, h => nomatch Option.some.inj h
 | 16, i, _, h => nomatch Option.some.inj h
 | 17, i, _, h => nomatch Option.some.inj h
 | 18, i, _, h => nomatch Option.some.inj h
 | 19, i, _, h => fnC (Option.some.inj (Option.some.inj h)) fn19
 | 20, i, _, h => fnC (Option.some.inj (Option.some.inj h)) fn20
 | 21, i, _, h => fnC (Option.some.inj (Option.some.inj h)) fn21
 | 22, i, _, h => fnC (Option.some.inj (Option.some.inj h)) fn22
 | 23, i, _, h => fnC (Option.some.inj (Option.some.inj h)) fn23
 | 24, i, _, h => nomatch Option.some.inj h
 | 25, i, _, h => nomatch Option.some.inj h
 | 26, i, _, h => nomatch Option.some.inj h
 | 27, i, _, h => nomatch Option.some.inj h
 | 28, i, _, h => nomatch Option.some.inj h
 | 29, i, _, h => nomatch Option.some.inj h
 | 30, i, _, h => nomatch Option.some.inj h
 | 31, i, _, h => nomatch Option.some.inj h
 | 32, i, _, h => nomatch Option.some.inj h
 | 33, i, _, h => fnC (Option.some.inj (Option.some.inj h)) fn33
 | 34, i, _, h => nomatch Option.some.inj h
 | 35, i, _, h => nomatch Option.some.inj h
 | 36, i, _, h => fnC (Option.some.inj (Option.some.inj h)) fn36
 | 37, i, _, h => fnC (Option.some.inj (Option.some.inj h)) fn37
 | 38, i, _, h => fnC (Option.some.inj (Option.some.inj h)) fn38
 | 39, i, _, h => fnC (Option.some.inj (Option.some.inj h)) fn39
 | 40, i, _, h => fnC (Option.some.inj (Option.some.inj h)) fn40
 | 41, i, _, h => fnC (Option.some.inj (Option.some.inj h)) fn41
 | 42, i, _, h => fnC (Option.some.inj (Option.some.inj h)) fn42
 | 43, i, _, h => nomatch Option.some.inj h
 | 44, i, _, h => nomatch Option.some.inj h
 | 45, i, _, h => nomatch Option.some.inj h
 | 46, i, _, h => nomatch Option.some.inj h
 | 47, i, _, h => nomatch Option.some.inj h
 | 48, i, _, h => nomatch Option.some.inj h
 | 49, i, _, h => nomatch Option.some.inj h
 | 50, i, _, h => nomatch Option.some.inj h
 | 51, i, _, h => nomatch Option.some.inj h
 | 52, i, _, h => nomatch Option.some.inj h
 | 53, i, _, h => nomatch Option.some.inj h
 | 54, i, _, h => nomatch Option.some.inj h
 | 55, i, _, h => nomatch Option.some.inj h
 | 56, i, _, h => nomatch Option.some.inj h
 | 57, i, _, h => nomatch Option.some.inj h
 | 58, i, _, h => nomatch Option.some.inj h
 | 59, i, _, h => nomatch Option.some.inj h
 | 60, i, _, h => fnC (Option.some.inj (Option.some.inj h)) fn60
 | n + 61, i, hlt, h => by omega
theorem fns0 : ∀ f i, E0.fs f = some i → FnOk Go.Proofs.Try.prog E0 f i := by
 intro f i h
 have hl : fss[f]? = some (some i) := by
  have h : (fss[f]?).getD none = some i := h
  cases hl : fss[f]? with
  | none => rw [hl] at h; cases h
  | some o => rw [hl] at h; simp only [Option.getD_some] at h; rw [h]
 refine ⟨?_, fnsB_ok code0 hl⟩
 have hlt : f < 61 := (List.getElem?_eq_some_iff.1 hl).1
 exact fnAll f i hlt hl
def J0 (w : World) : Prop := True
theorem env0 : EnvOk Go.Proofs.Try.prog E0 J0 := ⟨tabOk0, byte0, by kernel_rfl, fns0, (fun f g h => by cases h), (fun _ _ _ _ => trivial)⟩
end Go.Proofs.Ytejjggnchdldoaa.Abs
set_option linter.unusedVariables false
set_option linter.unusedSimpArgs false
namespace Go.Proofs.Ytejjggnchdldoaa.Abs
open Go
variable {β : Type} {n : Nat}
section
variable {k : AV → Heap → Option β} {k1 : AV → Option β} {H : Heap}
@[simp] theorem PR_load : (PR n β).load = pLoad := rfl
@[simp] theorem PR_store : (PR n β).store = pStore := rfl
@[simp] theorem PR_new : (PR n β).new = pNew := rfl
@[simp] theorem PR_box : (PR n β).box = pBox := rfl
@[simp] theorem PR_newSl : (PR n β).newSl = pNewSl := rfl
@[simp] theorem PR_fadr : (PR n β).fadr = pFadr := rfl
@[simp] theorem PR_fld : (PR n β).fld = pFld := rfl
@[simp] theorem PR_iadr : (PR n β).iadr = pIadr := rfl
@[simp] theorem PR_idx : (PR n β).idx = pIdx := rfl
@[simp] theorem PR_lenS : (PR n β).lenS = pLenS := rfl
@[simp] theorem PR_len : (PR n β).len = pLen := rfl
@[simp] theorem PR_sliceS : (PR n β).sliceS = pSliceS := rfl
@[simp] theorem PR_slice : (PR n β).slice = pSlice := rfl
@[simp] theorem PR_app : (PR n β).app = pApp := rfl
@[simp] theorem PR_appS : (PR n β).appS = pAppS := rfl
@[simp] theorem PR_bin : (PR n β).bin = pBin := rfl
@[simp] theorem PR_binB : (PR n β).binB = pBinB := rfl
@[simp] theorem PR_binA : (PR n β).binA = pBinA := rfl
@[simp] theorem PR_un : (PR n β).un = pUn := rfl
@[simp] theorem PR_pick : (PR n β).pick = pPick := rfl
@[simp] theorem PR_cvI : (PR n β).cvI = pCvI := rfl
@[simp] theorem PR_cvSS : (PR n β).cvSS = pCvSS := rfl
@[simp] theorem PR_cvBS : (PR n β).cvBS = pCvBS := rfl
@[simp] theorem PR_cvSB : (PR n β).cvSB = pCvSB := rfl
@[simp] theorem PR_extr : (PR n β).extr = pExtr := rfl
@[simp] theorem PR_nil : (PR n β).nil = pNil := rfl
@[simp] theorem PR_fill : (PR n β).fill = fun a l k => (fillA a l).bind k := rfl
@[simp] theorem PR_make : (PR n β).make = pMake := rfl
@[simp] theorem PR_guard : (PR n β).guard = pGuard := rfl
@[simp] theorem PR_cond : (PR n β).cond = pCond := rfl
@[simp] theorem PR_clear : (PR n β).clear = pClear := rfl
@[simp] theorem PR_both : (PR n β).both = pBoth := rfl
@[simp] theorem PR_apart : (PR n β).apart = pApart := rfl
@[simp] theorem PR_same : (PR n β).same = pSame := rfl
noncomputable def plainF (f : Nat) : Bool := E0.hm f || (E0.ext f).isSome
theorem plain_hm {f : Nat} (h : plainF f = false) : E0.hm f = false := by
 unfold plainF at h
 simp only [Bool.or_eq_false_iff] at h
 exact h.1
theorem plain_ext {f : Nat} (h : plainF f = false) : E0.ext f = none := by
 unfold plainF at h
 simp only [Bool.or_eq_false_iff] at h
 simpa using h.2
theorem PR_call {ty : Nat} {f : FuncId} {args vs : List AV} {t : AV} (hh : plainF f = false) (hv : args.mapM (viewV H 8) = some vs) (ht : tree E0 n ty f vs = some t) :
  (PR n β).call ty (.fn f [] []) args H k = k (instT ti0 E0.tp H.length ty t).1 (H ++ (instT ti0 E0.tp H.length ty t).2) := by
 show callF E0 (evalFn E0 n) ty f ([] ++ args ++ []) H k = _
 simp only [callF, plain_ext hh, plain_hm hh, List.nil_append, List.append_nil, Bool.false_eq_true, if_false, callT, hv, Option.bind_some]
 have ht : treeOf E0 (evalFn E0 n) ty f vs = some t := ht
 rw [ht]
 rfl
theorem PR_ext {ty : Nat} {f : FuncId} {g : Nat → List AV → Option AV} {args vs : List AV} {t : AV} (hg : E0.ext f = some g) (hv : args.mapM (viewV H 8) = some vs) (ht : g ty vs = some t) :
  (PR n β).call ty (.fn f [] []) args H k = k (instT ti0 E0.tp H.length ty t).1 (H ++ (instT ti0 E0.tp H.length ty t).2) := by
 show callF E0 (evalFn E0 n) ty f ([] ++ args ++ []) H k = _
 simp only [callF, hg, List.nil_append, List.append_nil, callX, hv, Option.bind_some, ht]
 rfl
end
theorem tree_def (n ty : Nat) (f : FuncId) (args : List AV) : tree E0 n ty f args = evalFn E0 n AV f args [] fun x H => ownTree ti0 E0.tp ty H x := rfl
@[simp] theorem own_scalar {ti : Nat → Option TI} {tp : Nat → Option (List Nat)} (ty : Nat) (H : Heap) (v : Value) : ownTree ti tp ty H (.sc v) = some (.sc v) := rfl
theorem ownT_sl {ti : Nat → Option TI} {tp : Nat → Option (List Nat)} {H : Heap} {d ty id off n z : Nat} : ownT ti tp H (d + 1) ty (.sl id off n z) = (ti ty).bind fun i => (ti i.elem).bind fun j => if z = j.size then (if isApp H id then (rdCells H id off (n * z)).bind fun cs => (ownL (ownT ti tp H d) (List.replicate n j.cty).flatten cs).bind fun q => some (.ro n q.1, id :: q.2) else none) else none := rfl
theorem ownT_agg {ti : Nat → Option TI} {tp : Nat → Option (List Nat)} {H : Heap} {d ty : Nat} {cs : List AV} : ownT ti tp H (d + 1) ty (.agg cs) = (ti ty).bind fun i => (ownL (ownT ti tp H d) i.cty cs).bind fun q => some (.agg q.1, q.2) := rfl
theorem ownT_tup {ti : Nat → Option TI} {tp : Nat → Option (List Nat)} {H : Heap} {d ty : Nat} {cs : List AV} : ownT ti tp H (d + 1) ty (.tup cs) = (tp ty).bind fun ts => (ownL (ownT ti tp H d) ts cs).bind fun q => some (.tup q.1, q.2) := rfl
theorem ownT_sc {ti : Nat → Option TI} {tp : Nat → Option (List Nat)} {H : Heap} {d ty : Nat} {v : Value} : ownT ti tp H (d + 1) ty (.sc v) = some (.sc v, []) := rfl
theorem instT_sc {ti : Nat → Option TI} {tp : Nat → Option (List Nat)} {n ty : Nat} {v : Value} : instT ti tp n ty (.sc v) = (.sc v, []) := rfl
theorem instT_agg {ti : Nat → Option TI} {tp : Nat → Option (List Nat)} {n ty : Nat} {cs : List AV} : instT ti tp n ty (.agg cs) = (.agg (instL ti tp n ((ti ty).getD default).cty cs).1, (instL ti tp n ((ti ty).getD default).cty cs).2) := rfl
theorem instT_tup {ti : Nat → Option TI} {tp : Nat → Option (List Nat)} {n ty : Nat} {cs : List AV} : instT ti tp n ty (.tup cs) = (.tup (instL ti tp n ((tp ty).getD []) cs).1, (instL ti tp n ((tp ty).getD []) cs).2) := rfl
theorem viewV_sl {H : Heap} {d id off n z : Nat} : viewV H (d + 1) (.sl id off n z) = (rdCells H id off (n * z)).bind fun cs => (cs.mapM (viewV H d)).bind fun vs => some (.ro n vs) := rfl
theorem viewV_agg {H : Heap} {d : Nat} {cs : List AV} : viewV H (d + 1) (.agg cs) = (cs.mapM (viewV H d)).bind fun vs => some (.agg vs) := rfl
theorem viewV_sc {H : Heap} {d : Nat} {v : Value} : viewV H (d + 1) (.sc v) = some (.sc v) := rfl
theorem viewV_ro {H : Heap} {d n : Nat} {cs : List AV} : viewV H (d + 1) (.ro n cs) = some (.ro n cs) := rfl
theorem splice_next (l : List AV) (i j : Nat) (z : AV) (hi : i < l.length) : splice (l.take i ++ List.replicate (j + 1) z) i [l[i]] = l.take (i + 1) ++ List.replicate j z := by
 have hlen : (l.take i).length = i := by simp; omega
 have e1 : (l.take i ++ List.replicate (j + 1) z).take i = l.take i := List.take_left' hlen
 have e2 : (l.take i ++ List.replicate (j + 1) z).drop (i + 1) = List.replicate j z := by
  rw [List.drop_append, hlen, List.drop_of_length_le (by omega), List.nil_append, Nat.add_sub_cancel_left, List.replicate_succ, List.drop_one, List.tail_cons]
 unfold splice
 rw [e1, List.length_singleton, e2, List.take_succ_eq_append_getElem hi]
theorem mapM_sc {H : Heap} {d : Nat} : ∀ (l : List Value), (l.map AV.sc).mapM (viewV H (d + 1)) = some (l.map AV.sc)
 | [] => rfl
 | x :: l => by
  have e : viewV H (d + 1) (.sc x) = some (.sc x) := rfl
  simp only [List.map_cons, List.mapM_cons, e, Option.pure_def, Option.bind_eq_bind, Option.bind_some, mapM_sc l]
theorem ownL_sc {ti : Nat → Option TI} {tp : Nat → Option (List Nat)} {H : Heap} {d : Nat} : ∀ (ts : List Nat) (l : List Value), ts.length = l.length → ownL (ownT ti tp H (d + 1)) ts (l.map AV.sc) = some (l.map AV.sc, [])
 | [], [], _ => rfl
 | t :: ts, x :: l, h => by
  have e : ownT ti tp H (d + 1) t (.sc x) = some (.sc x, []) := rfl
  simp only [List.map_cons, ownL, e, Option.bind_some, ownL_sc ts l (by simpa using h), List.append_nil]
 | [], _ :: _, h => by simp at h
 | _ :: _, [], h => by simp at h
theorem instL_sc {ti : Nat → Option TI} {tp : Nat → Option (List Nat)} {n : Nat} : ∀ (ts : List Nat) (l : List Value), instL ti tp n ts (l.map AV.sc) = (l.map AV.sc, [])
 | ts, [] => rfl
 | ts, x :: l => by
  simp only [List.map_cons, instL, instT, instL_sc _ l, List.nil_append]
def bv (s : ByteArray) : List Value := s.data.toList.map fun b => .int .u8 b.toNat
theorem bytesAV_eq (s : ByteArray) : bytesAV s = (bv s).map AV.sc := by simp [bytesAV, bv]
theorem bv_len (s : ByteArray) : (bv s).length = s.size := by simp [bv]
theorem bytesAV_len (s : ByteArray) : (bytesAV s).length = s.size := by simp [bytesAV]
theorem bytesAV_leaf (s : ByteArray) : (bytesAV s).all isLeaf = true := by
 simp only [bytesAV, List.all_map, List.all_eq_true]
 intro b _
 rfl
theorem byteOf_bytes : ∀ (l : List UInt8), (l.map fun b => AV.sc (.int .u8 (b.toNat : Int))).mapM byteOf = some l
 | [] => rfl
 | b :: l => by
  have e : byteOf (.sc (.int .u8 (b.toNat : Int))) = some b := by simp [byteOf]
  simp only [List.map_cons, List.mapM_cons, e, byteOf_bytes l, Option.pure_def, Option.bind_eq_bind, Option.bind_some]
end Go.Proofs.Ytejjggnchdldoaa.Abs
set_option linter.unusedVariables false
set_option linter.unusedSimpArgs false
namespace Go.Proofs.Ytejjggnchdldoaa.Abs
open Go
section gen
variable {ti : Nat → Option TI} {tp : Nat → Option (List Nat)}
def okLW (f : Nat → AV → Prop) : List Nat → List AV → Prop
 | [], [] => True
 | t :: ts, x :: xs => f t x ∧ okLW f ts xs
 | _, _ => False
def okW (ti : Nat → Option TI) (tp : Nat → Option (List Nat)) : Nat → Nat → AV → Prop
 | 0, _, _ => False
 | d + 1, ty, x =>
  match x with
  | .sc _ => True
  | .ro n cells => ∃ i j, ti ty = some i ∧ ti i.elem = some j ∧ cells.length = n * j.size ∧ okLW (okW ti tp d) (List.replicate n j.cty).flatten cells
  | .agg cs => ∃ i, ti ty = some i ∧ okLW (okW ti tp d) i.cty cs
  | .tup cs => ∃ ts, tp ty = some ts ∧ okLW (okW ti tp d) ts cs
  | _ => False
theorem okLW_len {f : Nat → AV → Prop} : ∀ {ts : List Nat} {cs : List AV}, okLW f ts cs → ts.length = cs.length
 | [], [], _ => rfl
 | _ :: ts, _ :: cs, h => by rw [List.length_cons, List.length_cons, okLW_len h.2]
theorem okLW_append {f : Nat → AV → Prop} : ∀ {ts : List Nat} {cs : List AV} {ts' : List Nat} {cs' : List AV}, okLW f ts cs → okLW f ts' cs' → okLW f (ts ++ ts') (cs ++ cs')
 | [], [], _, _, _, h => h
 | _ :: ts, _ :: cs, _, _, h, h' => ⟨h.1, okLW_append h.2 h'⟩
theorem okLW_rows {α : Type} {f : Nat → AV → Prop} {cty : List Nat} {enc : α → List AV} : ∀ (l : List α), (∀ x ∈ l, okLW f cty (enc x)) → okLW f (List.replicate l.length cty).flatten (l.map enc).flatten
 | [], _ => by simp [okLW]
 | x :: l, h => by
  rw [List.length_cons, List.replicate_succ, List.flatten_cons, List.map_cons, List.flatten_cons]
  exact okLW_append (h x List.mem_cons_self) (okLW_rows l fun y hy => h y (List.mem_cons_of_mem _ hy))
theorem okLW_okL {f g : Nat → AV → Prop} (hfg : ∀ t x, f t x → g t x) : ∀ {ts : List Nat} {cs : List AV}, okLW f ts cs → okL g ts cs
 | [], [], _ => trivial
 | _ :: ts, _ :: cs, h => ⟨hfg _ _ h.1, okLW_okL hfg h.2⟩
theorem okW_okTr : ∀ (d : Nat) (ty : Nat) (x : AV), okW ti tp d ty x → okTr ti tp d ty x
 | 0, _, _, h => h
 | d + 1, ty, x, h => by
  cases x with
  | sc v => trivial
  | ro n cells =>
   obtain ⟨i, j, h1, h2, h3, h4⟩ := h
   show cells.length = n * (((ti ty).bind fun i => ti i.elem).getD default).size ∧ _
   simp only [h1, Option.bind_some, h2, Option.getD_some]
   exact ⟨h3, okLW_okL (okW_okTr d) h4⟩
  | agg cs =>
   obtain ⟨i, h1, h2⟩ := h
   show okL _ ((ti ty).getD default).cty cs
   rw [h1]
   exact okLW_okL (okW_okTr d) h2
  | tup cs =>
   obtain ⟨ts, h1, h2⟩ := h
   show okL _ ((tp ty).getD []) cs
   rw [h1]
   exact okLW_okL (okW_okTr d) h2
  | _ => cases h
theorem own_instL {H : Heap} {d : Nat} (hd : ∀ ty t N, okW ti tp d ty t → Lies H N (instT ti tp N ty t).2 → (∀ b ∈ (instT ti tp N ty t).2, b.live = true ∧ b.app = true) → ownT ti tp H d ty (instT ti tp N ty t).1 = some (t, List.range' N (instT ti tp N ty t).2.length)) :
  ∀ (ts : List Nat) (cs : List AV) (N : Nat), okLW (okW ti tp d) ts cs → Lies H N (instL ti tp N ts cs).2 → (∀ b ∈ (instL ti tp N ts cs).2, b.live = true ∧ b.app = true) → ownL (ownT ti tp H d) ts (instL ti tp N ts cs).1 = some (cs, List.range' N (instL ti tp N ts cs).2.length)
 | [], [], N, _, _, _ => rfl
 | t :: ts, x :: cs, N, h, hl, hb => by
  simp only [instL, List.headD_cons, List.tail_cons] at hl hb ⊢
  have h1 := hd t x N h.1 hl.left fun b hb' => hb b (List.mem_append_left _ hb')
  have h2 := own_instL hd ts cs _ h.2 hl.right fun b hb' => hb b (List.mem_append_right _ hb')
  have e := List.range'_append (s := N) (m := (instT ti tp N t x).2.length) (n := (instL ti tp (N + (instT ti tp N t x).2.length) ts cs).2.length) (step := 1)
  rw [Nat.one_mul] at e
  simp only [ownL, h1, h2, Option.bind_some, List.length_append, e]
mutual
theorem inst_live : ∀ (x : AV) (N ty : Nat), ∀ b ∈ (instT ti tp N ty x).2, b.live = true ∧ b.app = true
 | .sc v, N, ty => by intro b h; cases h
 | .ro n cells, N, ty => by
  intro b h
  simp only [instT, List.mem_cons] at h
  rcases h with rfl | h
  ·exact ⟨rfl, rfl⟩
  ·exact instL_live cells _ _ b h
 | .agg cs, N, ty => fun b h => instL_live cs _ _ b h
 | .tup cs, N, ty => fun b h => instL_live cs _ _ b h
 | .any, N, ty => by intro b h; cases h
 | .nl, N, ty => by intro b h; cases h
 | .sl .., N, ty => by intro b h; cases h
 | .ptr .., N, ty => by intro b h; cases h
 | .rp .., N, ty => by intro b h; cases h
 | .fn .., N, ty => by intro b h; cases h
theorem instL_live : ∀ (cs : List AV) (N : Nat) (ts : List Nat), ∀ b ∈ (instL ti tp N ts cs).2, b.live = true ∧ b.app = true
 | [], N, ts => by intro b h; cases h
 | x :: cs, N, ts => by
  intro b h
  simp only [instL, List.mem_append] at h
  rcases h with h | h
  ·exact inst_live x _ _ b h
  ·exact instL_live cs _ _ b h
end
theorem own_inst {H : Heap} : ∀ (d ty : Nat) (t : AV) (N : Nat), okW ti tp d ty t → Lies H N (instT ti tp N ty t).2 → ownT ti tp H d ty (instT ti tp N ty t).1 = some (t, List.range' N (instT ti tp N ty t).2.length)
 | 0, _, _, _, h, _ => by cases h
 | d + 1, ty, t, N, h, hl => by
  have ih := own_instL (H := H) (d := d) (ti := ti) (tp := tp) (fun ty t N h h' _ => own_inst d ty t N h h')
  cases t with
  | sc v => rfl
  | ro n cells =>
   obtain ⟨i, j, h1, h2, h3, h4⟩ := h
   have e : instT ti tp N ty (.ro n cells) = (.sl N 0 n j.size, ⟨(instL ti tp (N + 1) (List.replicate n j.cty).flatten cells).1, true, true⟩ :: (instL ti tp (N + 1) (List.replicate n j.cty).flatten cells).2) := by
    simp only [instT, h1, Option.bind_some, h2, Option.getD_some]
   rw [e] at hl ⊢
   have hb := hl 0 _ rfl
   rw [Nat.add_zero] at hb
   have hv := ih (List.replicate n j.cty).flatten cells (N + 1) h4 hl.tail (instL_live _ _ _)
   have hlen := instL_len (ti := ti) (tp := tp) (N + 1) (List.replicate n j.cty).flatten cells
   have e2 : rdCells H N 0 (n * j.size) = some (instL ti tp (N + 1) (List.replicate n j.cty).flatten cells).1 := by
    simp only [rdCells, hb, if_true, List.drop_zero, Nat.zero_add]
    rw [if_pos (by rw [hlen, h3]; exact Nat.le_refl _), ← h3, ← hlen, List.take_length]
   have e3 : isApp H N = true := by simp only [isApp, hb]
   rw [ownT_sl]
   simp only [h1, h2, Option.bind_some, if_true, e2, e3, hv, List.length_cons]
   rw [List.range'_succ]
  | agg cs =>
   obtain ⟨i, h1, h2⟩ := h
   have e : instT ti tp N ty (.agg cs) = (.agg (instL ti tp N i.cty cs).1, (instL ti tp N i.cty cs).2) := by rw [instT_agg, h1]; rfl
   rw [e] at hl ⊢
   rw [ownT_agg]
   simp only [h1, Option.bind_some, ih i.cty cs N h2 hl (instL_live _ _ _)]
  | tup cs =>
   obtain ⟨ts, h1, h2⟩ := h
   have e : instT ti tp N ty (.tup cs) = (.tup (instL ti tp N ts cs).1, (instL ti tp N ts cs).2) := by rw [instT_tup, h1]; rfl
   rw [e] at hl ⊢
   rw [ownT_tup]
   simp only [h1, Option.bind_some, ih ts cs N h2 hl (instL_live _ _ _)]
  | _ => cases h
theorem Lies_in (A B X : List Blk) : Lies (A ++ B ++ X) A.length B := fun j b hj => by
 have hlt := (List.getElem?_eq_some_iff.1 hj).1
 rw [List.append_assoc, List.getElem?_append_right (by omega), Nat.add_sub_cancel_left, List.getElem?_append_left hlt]
 exact hj
theorem Lies_end (A B : List Blk) : Lies (A ++ B) A.length B := by
 have := Lies_in A B []
 rwa [List.append_nil] at this
theorem own_ret (A : List Blk) (ty : Nat) (t : AV) (h : okW ti tp 8 ty t) : ownTree ti tp ty (A ++ (instT ti tp A.length ty t).2) (instT ti tp A.length ty t).1 = some t := by
 rw [ownTree, own_inst 8 ty t A.length h (Lies_end _ _)]
 simp only [Option.bind_some]
 rw [if_pos (List.nodup_range')]
def Vw (H : Heap) (x v : AV) : Prop := ∀ X : List Blk, viewV (H ++ X) 8 x = some v
theorem Vw.grow {H : Heap} {x v : AV} (h : Vw H x v) (X : List Blk) : Vw (H ++ X) x v := fun Y => by
 rw [List.append_assoc]
 exact h _
theorem Vw.now {H : Heap} {x v : AV} (h : Vw H x v) : viewV H 8 x = some v := by
 have := h []
 rwa [List.append_nil] at this
theorem Vw_inst (H : Heap) (ty : Nat) (t : AV) (h : okW ti tp 8 ty t) : Vw (H ++ (instT ti tp H.length ty t).2) (instT ti tp H.length ty t).1 t := fun X => view_inst 8 ty t H.length (okW_okTr 8 ty t h) (Lies_in _ _ _)
theorem Vw_sc (H : Heap) (v : Value) : Vw H (.sc v) (.sc v) := fun _ => rfl
theorem Vw_ro (H : Heap) (n : Nat) (cs : List AV) : Vw H (.ro n cs) (.ro n cs) := fun _ => rfl
def isFl : AV → Bool
 | .sc v => leafV v
 | .ro _ _ => true
 | _ => false
theorem fl_leaf {cs : List AV} (h : cs.all isFl = true) : cs.all isLeaf = true := by
 rw [List.all_eq_true] at h ⊢
 intro x hx
 have := h x hx
 cases x <;> simp_all [isFl, isLeaf]
theorem fl_cells {cs : List AV} (h : cs.all isFl = true) : cellsA (.agg cs) = some cs := by
 show (if cs.all isLeaf then some cs else none) = _
 rw [if_pos (fl_leaf h)]
theorem fl_view {H : Heap} {d : Nat} : ∀ {cs : List AV}, cs.all isFl = true → cs.mapM (viewV H (d + 1)) = some cs
 | [], _ => rfl
 | x :: cs, h => by
  rw [List.all_cons, Bool.and_eq_true] at h
  have e : viewV H (d + 1) x = some x := by
   have := h.1
   cases x <;> first | rfl | (exfalso; simp [isFl] at this)
  simp only [List.mapM_cons, e, fl_view h.2, Option.pure_def, Option.bind_eq_bind, Option.bind_some]
theorem Vw_agg (H : Heap) {cs : List AV} (h : cs.all isFl = true) : Vw H (.agg cs) (.agg cs) := fun X => by
 rw [viewV_agg, fl_view h]
 rfl
theorem instL_leaf : ∀ (cs : List AV) (N : Nat) (ts : List Nat), cs.all isFl = true → (instL ti tp N ts cs).1.all isLeaf = true
 | [], _, _, _ => rfl
 | x :: cs, N, ts, h => by
  rw [List.all_cons, Bool.and_eq_true] at h
  simp only [instL, List.all_cons, Bool.and_eq_true]
  refine ⟨?_, instL_leaf cs _ _ h.2⟩
  have := h.1
  cases x <;> first | exact this | rfl | (exfalso; simp [isFl] at this)
theorem instL_append : ∀ (ts : List Nat) (cs : List AV) (ts' : List Nat) (cs' : List AV) (N : Nat), ts.length = cs.length →
  instL ti tp N (ts ++ ts') (cs ++ cs') = ((instL ti tp N ts cs).1 ++ (instL ti tp (N + (instL ti tp N ts cs).2.length) ts' cs').1, (instL ti tp N ts cs).2 ++ (instL ti tp (N + (instL ti tp N ts cs).2.length) ts' cs').2)
 | [], [], ts', cs', N, _ => by simp [instL]
 | t :: ts, x :: cs, ts', cs', N, h => by
  have ih := instL_append ts cs ts' cs' (N + (instT ti tp N t x).2.length) (by simpa using h)
  simp only [List.cons_append, instL, List.headD_cons, List.tail_cons, ih, List.length_append, List.append_assoc, Nat.add_assoc]
end gen
section ops
variable {β : Type}
theorem iadr_ro (w len : Nat) (cells : List AV) (i : Nat) (k : AV → Option β) (h : i < len) (h2 : i * w < cells.length) : pIadr w (.ro len cells) (.sc (.int .i64 i)) k = k (.rp (cells.drop (i * w))) := by
 simp only [pIadr, asI, Option.bind_some, Int.toNat_natCast]
 rw [if_pos ⟨by omega, by omega⟩, if_pos h2]
theorem iadr_sl (w len id off : Nat) (i : Nat) (k : AV → Option β) (h : i < len) : pIadr w (.sl id off len w) (.sc (.int .i64 i)) k = k (.ptr id (off + i * w)) := by
 simp only [pIadr, asI, Option.bind_some, Int.toNat_natCast, if_true]
 rw [if_pos ⟨by omega, by omega⟩]
theorem ld_rp (w : Nat) (cs r : List AV) (H : Heap) (k : AV → Option β) (h : cs.length = w) : pLoad true w (.rp (cs ++ r)) H k = k (.agg cs) := by
 simp only [pLoad, List.length_append, h, Nat.le_add_right, if_true, List.take_left' h]
theorem ld1_rp (c : AV) (r : List AV) (H : Heap) (k : AV → Option β) : pLoad false 1 (.rp (c :: r)) H k = k c := by
 simp only [pLoad, List.length_cons, Nat.le_add_left, if_true, Bool.false_eq_true, if_false]
 rfl
theorem st_at (w id off : Nat) (y : AV) (b : Blk) (cs : List AV) (H : Heap) (k : Heap → Option β) (h : H[id]? = some b) (hc : cellsA y = some cs) (hl : cs.length = w) (ho : off + w ≤ b.cells.length) (hb : b.live = true) : pStore w (.ptr id off) y H k = k (H.set id { b with cells := splice b.cells off cs }) := by
 simp only [pStore, h, hc, Option.bind_some, hb, if_true, hl, ho]
theorem splice_mid (A z C cs : List AV) (h : z.length = cs.length) : splice (A ++ (z ++ C)) A.length cs = A ++ (cs ++ C) := by
 unfold splice
 rw [List.take_left' rfl, ← List.append_assoc A z C, List.drop_append_of_le_length (by rw [List.length_append]; omega), ← h, ← List.length_append, List.drop_length, List.nil_append, List.append_assoc]
theorem lss_nat (a b : Nat) (k : AV → Option β) : pBin .lss (.sc (.int .i64 a)) (.sc (.int .i64 b)) k = k (.sc (.bool (decide (a < b)))) := by
 show k (.sc (.bool (decide ((a : Int) < (b : Int))))) = _
 rw [show decide ((a : Int) < (b : Int)) = decide (a < b) from by simp]
theorem inc_nat (a : Nat) (k : AV → Option β) (h : a < 9223372036854775807) : pBin .add (.sc (.int .i64 a)) (.sc (.int .i64 1)) k = k (.sc (.int .i64 (a + 1 : Nat))) := by
 show k (.sc (.int .i64 (IntKind.i64.wrap ((a : Int) + 1)))) = _
 have e : IntKind.i64.wrap ((a : Int) + 1) = ((a + 1 : Nat) : Int) := by
  rw [IntKind.wrap_i64, Int.natCast_add]
  simp only [Int.cast_ofNat_Int]
  omega
 rw [e]
theorem cond_b (b : Bool) (x y : Option β) : pCond (.sc (.bool b)) x y = if b then x else y := rfl
theorem len_ro (n : Nat) (cs : List AV) (k : AV → Option β) : pLen (.ro n cs) k = k (.sc (.int .i64 n)) := rfl
theorem wrap64 (n : Int) (h0 : -9223372036854775808 ≤ n) (h1 : n ≤ 9223372036854775807) : IntKind.i64.wrap n = n := by
 rw [IntKind.wrap_i64]; omega
theorem sub64 (a b : Int) (k : AV → Option β) (h0 : -9223372036854775808 ≤ a - b) (h1 : a - b ≤ 9223372036854775807) : pBin .sub (.sc (.int .i64 a)) (.sc (.int .i64 b)) k = k (.sc (.int .i64 (a - b))) := by
 show k (.sc (.int .i64 (IntKind.i64.wrap (a - b)))) = _
 rw [wrap64 _ h0 h1]
theorem lss64 (a b : Int) (k : AV → Option β) : pBin .lss (.sc (.int .i64 a)) (.sc (.int .i64 b)) k = k (.sc (.bool (decide (a < b)))) := rfl
theorem drop_rows {α : Type} {w : Nat} {enc : α → List AV} (hw : ∀ x, (enc x).length = w) (pre r : List α) : ((pre ++ r).map enc).flatten.drop (pre.length * w) = (r.map enc).flatten := by
 have hl : ((pre.map enc).flatten).length = pre.length * w := by
  induction pre with
  | nil => simp
  | cons x pre ih => rw [List.map_cons, List.flatten_cons, List.length_append, ih, hw, List.length_cons, Nat.succ_mul, Nat.add_comm]
 rw [List.map_append, List.flatten_append, List.drop_append_of_le_length (by omega), ← hl, List.drop_length, List.nil_append]
theorem rows_len {α : Type} {w : Nat} {enc : α → List AV} (hw : ∀ x, (enc x).length = w) (l : List α) : ((l.map enc).flatten).length = l.length * w := by
 induction l with
 | nil => simp
 | cons x l ih => rw [List.map_cons, List.flatten_cons, List.length_append, ih, hw, List.length_cons, Nat.succ_mul, Nat.add_comm]
theorem el_ro {α : Type} {w : Nat} {enc : α → List AV} (hw : ∀ x, (enc x).length = w) (h0 : 0 < w) (pre : List α) (x : α) (r : List α) (k : AV → Option β) :
  pIadr w (.ro (pre ++ x :: r).length ((pre ++ x :: r).map enc).flatten) (.sc (.int .i64 pre.length)) k = k (.rp (enc x ++ (r.map enc).flatten)) := by
 have hl := rows_len hw (pre ++ x :: r)
 have h1 : pre.length < (pre ++ x :: r).length := by simp
 rw [iadr_ro w _ _ pre.length k h1 (by rw [hl]; exact Nat.mul_lt_mul_of_pos_right h1 h0), drop_rows hw pre (x :: r), List.map_cons, List.flatten_cons]
theorem to_loop {α : Type} {n te g w : Nat} {cty : List Nat} (enc : α → List AV) (k : AV → Heap → Option β) (z : List AV) (hz : z.length = w) (hw : ∀ x, (enc x).length = w) (hc : cty.length = w) (h0 : 0 < w)
  (hte : ∃ i, ti0 te = some i ∧ i.cty = cty) (hfl : ∀ x, (enc x).all isFl = true) (hh : plainF g = false) (L : Nat → AV → AV → AV → Heap → Option β)
  (hL : ∀ m a o i H, L (m + 1) a o i H = pLen a fun t10 => pBin .lss i t10 fun t11 => pCond t11 (pIadr w a i fun t18 => pLoad true w t18 H fun t19 => (PR n β).call te (.fn g [] []) [t19] H fun t20 H => pIadr w o i fun t21 => pStore w t21 t20 H fun H => pBin .add i (.sc (.int .i64 1)) fun t13 => L m a o t13 H) (k o H))
  (l : List α) (hto : ∀ x ∈ l, tree E0 n te g [.agg (enc x)] = some (.agg (enc x))) (hlen : l.length ≤ 1048576) : ∀ (r pre : List α) (m : Nat), l = pre ++ r → r.length < m →
   L m (.ro l.length (l.map enc).flatten) (.sl 0 0 l.length w) (.sc (.int .i64 pre.length)) (⟨(instL ti0 E0.tp 1 (List.replicate pre.length cty).flatten (pre.map enc).flatten).1 ++ (List.replicate r.length z).flatten, true, true⟩ :: (instL ti0 E0.tp 1 (List.replicate pre.length cty).flatten (pre.map enc).flatten).2)
    = k (.sl 0 0 l.length w) (⟨(instL ti0 E0.tp 1 (List.replicate l.length cty).flatten (l.map enc).flatten).1, true, true⟩ :: (instL ti0 E0.tp 1 (List.replicate l.length cty).flatten (l.map enc).flatten).2)
 | [], pre, m + 1, hl, hm => by
  rw [List.append_nil] at hl
  subst hl
  rw [hL, len_ro, lss_nat, cond_b]
  simp
 | x :: r, pre, m + 1, hl, hm => by
  have hlt : pre.length < l.length := by rw [hl]; simp
  rw [hL, len_ro, lss_nat, cond_b, if_pos (by simpa using hlt)]
  have hel := fun k => el_ro (β := β) hw h0 pre x r k
  rw [← hl] at hel
  rw [hel, ld_rp w _ _ _ _ (hw x)]
  rw [PR_call (vs := [.agg (enc x)]) hh (by rw [List.mapM_cons, (Vw_agg _ (hfl x)).now]; rfl) (hto x (by rw [hl]; simp))]
  rw [iadr_sl w _ _ _ _ _ hlt]
  obtain ⟨i, hi, rfl⟩ := hte
  have hr : (List.replicate pre.length i.cty).flatten.length = ((pre.map enc).flatten).length := by rw [rows_len hw]; simp [hc]
  have hJ := instL_append (ti := ti0) (tp := E0.tp) (List.replicate pre.length i.cty).flatten (pre.map enc).flatten i.cty (enc x) 1 hr
  generalize hP : instL ti0 E0.tp 1 (List.replicate pre.length i.cty).flatten (pre.map enc).flatten = P at hJ ⊢
  have hPl : P.1.length = pre.length * w := by rw [← hP, instL_len, rows_len hw]
  have hN : (⟨P.1 ++ (List.replicate (x :: r).length z).flatten, true, true⟩ :: P.2 : Heap).length = 1 + P.2.length := by simp [Nat.add_comm]
  rw [hN, instT_agg, hi, Option.getD_some]
  simp only
  generalize hQ : instL ti0 E0.tp (1 + P.2.length) i.cty (enc x) = Q at hJ ⊢
  have hQl : Q.1.length = w := by rw [← hQ, instL_len, hw]
  have hcl : cellsA (.agg Q.1) = some Q.1 := by
   show (if Q.1.all isLeaf then some Q.1 else none) = _
   rw [if_pos (by rw [← hQ]; exact instL_leaf _ _ _ (hfl x))]
  rw [List.cons_append, st_at w 0 (0 + pre.length * w) (.agg Q.1) ⟨P.1 ++ (List.replicate (x :: r).length z).flatten, true, true⟩ Q.1 _ _ rfl hcl hQl (by simp [hPl, hz, Nat.succ_mul]) rfl]
  rw [List.set_cons_zero, inc_nat _ _ (by omega)]
  have ih := to_loop enc k z hz hw hc h0 ⟨i, hi, rfl⟩ hfl hh L hL l hto hlen r (pre ++ [x]) m (by rw [hl]; simp) (by simpa using hm)
  have e1 : (List.replicate (pre ++ [x]).length i.cty).flatten = (List.replicate pre.length i.cty).flatten ++ i.cty := by
   rw [List.length_append, List.length_singleton, List.replicate_succ', List.flatten_append]; simp
  have e2 : ((pre ++ [x]).map enc).flatten = (pre.map enc).flatten ++ enc x := by simp
  rw [e1, e2, hJ] at ih
  have e3 : splice (P.1 ++ (List.replicate (x :: r).length z).flatten) (0 + pre.length * w) Q.1 = P.1 ++ Q.1 ++ (List.replicate r.length z).flatten := by
   rw [List.length_cons, List.replicate_succ, List.flatten_cons, Nat.zero_add, ← hPl, splice_mid _ _ _ _ (by rw [hz, hQl]), List.append_assoc]
  simp only [e3]
  rw [List.length_append, List.length_singleton] at ih
  exact ih
theorem to_slice {α : Type} {n te tyS f g w bytes : Nat} {cty : List Nat} (enc : α → List AV) (z : List AV) (hz : z.length = w) (hw : ∀ x, (enc x).length = w) (hc : cty.length = w) (h0 : 0 < w)
  (hty : ∃ i j, ti0 tyS = some i ∧ ti0 i.elem = some j ∧ j.size = w ∧ j.cty = cty) (hte : ∃ i, ti0 te = some i ∧ i.cty = cty) (hfl : ∀ x, (enc x).all isFl = true) (hh : plainF g = false) (L : (AV → Heap → Option AV) → Nat → AV → AV → AV → Heap → Option AV)
  (hL : ∀ k m a o i H, L k (m + 1) a o i H = pLen a fun t10 => pBin .lss i t10 fun t11 => pCond t11 (pIadr w a i fun t18 => pLoad true w t18 H fun t19 => (PR n AV).call te (.fn g [] []) [t19] H fun t20 H => pIadr w o i fun t21 => pStore w t21 t20 H fun H => pBin .add i (.sc (.int .i64 1)) fun t13 => L k m a o t13 H) (k o H))
  (hF : ∀ a H k, evalFn E0 (n + 1) AV f [a] H k = pLen a fun t6 => pMake w bytes z t6 t6 H fun t7 H => L k n a t7 (.sc (.int .i64 0)) H)
  (hby : bytes ≤ 134217728) (l : List α) (hto : ∀ x ∈ l, tree E0 n te g [.agg (enc x)] = some (.agg (enc x))) (hok : ∀ x ∈ l, okLW (okW ti0 E0.tp 7) cty (enc x)) (hlen : l.length ≤ 1048576) (hn : 1048576 < n) :
  tree E0 (n + 1) tyS f [.ro l.length (l.map enc).flatten] = some (.ro l.length (l.map enc).flatten) := by
 rw [tree_def, hF, len_ro]
 have hb : l.length * bytes ≤ 140737488355328 := Nat.le_trans (Nat.mul_le_mul hlen hby) (by decide)
 simp only [pMake, asI, Option.bind_some, if_true, Int.toNat_natCast, hb, Int.natCast_nonneg, pNewSl, List.length_nil, List.nil_append]
 have key := to_loop (n := n) (te := te) (g := g) (cty := cty) enc (fun x H => ownTree ti0 E0.tp tyS H x) z hz hw hc h0 hte hfl hh _ (hL _) l hto hlen l [] n (by simp) (by omega)
 simp only [List.length_nil, List.replicate_zero, List.flatten_nil, List.map_nil, instL, List.nil_append, Int.natCast_zero] at key
 refine key.trans ?_
 obtain ⟨i, j, h1, h2, h3, rfl⟩ := hty
 have hok' : okW ti0 E0.tp 8 tyS (.ro l.length (l.map enc).flatten) := ⟨i, j, h1, h2, by rw [rows_len hw, h3], okLW_rows l hok⟩
 have := own_ret [] tyS _ hok'
 simp only [instT, h1, h2, Option.bind_some, Option.getD_some, List.length_nil, List.nil_append, Nat.zero_add, h3] at this
 exact this
theorem flat_loop {α : Type} {n : Nat} (e : α → Value) (k : AV → Heap → Option β) (z : AV) (hlf : ∀ x, leafV (e x) = true) (L : Nat → AV → AV → AV → Heap → Option β)
  (hL : ∀ m a o i H, L (m + 1) a o i H = pLen a fun t10 => pBin .lss i t10 fun t11 => pCond t11 (pIadr 1 a i fun t18 => pLoad false 1 t18 H fun t19 => pIadr 1 o i fun t21 => pStore 1 t21 t19 H fun H => pBin .add i (.sc (.int .i64 1)) fun t13 => L m a o t13 H) (k o H))
  (l : List α) (hlen : l.length ≤ 1048576) : ∀ (r pre : List α) (m : Nat), l = pre ++ r → r.length < m →
   L m (.ro l.length (l.map fun x => .sc (e x))) (.sl 0 0 l.length 1) (.sc (.int .i64 pre.length)) [⟨(pre.map fun x => .sc (e x)) ++ List.replicate r.length z, true, true⟩]
    = k (.sl 0 0 l.length 1) [⟨l.map fun x => .sc (e x), true, true⟩]
 | [], pre, m + 1, hl, hm => by
  rw [List.append_nil] at hl
  subst hl
  rw [hL, len_ro, lss_nat, cond_b]
  simp
 | x :: r, pre, m + 1, hl, hm => by
  have hlt : pre.length < l.length := by rw [hl]; simp
  rw [hL, len_ro, lss_nat, cond_b, if_pos (by simpa using hlt)]
  rw [iadr_ro 1 _ _ pre.length _ hlt (by simpa using hlt)]
  have hd : (l.map fun x => AV.sc (e x)).drop (pre.length * 1) = .sc (e x) :: r.map fun x => .sc (e x) := by
   rw [Nat.mul_one, hl, List.map_append, List.drop_append_of_le_length (by simp)]
   rw [show pre.length = (pre.map fun x => AV.sc (e x)).length by simp, List.drop_length]
   rfl
  rw [hd, ld1_rp, iadr_sl 1 _ _ _ _ _ hlt]
  have hc : cellsA (.sc (e x)) = some [.sc (e x)] := by
   show cellsA (.sc (e x)) = _
   simp only [cellsA, isLeaf, hlf, if_true]
  rw [st_at 1 0 (0 + pre.length * 1) (.sc (e x)) ⟨(pre.map fun x => .sc (e x)) ++ List.replicate (x :: r).length z, true, true⟩ [.sc (e x)] _ _ rfl hc rfl (by simp) rfl]
  rw [List.set_cons_zero, inc_nat _ _ (by omega)]
  have ih := flat_loop (n := n) e k z hlf L hL l hlen r (pre ++ [x]) m (by rw [hl]; simp) (by simpa using hm)
  have e3 : splice ((pre.map fun x => AV.sc (e x)) ++ List.replicate (x :: r).length z) (0 + pre.length * 1) [.sc (e x)] = ((pre ++ [x]).map fun x => AV.sc (e x)) ++ List.replicate r.length z := by
   have := splice_mid (pre.map fun x => AV.sc (e x)) [z] (List.replicate r.length z) [.sc (e x)] rfl
   rw [List.length_map] at this
   rw [List.length_cons, List.replicate_succ, Nat.zero_add, Nat.mul_one]
   refine this.trans ?_
   simp
  simp only [e3]
  rw [List.length_append, List.length_singleton] at ih
  exact ih
theorem to_flat {α : Type} {n tyS f bytes : Nat} (e : α → Value) (z : AV) (hlf : ∀ x, leafV (e x) = true) (hty : ∃ i j, ti0 tyS = some i ∧ ti0 i.elem = some j ∧ j.size = 1 ∧ j.cty.length = 1) (L : (AV → Heap → Option AV) → Nat → AV → AV → AV → Heap → Option AV)
  (hL : ∀ k m a o i H, L k (m + 1) a o i H = pLen a fun t10 => pBin .lss i t10 fun t11 => pCond t11 (pIadr 1 a i fun t18 => pLoad false 1 t18 H fun t19 => pIadr 1 o i fun t21 => pStore 1 t21 t19 H fun H => pBin .add i (.sc (.int .i64 1)) fun t13 => L k m a o t13 H) (k o H))
  (hF : ∀ a H k, evalFn E0 (n + 1) AV f [a] H k = pLen a fun t6 => pMake 1 bytes [z] t6 t6 H fun t7 H => L k n a t7 (.sc (.int .i64 0)) H)
  (hby : bytes ≤ 134217728) (l : List α) (hlen : l.length ≤ 1048576) (hn : 1048576 < n) :
  tree E0 (n + 1) tyS f [.ro l.length (l.map fun x => .sc (e x))] = some (.ro l.length (l.map fun x => .sc (e x))) := by
 rw [tree_def, hF, len_ro]
 have hb : l.length * bytes ≤ 140737488355328 := Nat.le_trans (Nat.mul_le_mul hlen hby) (by decide)
 have hz : (List.replicate l.length [z]).flatten = List.replicate l.length z := by
  generalize l.length = m
  induction m with
  | zero => rfl
  | succ m ih => rw [List.replicate_succ, List.flatten_cons, ih, List.replicate_succ]; rfl
 simp only [pMake, asI, Option.bind_some, if_true, Int.toNat_natCast, hb, Int.natCast_nonneg, pNewSl, List.length_nil, List.nil_append, hz]
 have key := flat_loop (n := n) e (fun x H => ownTree ti0 E0.tp tyS H x) z hlf _ (hL _) l hlen l [] n (by simp) (by omega)
 simp only [List.length_nil, List.map_nil, List.nil_append, Int.natCast_zero] at key
 refine key.trans ?_
 obtain ⟨i, j, h1, h2, h3, h4⟩ := hty
 have em : (l.map fun x => AV.sc (e x)) = (l.map e).map AV.sc := by rw [List.map_map]; rfl
 have hl1 : (List.replicate l.length j.cty).flatten.length = (l.map e).length := by simp [h4]
 have e3 := ownL_sc (ti := ti0) (tp := E0.tp) (H := [⟨l.map fun x => AV.sc (e x), true, true⟩]) (d := 6) _ _ hl1
 have e2 : rdCells [⟨l.map fun x => AV.sc (e x), true, true⟩] 0 0 (l.length * 1) = some (l.map fun x => AV.sc (e x)) := by
  simp [rdCells, List.take_of_length_le]
 rw [ownTree, ownT_sl]
 simp only [h1, h2, h3, Option.bind_some, if_true, e2, isApp, List.getElem?_cons_zero]
 rw [em] at e3 ⊢
 rw [e3]
 rfl
theorem eq_loop {α : Type} {n tb g w : Nat} (enc : α → List AV) (k : AV → Heap → Option β) (hw : ∀ x, (enc x).length = w) (h0 : 0 < w) (hfl : ∀ x, (enc x).all isFl = true) (hh : plainF g = false) (L : Nat → AV → AV → AV → Heap → Option β)
  (hL : ∀ m a b i H, L (m + 1) a b i H = pLen a fun t13 => pBin .lss i t13 fun t14 => pCond t14 (pIadr w a i fun t19 => pLoad true w t19 H fun t20 => pIadr w b i fun t23 => pLoad true w t23 H fun t24 => (PR n β).call tb (.fn g [] []) [t20, t24] H fun t25 H => pUn .not t25 fun t26 => pCond t26 (k (.sc (.bool false)) H) (pBin .add i (.sc (.int .i64 1)) fun t16 => L m a b t16 H)) (k (.sc (.bool true)) H))
  (l : List α) (heq : ∀ x ∈ l, tree E0 n tb g [.agg (enc x), .agg (enc x)] = some (.sc (.bool true))) (hlen : l.length ≤ 1048576) (H : Heap) : ∀ (r pre : List α) (m : Nat), l = pre ++ r → r.length < m →
   L m (.ro l.length (l.map enc).flatten) (.ro l.length (l.map enc).flatten) (.sc (.int .i64 pre.length)) H = k (.sc (.bool true)) H
 | [], pre, m + 1, hl, hm => by
  rw [List.append_nil] at hl
  subst hl
  rw [hL, len_ro, lss_nat, cond_b]
  simp
 | x :: r, pre, m + 1, hl, hm => by
  have hlt : pre.length < l.length := by rw [hl]; simp
  rw [hL, len_ro, lss_nat, cond_b, if_pos (by simpa using hlt)]
  have hel := fun k => el_ro (β := β) hw h0 pre x r k
  rw [← hl] at hel
  rw [hel, ld_rp w _ _ _ _ (hw x), hel, ld_rp w _ _ _ _ (hw x)]
  rw [PR_call (vs := [.agg (enc x), .agg (enc x)]) hh (by simp only [List.mapM_cons, (Vw_agg _ (hfl x)).now]; rfl) (heq x (by rw [hl]; simp))]
  rw [instT_sc]
  simp only [pUn, Bool.not_true, List.append_nil]
  rw [cond_b, if_neg (by simp), inc_nat _ _ (by omega)]
  have ih := eq_loop enc k hw h0 hfl hh L hL l heq hlen H r (pre ++ [x]) m (by rw [hl]; simp) (by simpa using hm)
  rw [List.length_append, List.length_singleton] at ih
  exact ih
theorem neq_nat (a b : Nat) (k : AV → Option β) : pBin .neq (.sc (.int .i64 a)) (.sc (.int .i64 b)) k = k (.sc (.bool (decide (a ≠ b)))) := by
 show k (.sc (.bool ((a : Int) != (b : Int)))) = _
 congr 3
 by_cases h : a = b
 ·subst h; simp
 ·simp [bne, h]; omega
theorem eq_slice {α : Type} {n tb f g w : Nat} (enc : α → List AV) (hw : ∀ x, (enc x).length = w) (h0 : 0 < w) (hfl : ∀ x, (enc x).all isFl = true) (hh : plainF g = false) (L : (AV → Heap → Option AV) → Nat → AV → AV → AV → Heap → Option AV)
  (hL : ∀ k m a b i H, L k (m + 1) a b i H = pLen a fun t13 => pBin .lss i t13 fun t14 => pCond t14 (pIadr w a i fun t19 => pLoad true w t19 H fun t20 => pIadr w b i fun t23 => pLoad true w t23 H fun t24 => (PR n AV).call tb (.fn g [] []) [t20, t24] H fun t25 H => pUn .not t25 fun t26 => pCond t26 (k (.sc (.bool false)) H) (pBin .add i (.sc (.int .i64 1)) fun t16 => L k m a b t16 H)) (k (.sc (.bool true)) H))
  (hF : ∀ a b H k, evalFn E0 (n + 1) AV f [a, b] H k = pLen a fun t7 => pLen b fun t9 => pBin .neq t7 t9 fun t10 => pCond t10 (k (.sc (.bool false)) H) (L k n a b (.sc (.int .i64 0)) H))
  (l : List α) (heq : ∀ x ∈ l, tree E0 n tb g [.agg (enc x), .agg (enc x)] = some (.sc (.bool true))) (hlen : l.length ≤ 1048576) (hn : 1048576 < n) (tb' : Nat) :
  tree E0 (n + 1) tb' f [.ro l.length (l.map enc).flatten, .ro l.length (l.map enc).flatten] = some (.sc (.bool true)) := by
 rw [tree_def, hF, len_ro, len_ro, neq_nat, cond_b, if_neg (by simp)]
 have key := eq_loop (n := n) (tb := tb) (g := g) enc (fun x H => ownTree ti0 E0.tp tb' H x) hw h0 hfl hh (L fun x H => ownTree ti0 E0.tp tb' H x) (hL fun x H => ownTree ti0 E0.tp tb' H x) l heq hlen [] l [] n (by simp) (by omega)
 simp only [List.length_nil, Int.natCast_zero] at key
 rw [key]
 rfl
theorem eqf_loop {α : Type} {n : Nat} (e : α → Value) (k : AV → Heap → Option β) (hne : ∀ (x : α) (γ : Type) (k : AV → Option γ), pBin .neq (.sc (e x)) (.sc (e x)) k = k (.sc (.bool false))) (L : Nat → AV → AV → AV → Heap → Option β)
  (hL : ∀ m a b i H, L (m + 1) a b i H = pLen a fun t13 => pBin .lss i t13 fun t14 => pCond t14 (pIadr 1 a i fun t19 => pLoad false 1 t19 H fun t20 => pIadr 1 b i fun t23 => pLoad false 1 t23 H fun t24 => pBin .neq t20 t24 fun t25 => pCond t25 (k (.sc (.bool false)) H) (pBin .add i (.sc (.int .i64 1)) fun t16 => L m a b t16 H)) (k (.sc (.bool true)) H))
  (l : List α) (hlen : l.length ≤ 1048576) (H : Heap) : ∀ (r pre : List α) (m : Nat), l = pre ++ r → r.length < m →
   L m (.ro l.length (l.map fun x => .sc (e x))) (.ro l.length (l.map fun x => .sc (e x))) (.sc (.int .i64 pre.length)) H = k (.sc (.bool true)) H
 | [], pre, m + 1, hl, hm => by
  rw [List.append_nil] at hl
  subst hl
  rw [hL, len_ro, lss_nat, cond_b]
  simp
 | x :: r, pre, m + 1, hl, hm => by
  have hlt : pre.length < l.length := by rw [hl]; simp
  rw [hL, len_ro, lss_nat, cond_b, if_pos (by simpa using hlt)]
  have hd : (l.map fun x => AV.sc (e x)).drop (pre.length * 1) = .sc (e x) :: r.map fun x => .sc (e x) := by
   rw [Nat.mul_one, hl, List.map_append, List.drop_append_of_le_length (by simp)]
   rw [show pre.length = (pre.map fun x => AV.sc (e x)).length by simp, List.drop_length]
   rfl
  rw [iadr_ro 1 _ _ pre.length _ hlt (by simpa using hlt), hd, ld1_rp, iadr_ro 1 _ _ pre.length _ hlt (by simpa using hlt), hd, ld1_rp, hne, cond_b, if_neg (by simp), inc_nat _ _ (by omega)]
  have ih := eqf_loop (n := n) e k hne L hL l hlen H r (pre ++ [x]) m (by rw [hl]; simp) (by simpa using hm)
  rw [List.length_append, List.length_singleton] at ih
  exact ih
theorem eq_flat {α : Type} {n f : Nat} (e : α → Value) (hne : ∀ (x : α) (γ : Type) (k : AV → Option γ), pBin .neq (.sc (e x)) (.sc (e x)) k = k (.sc (.bool false))) (L : (AV → Heap → Option AV) → Nat → AV → AV → AV → Heap → Option AV)
  (hL : ∀ k m a b i H, L k (m + 1) a b i H = pLen a fun t13 => pBin .lss i t13 fun t14 => pCond t14 (pIadr 1 a i fun t19 => pLoad false 1 t19 H fun t20 => pIadr 1 b i fun t23 => pLoad false 1 t23 H fun t24 => pBin .neq t20 t24 fun t25 => pCond t25 (k (.sc (.bool false)) H) (pBin .add i (.sc (.int .i64 1)) fun t16 => L k m a b t16 H)) (k (.sc (.bool true)) H))
  (hF : ∀ a b H k, evalFn E0 (n + 1) AV f [a, b] H k = pLen a fun t7 => pLen b fun t9 => pBin .neq t7 t9 fun t10 => pCond t10 (k (.sc (.bool false)) H) (L k n a b (.sc (.int .i64 0)) H))
  (l : List α) (hlen : l.length ≤ 1048576) (hn : 1048576 < n) (tb' : Nat) :
  tree E0 (n + 1) tb' f [.ro l.length (l.map fun x => .sc (e x)), .ro l.length (l.map fun x => .sc (e x))] = some (.sc (.bool true)) := by
 rw [tree_def, hF, len_ro, len_ro, neq_nat, cond_b, if_neg (by simp)]
 have key := eqf_loop (n := n) e (fun x H => ownTree ti0 E0.tp tb' H x) hne (L fun x H => ownTree ti0 E0.tp tb' H x) (hL fun x H => ownTree ti0 E0.tp tb' H x) l hlen [] l [] n (by simp) (by omega)
 simp only [List.length_nil, Int.natCast_zero] at key
 rw [key]
 rfl
def szR (w : Nat) (left : Int) : Int := if left < w then -1 else left - w
def wtL {α : Type} (wt : α → Nat) : List α → Nat
 | [] => 0
 | x :: l => 1 + wt x + wtL wt l
def wtS {α : Type} (wt : α → Nat) : List α → Nat
 | [] => 0
 | x :: l => wt x + wtS wt l
theorem wtL_eq {α : Type} (wt : α → Nat) : ∀ l : List α, wtL wt l = l.length + wtS wt l
 | [] => rfl
 | x :: l => by rw [wtL, wtS, wtL_eq wt l, List.length_cons]; omega
theorem wtS_mem {α : Type} {wt : α → Nat} : ∀ {l : List α} {x : α}, x ∈ l → wt x ≤ wtS wt l
 | y :: l, x, h => by
  rw [wtS]
  rcases List.mem_cons.1 h with rfl | h
  ·omega
  ·have := wtS_mem (wt := wt) h
   omega
theorem sz_loop {α : Type} {n ty g w : Nat} (enc : α → List AV) (wt : α → Nat) (k : AV → Heap → Option β) (hw : ∀ x, (enc x).length = w) (h0 : 0 < w) (hfl : ∀ x, (enc x).all isFl = true) (hh : plainF g = false) (L : Nat → AV → AV → AV → Heap → Option β)
  (hL : ∀ m a l i H, L (m + 1) a l i H = pLen a fun t14 => pBin .lss i t14 fun t15 => pCond t15 (pIadr w a i fun t20 => pLoad true w t20 H fun t21 => (PR n β).call ty (.fn g [] []) [t21, l] H fun t23 H => pBin .lss t23 (.sc (.int .i64 0)) fun t25 => pCond t25 (k (.sc (.int .i64 (-1))) H) (pBin .add i (.sc (.int .i64 1)) fun t17 => L m a t23 t17 H)) (k l H))
  (l : List α) (hsz : ∀ x ∈ l, ∀ left : Int, 0 ≤ left → left ≤ 1048576 → tree E0 n ty g [.agg (enc x), .sc (.int .i64 left)] = some (.sc (.int .i64 (szR (wt x) left)))) (hlen : l.length ≤ 1048576) (H : Heap) : ∀ (r pre : List α) (m : Nat) (left : Int), 0 ≤ left → left ≤ 1048576 → l = pre ++ r → r.length < m →
   L m (.ro l.length (l.map enc).flatten) (.sc (.int .i64 left)) (.sc (.int .i64 pre.length)) H = k (.sc (.int .i64 (szR (wtS wt r) left))) H
 | [], pre, m + 1, left, hl0, hl1, hl, hm => by
  rw [List.append_nil] at hl
  subst hl
  rw [hL, len_ro, lss_nat, cond_b]
  have : szR (wtS wt []) left = left := by simp [szR, wtS]; omega
  rw [this]
  simp
 | x :: r, pre, m + 1, left, hl0, hl1, hl, hm => by
  have hlt : pre.length < l.length := by rw [hl]; simp
  rw [hL, len_ro, lss_nat, cond_b, if_pos (by simpa using hlt)]
  have hel := fun k => el_ro (β := β) hw h0 pre x r k
  rw [← hl] at hel
  rw [hel, ld_rp w _ _ _ _ (hw x)]
  rw [PR_call (vs := [.agg (enc x), .sc (.int .i64 left)]) hh (by simp only [List.mapM_cons, (Vw_agg _ (hfl x)).now]; rfl) (hsz x (by rw [hl]; simp) left hl0 hl1)]
  rw [instT_sc]
  simp only [List.append_nil]
  rw [lss64, cond_b]
  by_cases hs : left < wt x
  ·have e1 : szR (wt x) left = -1 := by simp [szR, hs]
   have e2 : szR (wtS wt (x :: r)) left = -1 := by
    rw [wtS, szR, if_pos]; omega
   rw [e1, e2]
   simp
  ·have e1 : szR (wt x) left = left - wt x := by simp [szR, hs]
   have e2 : szR (wtS wt (x :: r)) left = szR (wtS wt r) (left - wt x) := by
    unfold szR
    rw [wtS]
    by_cases h : left < ((wt x + wtS wt r : Nat) : Int)
    ·rw [if_pos h, if_pos (by omega)]
    ·rw [if_neg h, if_neg (by omega)]; omega
   rw [e1, e2, if_neg (by simp; omega), inc_nat _ _ (by omega)]
   have ih := sz_loop enc wt k hw h0 hfl hh L hL l hsz hlen H r (pre ++ [x]) m (left - wt x) (by omega) (by omega) (by rw [hl]; simp) (by simpa using hm)
   rw [List.length_append, List.length_singleton] at ih
   exact ih
theorem sz_slice {α : Type} {n ty f g w : Nat} (enc : α → List AV) (wt : α → Nat) (hw : ∀ x, (enc x).length = w) (h0 : 0 < w) (hfl : ∀ x, (enc x).all isFl = true) (hh : plainF g = false) (L : (AV → Heap → Option AV) → Nat → AV → AV → AV → Heap → Option AV)
  (hL : ∀ k m a l i H, L k (m + 1) a l i H = pLen a fun t14 => pBin .lss i t14 fun t15 => pCond t15 (pIadr w a i fun t20 => pLoad true w t20 H fun t21 => (PR n AV).call ty (.fn g [] []) [t21, l] H fun t23 H => pBin .lss t23 (.sc (.int .i64 0)) fun t25 => pCond t25 (k (.sc (.int .i64 (-1))) H) (pBin .add i (.sc (.int .i64 1)) fun t17 => L k m a t23 t17 H)) (k l H))
  (hF : ∀ a b H k, evalFn E0 (n + 1) AV f [a, b] H k = pLen a fun t8 => pBin .sub b t8 fun t9 => pBin .lss t9 (.sc (.int .i64 0)) fun t11 => pCond t11 (k (.sc (.int .i64 (-1))) H) (L k n a t9 (.sc (.int .i64 0)) H))
  (l : List α) (hsz : ∀ x ∈ l, ∀ left : Int, 0 ≤ left → left ≤ 1048576 → tree E0 n ty g [.agg (enc x), .sc (.int .i64 left)] = some (.sc (.int .i64 (szR (wt x) left)))) (hmax : l.length ≤ 9223372036854775807) (hn : 1048576 < n) (left : Int) (hl0 : 0 ≤ left) (hl1 : left ≤ 1048576) (ty' : Nat) :
  tree E0 (n + 1) ty' f [.ro l.length (l.map enc).flatten, .sc (.int .i64 left)] = some (.sc (.int .i64 (szR (wtL wt l) left))) := by
 rw [tree_def, hF, len_ro, sub64 _ _ _ (by omega) (by omega), lss64, cond_b]
 by_cases h : left - (l.length : Int) < 0
 ·have e : szR (wtL wt l) left = -1 := by rw [wtL_eq, szR, if_pos]; omega
  rw [if_pos (by simpa using h), e]
  rfl
 ·have e : szR (wtL wt l) left = szR (wtS wt l) (left - l.length) := by
   rw [wtL_eq]
   unfold szR
   by_cases h : left < ((l.length + wtS wt l : Nat) : Int)
   ·rw [if_pos h, if_pos (by omega)]
   ·rw [if_neg h, if_neg (by omega)]; omega
  rw [if_neg (by simpa using h), e]
  have key := sz_loop (n := n) (ty := ty) (g := g) enc wt (fun x H => ownTree ti0 E0.tp ty' H x) hw h0 hfl hh (L fun x H => ownTree ti0 E0.tp ty' H x) (hL fun x H => ownTree ti0 E0.tp ty' H x) l hsz (by omega) [] l [] n (left - l.length) (by omega) (by omega) (by simp) (by omega)
  simp only [List.length_nil, Int.natCast_zero] at key
  rw [key]
  rfl
theorem sz_len {n f : Nat} (hF : ∀ a b H k, evalFn E0 (n + 1) AV f [a, b] H k = pLen a fun t8 => pBin .sub b t8 fun t9 => pBin .lss t9 (.sc (.int .i64 0)) fun t11 => pCond t11 (k (.sc (.int .i64 (-1))) H) (k t9 H))
  (len : Nat) (cells : List AV) (hmax : len ≤ 9223372036854775807) (left : Int) (hl0 : 0 ≤ left) (hl1 : left ≤ 1048576) (ty' : Nat) :
  tree E0 (n + 1) ty' f [.ro len cells, .sc (.int .i64 left)] = some (.sc (.int .i64 (szR len left))) := by
 rw [tree_def, hF, len_ro, sub64 _ _ _ (by omega) (by omega), lss64, cond_b]
 by_cases h : left - (len : Int) < 0
 ·have e : szR len left = -1 := by rw [szR, if_pos]; omega
  rw [if_pos (by simpa using h), e]
  rfl
 ·have e : szR len left = left - len := by rw [szR, if_neg]; omega
  rw [if_neg (by simpa using h), e]
  rfl
end ops
end Go.Proofs.Ytejjggnchdldoaa.Abs
set_option linter.unusedVariables false
set_option linter.unusedSimpArgs false
namespace Go.Proofs.Ytejjggnchdldoaa.Abs
open Go
variable {β : Type} {n : Nat}
theorem box_fl (cs : List AV) (H : Heap) (k : AV → Heap → Option β) (h : cs.all isFl = true) : pBox (.agg cs) H k = k (.ptr H.length 0) (H ++ [⟨cs, true, true⟩]) := by
 rw [pBox, fl_cells h]
 rfl
theorem ldT {m id off : Nat} {H : Heap} {cs : List AV} (h : rdCells H id off m = some cs) (k : AV → Option β) : pLoad true m (.ptr id off) H k = k (.agg cs) := by
 simp only [pLoad, h, Option.bind_some, if_true]
theorem ldF {id off : Nat} {H : Heap} {c : AV} (h : rdCells H id off 1 = some [c]) (k : AV → Option β) : pLoad false 1 (.ptr id off) H k = k c := by
 simp only [pLoad, h, Option.bind_some, Bool.false_eq_true, if_false, one]
noncomputable def FrB (b0 b1 : Blk) (ts : List Nat) (cs z : List AV) : Heap := b0 :: b1 :: ⟨(instL ti0 E0.tp 3 ts cs).1 ++ z, true, true⟩ :: (instL ti0 E0.tp 3 ts cs).2
theorem fr_put {b0 b1 : Blk} {ts : List Nat} {cs z0 z : List AV} {w o : Nat} {y : AV} {ys : List AV} {B : List Blk} {ts' : List Nat} {cs' : List AV} (hl : ts.length = cs.length) (ho : o = cs.length) (hw : z0.length = w) (hc : cellsA y = some ys) (hy : ys.length = w)
  (hB : instL ti0 E0.tp (3 + (instL ti0 E0.tp 3 ts cs).2.length) ts' cs' = (ys, B)) (K : Heap → Option β) :
  pStore w (.ptr 2 o) y (FrB b0 b1 ts cs (z0 ++ z) ++ B) K = K (FrB b0 b1 (ts ++ ts') (cs ++ cs') z) := by
 have hP : (instL ti0 E0.tp 3 ts cs).1.length = cs.length := instL_len _ _ _
 rw [st_at w 2 o y ⟨(instL ti0 E0.tp 3 ts cs).1 ++ (z0 ++ z), true, true⟩ ys _ _ rfl hc hy (by simp [hP, ho, hw]) rfl]
 congr 1
 have hs : splice ((instL ti0 E0.tp 3 ts cs).1 ++ (z0 ++ z)) o ys = (instL ti0 E0.tp 3 ts cs).1 ++ (ys ++ z) := by
  rw [ho, ← hP]
  exact splice_mid _ _ _ _ (by rw [hw, hy])
 simp only [FrB, List.cons_append, List.set_cons_succ, List.set_cons_zero, hs, instL_append ts cs ts' cs' 3 hl, hB, List.append_assoc]
theorem to_sc {b0 b1 : Blk} {ts : List Nat} {cs z z' : List AV} {o : Nat} {t : Nat} {v : Value} {c : AV} {K : Heap → Option β} {r : Option β} (hr : rdCells (FrB b0 b1 ts cs z) 0 o 1 = some [.sc v]) (hv : leafV v = true) (hl : ts.length = cs.length) (ho : o = cs.length) (hz : z = c :: z')
  (h : K (FrB b0 b1 (ts ++ [t]) (cs ++ [.sc v]) z') = r) :
  (pFadr o (.ptr 0 0) fun t4 => pLoad false 1 t4 (FrB b0 b1 ts cs z) fun t5 => pFadr o (.ptr 2 0) fun t6 => pStore 1 t6 t5 (FrB b0 b1 ts cs z) fun H => K H) = r := by
 subst hz
 simp only [pFadr, Nat.zero_add]
 rw [ldF hr]
 have := fr_put (β := β) (b0 := b0) (b1 := b1) (ts := ts) (cs := cs) (z0 := [c]) (z := z') (w := 1) (o := o) (y := .sc v) (ys := [.sc v]) (B := []) (ts' := [t]) (cs' := [.sc v]) hl ho rfl (by simp only [cellsA, isLeaf, hv, if_true]) rfl (by simp [instL, instT]) K
 rw [List.append_nil] at this
 exact this.trans h
theorem to_ro {b0 b1 : Blk} {ts : List Nat} {cs z z' : List AV} {o t g len : Nat} {c : AV} {cells : List AV} {K : Heap → Option β} {r : Option β} (hr : rdCells (FrB b0 b1 ts cs z) 0 o 1 = some [.ro len cells]) (hh : plainF g = false) (ht : tree E0 n t g [.ro len cells] = some (.ro len cells)) (hl : ts.length = cs.length) (ho : o = cs.length) (hz : z = c :: z')
  (h : K (FrB b0 b1 (ts ++ [t]) (cs ++ [.ro len cells]) z') = r) :
  (pFadr o (.ptr 0 0) fun t4 => pLoad false 1 t4 (FrB b0 b1 ts cs z) fun t5 => (PR n β).call t (.fn g [] []) [t5] (FrB b0 b1 ts cs z) fun t9 H => pFadr o (.ptr 2 0) fun t6 => pStore 1 t6 t9 H fun H => K H) = r := by
 subst hz
 simp only [pFadr, Nat.zero_add]
 rw [ldF hr, PR_call (vs := [.ro len cells]) hh (by simp only [List.mapM_cons, viewV_ro]; rfl) ht]
 have hH : (FrB b0 b1 ts cs (c :: z')).length = 3 + (instL ti0 E0.tp 3 ts cs).2.length := by simp [FrB]; omega
 rw [hH]
 have hi : ∀ N, ∃ s : AV, isLeaf s = true ∧ (instT ti0 E0.tp N t (.ro len cells)).1 = s ∧ cellsA s = some [s] := fun N => by
  refine ⟨_, ?_, rfl, ?_⟩ <;> simp [instT, isLeaf, cellsA]
 obtain ⟨s, _, hs, hc⟩ := hi (3 + (instL ti0 E0.tp 3 ts cs).2.length)
 have := fr_put (β := β) (b0 := b0) (b1 := b1) (ts := ts) (cs := cs) (z0 := [c]) (z := z') (w := 1) (o := o) (y := s) (ys := [s]) (ts' := [t]) (cs' := [.ro len cells]) (B := (instT ti0 E0.tp (3 + (instL ti0 E0.tp 3 ts cs).2.length) t (.ro len cells)).2) hl ho rfl hc rfl (by simp only [instL, List.headD_cons, List.append_nil, hs]) K
 rw [hs]
 exact this.trans h
theorem to_agg {b0 b1 : Blk} {ts cty : List Nat} {cs z z0 z' : List AV} {o t g w : Nat} {cells : List AV} {K : Heap → Option β} {r : Option β} (hr : rdCells (FrB b0 b1 ts cs z) 0 o w = some cells) (hh : plainF g = false) (hfl : cells.all isFl = true) (ht : tree E0 n t g [.agg cells] = some (.agg cells)) (hty : ∃ i, ti0 t = some i ∧ i.cty = cty) (hw : cells.length = w) (hl : ts.length = cs.length) (ho : o = cs.length) (hz : z = z0 ++ z') (hz0 : z0.length = w)
  (h : K (FrB b0 b1 (ts ++ cty) (cs ++ cells) z') = r) :
  (pFadr o (.ptr 0 0) fun t4 => pLoad true w t4 (FrB b0 b1 ts cs z) fun t5 => (PR n β).call t (.fn g [] []) [t5] (FrB b0 b1 ts cs z) fun t9 H => pFadr o (.ptr 2 0) fun t6 => pStore w t6 t9 H fun H => K H) = r := by
 subst hz
 obtain ⟨i, hi, rfl⟩ := hty
 simp only [pFadr, Nat.zero_add]
 rw [ldT hr, PR_call (vs := [.agg cells]) hh (by rw [List.mapM_cons, (Vw_agg _ hfl).now]; rfl) ht]
 have hH : (FrB b0 b1 ts cs (z0 ++ z')).length = 3 + (instL ti0 E0.tp 3 ts cs).2.length := by simp [FrB]; omega
 rw [hH, instT_agg, hi, Option.getD_some]
 have hleaf := instL_leaf (ti := ti0) (tp := E0.tp) cells (3 + (instL ti0 E0.tp 3 ts cs).2.length) i.cty hfl
 have hlen := instL_len (ti := ti0) (tp := E0.tp) (3 + (instL ti0 E0.tp 3 ts cs).2.length) i.cty cells
 have := fr_put (β := β) (b0 := b0) (b1 := b1) (ts := ts) (cs := cs) (z0 := z0) (z := z') (w := w) (o := o) (y := .agg (instL ti0 E0.tp (3 + (instL ti0 E0.tp 3 ts cs).2.length) i.cty cells).1) (ys := (instL ti0 E0.tp (3 + (instL ti0 E0.tp 3 ts cs).2.length) i.cty cells).1) (ts' := i.cty) (cs' := cells) (B := (instL ti0 E0.tp (3 + (instL ti0 E0.tp 3 ts cs).2.length) i.cty cells).2) hl ho hz0 (by
  show (if _ then _ else none) = _
  rw [if_pos hleaf]) (by rw [hlen, hw]) rfl K
 exact this.trans h
theorem to_end {b0 : Blk} {z1 cells : List AV} {cty : List Nat} {w ty : Nat} (hw : cells.length = w) (hz : z1.length = w) (hfl : cells.all isFl = true) (hty : ∃ i, ti0 ty = some i ∧ i.cty = cty) (hok : okLW (okW ti0 E0.tp 7) cty cells) :
  (pLoad true w (.ptr 2 0) (FrB b0 ⟨z1, true, true⟩ cty cells []) fun t14 => pStore w (.ptr 1 0) t14 (FrB b0 ⟨z1, true, true⟩ cty cells []) fun H => pLoad true w (.ptr 1 0) H fun r0 => ownTree ti0 E0.tp ty H r0) = some (.agg cells) := by
 obtain ⟨i, hi, rfl⟩ := hty
 have hlen := instL_len (ti := ti0) (tp := E0.tp) 3 i.cty cells
 have hleaf := instL_leaf (ti := ti0) (tp := E0.tp) cells 3 i.cty hfl
 have h1 : rdCells (FrB b0 ⟨z1, true, true⟩ i.cty cells []) 2 0 w = some (instL ti0 E0.tp 3 i.cty cells).1 := by
  simp [rdCells, FrB, hlen, hw, List.take_of_length_le]
 rw [ldT h1]
 have hc : cellsA (.agg (instL ti0 E0.tp 3 i.cty cells).1) = some (instL ti0 E0.tp 3 i.cty cells).1 := by
  show (if _ then _ else none) = _
  rw [if_pos hleaf]
 rw [st_at w 1 0 _ ⟨z1, true, true⟩ _ _ _ rfl hc (by rw [hlen, hw]) (by simp [hz]) rfl]
 have hs : splice z1 0 (instL ti0 E0.tp 3 i.cty cells).1 = (instL ti0 E0.tp 3 i.cty cells).1 := by
  unfold splice
  rw [List.take_zero, List.nil_append, List.drop_of_length_le (by rw [hlen, hw, hz]; omega), List.append_nil]
 simp only [hs]
 have h2 : rdCells ((FrB b0 ⟨z1, true, true⟩ i.cty cells []).set 1 ⟨(instL ti0 E0.tp 3 i.cty cells).1, true, true⟩) 1 0 w = some (instL ti0 E0.tp 3 i.cty cells).1 := by
  simp [rdCells, FrB, hlen, hw, List.take_of_length_le]
 rw [ldT h2]
 have hok' : okW ti0 E0.tp 8 ty (.agg cells) := ⟨i, hi, hok⟩
 have := own_ret [b0, ⟨(instL ti0 E0.tp 3 i.cty cells).1, true, true⟩, ⟨(instL ti0 E0.tp 3 i.cty cells).1 ++ [], true, true⟩] ty _ hok'
 rw [instT_agg, hi] at this
 exact this
noncomputable def StB (T : List Nat) (C Z : List AV) (o : Nat) : Heap := FrB ⟨C, true, true⟩ ⟨Z, true, true⟩ (T.take o) (C.take o) (Z.drop o)
theorem StB_rd {T : List Nat} {C Z : List AV} {o p w : Nat} {cs : List AV} (h : (C.drop p).take w = cs) (hl : cs.length = w) (hw : 0 < w) : rdCells (StB T C Z o) 0 p w = some cs := by
 have hle : p + w ≤ C.length := by
  have := congrArg List.length h
  rw [hl, List.length_take, List.length_drop] at this
  omega
 show (match (some ⟨C, true, true⟩ : Option Blk) with | some b => if b.live then (if p + w ≤ b.cells.length then some ((b.cells.drop p).take w) else none) else none | none => none) = _
 simp only [if_true, hle, h]
theorem one_of {C : List AV} {o : Nat} {c : AV} (h : C[o]? = some c) : (C.drop o).take 1 = [c] := by
 obtain ⟨hlt, e⟩ := List.getElem?_eq_some_iff.1 h
 rw [List.drop_eq_getElem_cons hlt, e]
 rfl
theorem take_w {α : Type} {T : List α} {o w o' : Nat} {c : List α} (h : (T.drop o).take w = c) (ho : o' = o + w) : T.take o' = T.take o ++ c := by
 rw [ho, List.take_add, h]
theorem st_sc {T : List Nat} {C Z : List AV} {o o' : Nat} {v : Value} {K : Heap → Option β} {r : Option β} (hT : T.length = C.length) (hZ : Z.length = C.length) (hC : C[o]? = some (.sc v)) (hv : leafV v = true) (ho : o' = o + 1) (h : K (StB T C Z o') = r) :
  (pFadr o (.ptr 0 0) fun t4 => pLoad false 1 t4 (StB T C Z o) fun t5 => pFadr o (.ptr 2 0) fun t6 => pStore 1 t6 t5 (StB T C Z o) fun H => K H) = r := by
 obtain ⟨hlt, _⟩ := List.getElem?_eq_some_iff.1 hC
 have hz : Z.drop o = Z[o]'(by omega) :: Z.drop o' := by rw [ho]; exact List.drop_eq_getElem_cons _
 refine to_sc (t := T[o]'(by omega)) (z' := Z.drop o') (StB_rd (one_of hC) rfl (by decide)) hv (by simp [hT]) (by simp; omega) hz ?_
 have e1 : T.take o' = T.take o ++ [T[o]'(by omega)] := take_w (w := 1) (by rw [List.drop_eq_getElem_cons (by omega)]; rfl) ho
 have e2 : C.take o' = C.take o ++ [.sc v] := take_w (one_of hC) ho
 rw [← e1, ← e2]
 exact h
theorem st_ro {T : List Nat} {C Z : List AV} {o o' t g len : Nat} {cells : List AV} {K : Heap → Option β} {r : Option β} (hT : T.length = C.length) (hZ : Z.length = C.length) (hC : C[o]? = some (.ro len cells)) (hTt : T[o]? = some t) (hh : plainF g = false) (ht : tree E0 n t g [.ro len cells] = some (.ro len cells)) (ho : o' = o + 1) (h : K (StB T C Z o') = r) :
  (pFadr o (.ptr 0 0) fun t4 => pLoad false 1 t4 (StB T C Z o) fun t5 => (PR n β).call t (.fn g [] []) [t5] (StB T C Z o) fun t9 H => pFadr o (.ptr 2 0) fun t6 => pStore 1 t6 t9 H fun H => K H) = r := by
 obtain ⟨hlt, _⟩ := List.getElem?_eq_some_iff.1 hC
 obtain ⟨hlt2, hTe⟩ := List.getElem?_eq_some_iff.1 hTt
 have hz : Z.drop o = Z[o]'(by omega) :: Z.drop o' := by rw [ho]; exact List.drop_eq_getElem_cons _
 refine to_ro (z' := Z.drop o') (StB_rd (one_of hC) rfl (by decide)) hh ht (by simp [hT]) (by simp; omega) hz ?_
 have e1 : T.take o' = T.take o ++ [t] := take_w (w := 1) (by rw [List.drop_eq_getElem_cons hlt2, hTe]; rfl) ho
 have e2 : C.take o' = C.take o ++ [.ro len cells] := take_w (one_of hC) ho
 rw [← e1, ← e2]
 exact h
theorem st_agg {T cty : List Nat} {C Z : List AV} {o o' t g w : Nat} {cells : List AV} {K : Heap → Option β} {r : Option β} (hT : T.length = C.length) (hZ : Z.length = C.length) (hC : (C.drop o).take w = cells) (hTt : (T.drop o).take w = cty) (hh : plainF g = false) (hfl : cells.all isFl = true) (ht : tree E0 n t g [.agg cells] = some (.agg cells)) (hty : ∃ i, ti0 t = some i ∧ i.cty = cty) (hw : cells.length = w) (hw0 : 0 < w) (ho : o' = o + w) (h : K (StB T C Z o') = r) :
  (pFadr o (.ptr 0 0) fun t4 => pLoad true w t4 (StB T C Z o) fun t5 => (PR n β).call t (.fn g [] []) [t5] (StB T C Z o) fun t9 H => pFadr o (.ptr 2 0) fun t6 => pStore w t6 t9 H fun H => K H) = r := by
 have hle : o + w ≤ C.length := by
  have := congrArg List.length hC
  rw [hw, List.length_take, List.length_drop] at this
  omega
 have hz : Z.drop o = (Z.drop o).take w ++ Z.drop o' := by
  rw [ho]
  conv => lhs; rw [← List.take_append_drop w (Z.drop o)]
  rw [List.drop_drop]
 refine to_agg (z0 := (Z.drop o).take w) (z' := Z.drop o') (StB_rd hC hw hw0) hh hfl ht hty hw (by simp [hT]) (by simp; omega) hz (by simp; omega) ?_
 have e1 : T.take o' = T.take o ++ cty := take_w hTt ho
 have e2 : C.take o' = C.take o ++ cells := take_w hC ho
 rw [← e1, ← e2]
 exact h
theorem st_end {T : List Nat} {C Z : List AV} {w ty : Nat} (hT : T.length = C.length) (hZ : Z.length = C.length) (hw : C.length = w) (hfl : C.all isFl = true) (hty : ∃ i, ti0 ty = some i ∧ i.cty = T) (hok : okLW (okW ti0 E0.tp 7) T C) :
  (pLoad true w (.ptr 2 0) (StB T C Z w) fun t14 => pStore w (.ptr 1 0) t14 (StB T C Z w) fun H => pLoad true w (.ptr 1 0) H fun r0 => ownTree ti0 E0.tp ty H r0) = some (.agg C) := by
 have e : StB T C Z w = FrB ⟨C, true, true⟩ ⟨Z, true, true⟩ T C [] := by
  unfold StB
  rw [List.take_of_length_le (by omega), List.take_of_length_le (by omega), List.drop_of_length_le (by omega)]
 rw [e]
 exact to_end hw (by omega) hfl hty hok
theorem eq_sc {o : Nat} {H : Heap} {v : Value} {A K r : Option β} (h0 : rdCells H 0 o 1 = some [.sc v]) (h1 : rdCells H 1 o 1 = some [.sc v]) (hv : ∀ k : AV → Option β, pBin .neq (.sc v) (.sc v) k = k (.sc (.bool false))) (h : K = r) :
  (pFadr o (.ptr 0 0) fun t5 => pLoad false 1 t5 H fun t6 => pFadr o (.ptr 1 0) fun t7 => pLoad false 1 t7 H fun t8 => pBin .neq t6 t8 fun t9 => pCond t9 A K) = r := by
 simp only [pFadr, Nat.zero_add]
 rw [ldF h0, ldF h1, hv, cond_b]
 exact h
theorem eq_b {o : Nat} {H : Heap} {b : Bool} {A K r : Option β} (h0 : rdCells H 0 o 1 = some [.sc (.bool b)]) (h1 : rdCells H 1 o 1 = some [.sc (.bool b)]) (h : K = r) :
  (pFadr o (.ptr 0 0) fun t5 => pLoad false 1 t5 H fun t6 => pFadr o (.ptr 1 0) fun t7 => pLoad false 1 t7 H fun t8 => pBinB .neq t6 t8 fun t9 => pCond t9 A K) = r := by
 simp only [pFadr, Nat.zero_add]
 rw [ldF h0, ldF h1]
 simp only [pBinB, asB, Option.bind_some, binB, beq_self_eq_true, Bool.not_true]
 exact h
theorem eq_ro {o tb g : Nat} {H : Heap} {len : Nat} {cells : List AV} {A : Heap → Option β} {K : Heap → Option β} {r : Option β} (h0 : rdCells H 0 o 1 = some [.ro len cells]) (h1 : rdCells H 1 o 1 = some [.ro len cells]) (hh : plainF g = false) (ht : tree E0 n tb g [.ro len cells, .ro len cells] = some (.sc (.bool true))) (h : K H = r) :
  (pFadr o (.ptr 0 0) fun t5 => pLoad false 1 t5 H fun t6 => pFadr o (.ptr 1 0) fun t7 => pLoad false 1 t7 H fun t8 => (PR n β).call tb (.fn g [] []) [t6, t8] H fun t H => pUn .not t fun t9 => pCond t9 (A H) (K H)) = r := by
 simp only [pFadr, Nat.zero_add]
 rw [ldF h0, ldF h1, PR_call (vs := [.ro len cells, .ro len cells]) hh (by simp only [List.mapM_cons, viewV_ro]; rfl) ht, instT_sc, List.append_nil]
 exact h
theorem eq_agg {o tb g w : Nat} {H : Heap} {cells : List AV} {A : Heap → Option β} {K : Heap → Option β} {r : Option β} (h0 : rdCells H 0 o w = some cells) (h1 : rdCells H 1 o w = some cells) (hh : plainF g = false) (hfl : cells.all isFl = true) (ht : tree E0 n tb g [.agg cells, .agg cells] = some (.sc (.bool true))) (h : K H = r) :
  (pFadr o (.ptr 0 0) fun t5 => pLoad true w t5 H fun t6 => pFadr o (.ptr 1 0) fun t7 => pLoad true w t7 H fun t8 => (PR n β).call tb (.fn g [] []) [t6, t8] H fun t H => pUn .not t fun t9 => pCond t9 (A H) (K H)) = r := by
 simp only [pFadr, Nat.zero_add]
 rw [ldT h0, ldT h1, PR_call (vs := [.agg cells, .agg cells]) hh (by simp only [List.mapM_cons, (Vw_agg _ hfl).now]; rfl) ht, instT_sc, List.append_nil]
 exact h
theorem ne_int (z : Int) (k : AV → Option β) : pBin .neq (.sc (.int .i64 z)) (.sc (.int .i64 z)) k = k (.sc (.bool false)) := by
 show k (.sc (.bool (z != z))) = _
 rw [bne_self_eq_false]
theorem ne_str (s : ByteArray) (k : AV → Option β) : pBin .neq (.sc (.string s)) (.sc (.string s)) k = k (.sc (.bool false)) := by
 show k (.sc (.bool (!(s.toList == s.toList)))) = _
 rw [beq_self_eq_true, Bool.not_true]
theorem ne_u8 (z : Int) (k : AV → Option β) : pBin .neq (.sc (.int .u8 z)) (.sc (.int .u8 z)) k = k (.sc (.bool false)) := by
 show k (.sc (.bool (z != z))) = _
 rw [bne_self_eq_false]
def szA (W : Nat) (left : Int) : Option AV := some (.sc (.int .i64 (szR W left)))
theorem szR_cut {s W : Nat} {left : Int} (h : left < s) : szR (s + W) left = -1 := by rw [szR, if_pos]; omega
theorem szR_go {s W : Nat} {left : Int} (h : ¬ left < s) : szR (s + W) left = szR W (left - s) := by
 unfold szR
 by_cases h2 : left < ((s + W : Nat) : Int)
 ·rw [if_pos h2, if_pos (by omega)]
 ·rw [if_neg h2, if_neg (by omega)]; omega
theorem sz_str {o : Nat} {H : Heap} {s : ByteArray} {W : Nat} {left : Int} {A : Option AV} {K : AV → Option AV} (hr : rdCells H 0 o 1 = some [.sc (.string s)]) (h0 : 0 ≤ left) (h1 : left ≤ 1048576) (hs : s.size ≤ 9223372036854775807) (hA : A = some (.sc (.int .i64 (-1)))) (hK : 0 ≤ left - s.size → left - s.size ≤ 1048576 → K (.sc (.int .i64 (left - s.size))) = szA W (left - s.size)) :
  (pFadr o (.ptr 0 0) fun t6 => pLoad false 1 t6 H fun t7 => pLenS t7 fun t8 => pBin .sub (.sc (.int .i64 left)) t8 fun t9 => pBin .lss t9 (.sc (.int .i64 0)) fun t11 => pCond t11 A (K t9)) = szA (s.size + W) left := by
 simp only [pFadr, Nat.zero_add]
 rw [ldF hr]
 simp only [pLenS, asS, Option.bind_some]
 rw [sub64 _ _ _ (by omega) (by omega), lss64, cond_b]
 by_cases h : left < s.size
 ·rw [if_pos (by simpa using (show left - (s.size : Int) < 0 by omega)), hA, szA, szR_cut h]
 ·rw [if_neg (by simpa using (show ¬ left - (s.size : Int) < 0 by omega)), hK (by omega) (by omega), szA, szA, szR_go h]
theorem sz_ro {o ty g : Nat} {H : Heap} {len : Nat} {cells : List AV} {w W : Nat} {left : Int} {A : Heap → Option AV} {K : AV → Heap → Option AV} (hr : rdCells H 0 o 1 = some [.ro len cells]) (h0 : 0 ≤ left) (h1 : left ≤ 1048576) (hh : plainF g = false) (ht : tree E0 n ty g [.ro len cells, .sc (.int .i64 left)] = some (.sc (.int .i64 (szR w left)))) (hA : A H = some (.sc (.int .i64 (-1)))) (hK : 0 ≤ left - w → left - w ≤ 1048576 → K (.sc (.int .i64 (left - w))) H = szA W (left - w)) :
  (pFadr o (.ptr 0 0) fun t6 => pLoad false 1 t6 H fun t7 => (PR n AV).call ty (.fn g [] []) [t7, .sc (.int .i64 left)] H fun t15 H => pBin .lss t15 (.sc (.int .i64 0)) fun t11 => pCond t11 (A H) (K t15 H)) = szA (w + W) left := by
 simp only [pFadr, Nat.zero_add]
 rw [ldF hr, PR_call (vs := [.ro len cells, .sc (.int .i64 left)]) hh (by simp only [List.mapM_cons, viewV_ro, viewV_sc]; rfl) ht, instT_sc, List.append_nil]
 simp only
 rw [lss64, cond_b]
 by_cases h : left < w
 ·have e : szR w left = -1 := by rw [szR, if_pos h]
  rw [e, if_pos (by decide), hA, szA, szR_cut h]
 ·have e : szR w left = left - w := by rw [szR, if_neg h]
  rw [e, if_neg (by simpa using (show ¬ left - (w : Int) < 0 by omega)), hK (by omega) (by omega), szA, szA, szR_go h]
theorem sz_agg {o ty g wd : Nat} {H : Heap} {cells : List AV} {w W : Nat} {left : Int} {A : Heap → Option AV} {K : AV → Heap → Option AV} (hr : rdCells H 0 o wd = some cells) (h0 : 0 ≤ left) (h1 : left ≤ 1048576) (hh : plainF g = false) (hfl : cells.all isFl = true) (ht : tree E0 n ty g [.agg cells, .sc (.int .i64 left)] = some (.sc (.int .i64 (szR w left)))) (hA : A H = some (.sc (.int .i64 (-1)))) (hK : 0 ≤ left - w → left - w ≤ 1048576 → K (.sc (.int .i64 (left - w))) H = szA W (left - w)) :
  (pFadr o (.ptr 0 0) fun t6 => pLoad true wd t6 H fun t7 => (PR n AV).call ty (.fn g [] []) [t7, .sc (.int .i64 left)] H fun t15 H => pBin .lss t15 (.sc (.int .i64 0)) fun t11 => pCond t11 (A H) (K t15 H)) = szA (w + W) left := by
 simp only [pFadr, Nat.zero_add]
 rw [ldT hr, PR_call (vs := [.agg cells, .sc (.int .i64 left)]) hh (by simp only [List.mapM_cons, (Vw_agg _ hfl).now, viewV_sc]; rfl) ht, instT_sc, List.append_nil]
 simp only
 rw [lss64, cond_b]
 by_cases h : left < w
 ·have e : szR w left = -1 := by rw [szR, if_pos h]
  rw [e, if_pos (by decide), hA, szA, szR_cut h]
 ·have e : szR w left = left - w := by rw [szR, if_neg h]
  rw [e, if_neg (by simpa using (show ¬ left - (w : Int) < 0 by omega)), hK (by omega) (by omega), szA, szA, szR_go h]
theorem sz_end {left : Int} (h0 : 0 ≤ left) : some (AV.sc (.int .i64 left)) = szA 0 left := by
 rw [szA, szR, if_neg (by omega)]
 simp
abbrev bytesC (s : ByteArray) : AV := .ro s.size (bytesAV s)
abbrev intsC (l : List Int) : AV := .ro l.length (l.map fun z => .sc (.int .i64 z))
abbrev strsC (l : List ByteArray) : AV := .ro l.length (l.map fun s => .sc (.string s))
abbrev rowsC {α : Type} (enc : α → List AV) (l : List α) : AV := .ro l.length (l.map enc).flatten
def okI (z : Int) : Prop := -9223372036854775808 ≤ z ∧ z ≤ 9223372036854775807
def okS (s : ByteArray) : Prop := s.size ≤ 9223372036854775807
theorem okLW_flat {f : Nat → AV → Prop} {α : Type} (e : α → Value) (hf : ∀ t v, f t (.sc v)) : ∀ (ts : List Nat) (l : List α), ts.length = l.length → okLW f ts (l.map fun x => .sc (e x))
 | [], [], _ => trivial
 | t :: ts, x :: l, h => ⟨hf _ _, okLW_flat e hf ts l (by simpa using h)⟩
 | [], _ :: _, h => by simp at h
 | _ :: _, [], h => by simp at h
theorem okW_flat {α : Type} {ty d : Nat} (e : α → Value) (hty : ∃ i j, ti0 ty = some i ∧ ti0 i.elem = some j ∧ j.size = 1 ∧ j.cty.length = 1) (l : List α) : okW ti0 E0.tp (d + 2) ty (.ro l.length (l.map fun x => .sc (e x))) := by
 obtain ⟨i, j, h1, h2, h3, h4⟩ := hty
 exact ⟨i, j, h1, h2, by simp [h3], okLW_flat e (fun _ _ => trivial) _ l (by simp [h4])⟩
theorem okW_bytes {d ty : Nat} (hty : ∃ i j, ti0 ty = some i ∧ ti0 i.elem = some j ∧ j.size = 1 ∧ j.cty.length = 1) (s : ByteArray) : okW ti0 E0.tp (d + 2) ty (bytesC s) := by
 have := okW_flat (d := d) (fun b : UInt8 => .int .u8 b.toNat) hty s.data.toList
 have e : s.data.toList.length = s.size := by simp
 rw [e] at this
 exact this
theorem okW_rows {α : Type} {ty d w : Nat} {cty : List Nat} {enc : α → List AV} (hw : ∀ x, (enc x).length = w) (hty : ∃ i j, ti0 ty = some i ∧ ti0 i.elem = some j ∧ j.size = w ∧ j.cty = cty) (he : ∀ x, okLW (okW ti0 E0.tp d) cty (enc x)) (l : List α) : okW ti0 E0.tp (d + 1) ty (rowsC enc l) := by
 obtain ⟨i, j, h1, h2, h3, rfl⟩ := hty
 exact ⟨i, j, h1, h2, by rw [rows_len hw, h3], okLW_rows l fun x _ => he x⟩
theorem okT_rows {α : Type} {enc : α → List AV} {ok : α → Prop} {n t e : Nat} {cs : List AV} (hi : ∃ i, ti0 t = some i ∧ i.isB = false ∧ i.ik = none ∧ i.isStr = false ∧ i.sl = true ∧ i.elem = e) (hel : ∀ n cs, okT ti0 n e cs → ∃ x, cs = enc x ∧ ok x) (h : okT ti0 n t cs) :
  ∃ l : List α, cs = [rowsC enc l] ∧ l.length ≤ 9223372036854775807 ∧ ∀ x ∈ l, ok x := by
 cases n with
 | zero => cases h
 | succ n =>
  obtain ⟨i, h1, h2, h3, h4, h5, rfl⟩ := hi
  obtain ⟨i', hi', h⟩ := h
  rw [h1] at hi'
  obtain rfl := Option.some.inj hi'
  simp only [h2, h3, h4, h5] at h
  obtain ⟨rows, rfl, hl, hr⟩ := h
  have hm : maxLen = 9223372036854775807 := by decide
  rw [hm] at hl
  have key : ∀ rows : List (List AV), (∀ r ∈ rows, okT ti0 n i.elem r) → ∃ l : List α, rows = l.map enc ∧ ∀ x ∈ l, ok x := by
   intro rows
   induction rows with
   | nil => intro _; exact ⟨[], rfl, fun x h => by cases h⟩
   | cons r rows ih =>
    intro h
    obtain ⟨l, h1, h2⟩ := ih fun r hr => h r (List.mem_cons_of_mem _ hr)
    obtain ⟨x, hx, hox⟩ := hel n r (h r List.mem_cons_self)
    exact ⟨x :: l, by rw [h1, hx]; rfl, fun y hy => by rcases List.mem_cons.1 hy with rfl | hy; exact hox; exact h2 y hy⟩
  obtain ⟨l, rfl, h2⟩ := key rows hr
  exact ⟨l, by simp, by simpa using hl, h2⟩
theorem okT_str' {n : Nat} {cs : List AV} (h : okT ti0 n 9 cs) : ∃ s : ByteArray, cs = [.sc (.string s)] ∧ okS s := by
 cases n with
 | zero => cases h
 | succ n =>
  obtain ⟨i, hi, h⟩ := h
  obtain rfl := Option.some.inj (show some _ = some i from hi)
  have hm : maxLen = 9223372036854775807 := by decide
  obtain ⟨s, h1, h2⟩ := (show ∃ s : ByteArray, cs = [.sc (.string s)] ∧ s.size ≤ maxLen from h)
  exact ⟨s, h1, by rw [hm] at h2; exact h2⟩
theorem okT_int' {n : Nat} {cs : List AV} (h : okT ti0 n 3 cs) : ∃ z : Int, cs = [.sc (.int .i64 z)] ∧ okI z := by
 cases n with
 | zero => cases h
 | succ n =>
  obtain ⟨i, hi, h⟩ := h
  obtain rfl := Option.some.inj (show some _ = some i from hi)
  obtain ⟨z, h1, h2⟩ := (show ∃ z, cs = [.sc (.int .i64 z)] ∧ (Lit.int .i64 z).wf = true from h)
  refine ⟨z, h1, ?_⟩
  have hw' : IntKind.i64.min ≤ z ∧ z ≤ IntKind.i64.max := by simpa [Lit.wf] using h2
  have e1 : IntKind.i64.min = -9223372036854775808 := by decide
  have e2 : IntKind.i64.max = 9223372036854775807 := by decide
  rw [e1, e2] at hw'
  exact hw'
theorem okT_bool' {n : Nat} {cs : List AV} (h : okT ti0 n 4 cs) : ∃ b : Bool, cs = [.sc (.bool b)] := by
 cases n with
 | zero => cases h
 | succ n =>
  obtain ⟨i, hi, h⟩ := h
  obtain rfl := Option.some.inj (show some _ = some i from hi)
  exact h
theorem okT_byte' {n : Nat} {cs : List AV} (h : okT ti0 n 5 cs) : ∃ b : UInt8, cs = [.sc (.int .u8 b.toNat)] := by
 cases n with
 | zero => cases h
 | succ n =>
  obtain ⟨i, hi, h⟩ := h
  obtain rfl := Option.some.inj (show some _ = some i from hi)
  obtain ⟨z, rfl, hw⟩ := (show ∃ z, cs = [.sc (.int .u8 z)] ∧ (Lit.int .u8 z).wf = true from h)
  have hz : 0 ≤ z ∧ z < 256 := by
   have hw' : IntKind.u8.min ≤ z ∧ z ≤ IntKind.u8.max := by simpa [Lit.wf] using hw
   have e1 : IntKind.u8.min = 0 := by decide
   have e2 : IntKind.u8.max = 255 := by decide
   rw [e1, e2] at hw'
   omega
  refine ⟨UInt8.ofNat z.toNat, ?_⟩
  have : (UInt8.ofNat z.toNat).toNat = z.toNat := by simp [UInt8.toNat_ofNat']; omega
  rw [this, Int.toNat_of_nonneg hz.1]
theorem flat_one {α : Type} (e : α → AV) (l : List α) : (l.map fun x => [e x]).flatten = l.map e := by
 induction l with
 | nil => rfl
 | cons x l ih => rw [List.map_cons, List.flatten_cons, ih]; rfl
theorem okT_bytes' {n t : Nat} {cs : List AV} (hi : ∃ i, ti0 t = some i ∧ i.isB = false ∧ i.ik = none ∧ i.isStr = false ∧ i.sl = true ∧ i.elem = 5) (h : okT ti0 n t cs) : ∃ s : ByteArray, cs = [bytesC s] ∧ okS s := by
 obtain ⟨l, rfl, h1, _⟩ := okT_rows (α := UInt8) (enc := fun b => [.sc (.int .u8 b.toNat)]) (ok := fun _ => True) hi (fun n cs h => by obtain ⟨b, h⟩ := okT_byte' h; exact ⟨b, h, trivial⟩) h
 refine ⟨⟨l.toArray⟩, ?_, ?_⟩
 ·rw [rowsC, flat_one]
  simp [bytesC, bytesAV]
  rfl
 ·exact h1
theorem okT_ints' {n t : Nat} {cs : List AV} (hi : ∃ i, ti0 t = some i ∧ i.isB = false ∧ i.ik = none ∧ i.isStr = false ∧ i.sl = true ∧ i.elem = 3) (h : okT ti0 n t cs) : ∃ l : List Int, cs = [intsC l] ∧ l.length ≤ 9223372036854775807 ∧ ∀ z ∈ l, okI z := by
 obtain ⟨l, rfl, h1, h2⟩ := okT_rows (α := Int) (enc := fun z => [.sc (.int .i64 z)]) (ok := okI) hi (fun n cs h => okT_int' h) h
 exact ⟨l, by rw [rowsC, flat_one], h1, h2⟩
theorem okT_strs' {n t : Nat} {cs : List AV} (hi : ∃ i, ti0 t = some i ∧ i.isB = false ∧ i.ik = none ∧ i.isStr = false ∧ i.sl = true ∧ i.elem = 9) (h : okT ti0 n t cs) : ∃ l : List ByteArray, cs = [strsC l] ∧ l.length ≤ 9223372036854775807 ∧ ∀ s ∈ l, okS s := by
 obtain ⟨l, rfl, h1, h2⟩ := okT_rows (α := ByteArray) (enc := fun s => [.sc (.string s)]) (ok := okS) hi (fun n cs h => okT_str' h) h
 exact ⟨l, by rw [rowsC, flat_one], h1, h2⟩
theorem okT_struct {n t : Nat} {cs : List AV} {fs : List (Nat × Nat)} (hi : ∃ i, ti0 t = some i ∧ i.isB = false ∧ i.ik = none ∧ i.isStr = false ∧ i.sl = false ∧ i.isAgg = true ∧ i.fields = fs) (h : okT ti0 n t cs) : ∃ m, okFs (okT ti0 m) fs cs := by
 cases n with
 | zero => cases h
 | succ n =>
  obtain ⟨i, h1, h2, h3, h4, h5, h6, rfl⟩ := hi
  obtain ⟨i', hi', h⟩ := h
  rw [h1] at hi'
  obtain rfl := Option.some.inj hi'
  simp only [h2, h3, h4, h5, h6] at h
  exact ⟨n, h⟩
end Go.Proofs.Ytejjggnchdldoaa.Abs
set_option linter.unusedVariables false
set_option linter.unusedSimpArgs false
set_option maxRecDepth 100000
namespace Go.Proofs.Ytejjggnchdldoaa.Abs
open Go
theorem tyByteS : ∃ i j, ti0 34 = some i ∧ ti0 i.elem = some j ∧ j.size = 1 ∧ j.cty.length = 1 := ⟨_, _, rfl, rfl, rfl, rfl⟩
theorem tyIntS : ∃ i j, ti0 41 = some i ∧ ti0 i.elem = some j ∧ j.size = 1 ∧ j.cty.length = 1 := ⟨_, _, rfl, rfl, rfl, rfl⟩
theorem tyStringS : ∃ i j, ti0 93 = some i ∧ ti0 i.elem = some j ∧ j.size = 1 ∧ j.cty.length = 1 := ⟨_, _, rfl, rfl, rfl, rfl⟩
end Go.Proofs.Ytejjggnchdldoaa.Abs
set_option linter.unusedVariables false
set_option linter.unusedSimpArgs false
namespace Go.Proofs.Ytejjggnchdldoaa.Abs
open Go
variable {β : Type} {n : Nat} {H : Heap} {r : Option β}
theorem vnil : ([] : List AV).mapM (viewV H 8) = some [] := rfl
theorem vcons {x v : AV} {xs vs : List AV} (h : Vw H x v) (hs : xs.mapM (viewV H 8) = some vs) : (x :: xs).mapM (viewV H 8) = some (v :: vs) := by
 simp only [List.mapM_cons, h.now, hs, Option.pure_def, Option.bind_eq_bind, Option.bind_some]
theorem blk_grow {i : Nat} {b : Blk} (h : H[i]? = some b) (X : List Blk) : (H ++ X)[i]? = some b := by
 rw [List.getElem?_append_left (List.getElem?_eq_some_iff.1 h).1]
 exact h
theorem lw_box {cs : List AV} {K : AV → Heap → Option β} (hf : cs.all isFl = true) (h : ∀ i, (H ++ [⟨cs, true, true⟩])[i]? = some ⟨cs, true, true⟩ → K (.ptr i 0) (H ++ [⟨cs, true, true⟩]) = r) : pBox (.agg cs) H (fun x H => K x H) = r := by
 rw [box_fl cs H _ hf]
 exact h _ (by rw [List.getElem?_append_right (Nat.le_refl _), Nat.sub_self]; rfl)
theorem lw_ld {i w : Nat} {cs : List AV} {K : AV → Option β} (hi : H[i]? = some ⟨cs, true, true⟩) (hw : cs.length = w) (h : K (.agg cs) = r) : pLoad true w (.ptr i 0) H (fun x => K x) = r := by
 have e : rdCells H i 0 w = some cs := by
  simp only [rdCells, hi, if_true, List.drop_zero, Nat.zero_add, ← hw, Nat.le_refl, List.take_length]
 rw [ldT e]
 exact h
theorem lw_sc {ty f : Nat} {args vs : List AV} {v : Value} {K : AV → Heap → Option β} (hh : plainF f = false) (hv : args.mapM (viewV H 8) = some vs) (ht : tree E0 n ty f vs = some (.sc v)) (h : K (.sc v) H = r) : (PR n β).call ty (.fn f [] []) args H (fun x H => K x H) = r := by
 rw [PR_call hh hv ht, instT_sc, List.append_nil]
 exact h
theorem lw_tree {ty f : Nat} {args vs : List AV} {t : AV} {K : AV → Heap → Option β} (hh : plainF f = false) (hv : args.mapM (viewV H 8) = some vs) (ht : tree E0 n ty f vs = some t) (hok : okW ti0 E0.tp 8 ty t) (h : ∀ X y, Vw (H ++ X) y t → K y (H ++ X) = r) : (PR n β).call ty (.fn f [] []) args H (fun x H => K x H) = r := by
 rw [PR_call hh hv ht]
 exact h _ _ (Vw_inst H ty t hok)
theorem lw_agg {ty f : Nat} {args vs cs : List AV} {K : AV → Heap → Option β} (hh : plainF f = false) (hv : args.mapM (viewV H 8) = some vs) (ht : tree E0 n ty f vs = some (.agg cs)) (hf : cs.all isFl = true) (hok : okW ti0 E0.tp 8 ty (.agg cs)) (h : ∀ X (ys : List AV), ys.length = cs.length → ys.all isLeaf = true → Vw (H ++ X) (.agg ys) (.agg cs) → K (.agg ys) (H ++ X) = r) : (PR n β).call ty (.fn f [] []) args H (fun x H => K x H) = r := by
 rw [PR_call hh hv ht, instT_agg]
 refine h _ _ (instL_len _ _ _) (instL_leaf _ _ _ hf) ?_
 have := Vw_inst H ty (.agg cs) hok
 rwa [instT_agg] at this
theorem lw_put {w : Nat} {z ys : List AV} {K : AV → Heap → Option β} (hz : z.length = w) (hy : ys.length = w) (hl : ys.all isLeaf = true) (h : ∀ i, (H ++ [⟨ys, true, true⟩])[i]? = some ⟨ys, true, true⟩ → K (.ptr i 0) (H ++ [⟨ys, true, true⟩]) = r) :
  pNew z H (fun t H => pStore w t (.agg ys) H fun H => K t H) = r := by
 have hg : (H ++ [(⟨z, true, true⟩ : Blk)])[H.length]? = some ⟨z, true, true⟩ := by rw [List.getElem?_append_right (Nat.le_refl _), Nat.sub_self]; rfl
 have hc : cellsA (.agg ys) = some ys := by
  show (if ys.all isLeaf then some ys else none) = _
  rw [if_pos hl]
 show pStore w (.ptr H.length 0) (.agg ys) (H ++ [⟨z, true, true⟩]) _ = r
 rw [st_at w H.length 0 _ ⟨z, true, true⟩ ys _ _ hg hc hy (by rw [hz]; omega) rfl]
 have hs : splice z 0 ys = ys := by
  unfold splice
  rw [List.take_zero, List.nil_append, List.drop_of_length_le (by rw [hz, hy]; omega), List.append_nil]
 have e : (H ++ [(⟨z, true, true⟩ : Blk)]).set H.length ⟨ys, true, true⟩ = H ++ [⟨ys, true, true⟩] := by
  rw [List.set_append_right _ _ (Nat.le_refl _), Nat.sub_self]
  rfl
 simp only [hs, e]
 exact h _ (by rw [List.getElem?_append_right (Nat.le_refl _), Nat.sub_self]; rfl)
theorem lw_sz {ty f W : Nat} {args vs : List AV} {left : Int} {A : Heap → Option β} {K : AV → Heap → Option β} (hh : plainF f = false) (hv : args.mapM (viewV H 8) = some vs) (ht : tree E0 n ty f vs = some (.sc (.int .i64 (szR W left)))) (h0 : 0 ≤ left) (hA : A H = r) (h : (W : Int) ≤ left → K (.sc (.int .i64 (left - W))) H = r) :
  (PR n β).call ty (.fn f [] []) args H (fun t H => pBin .lss t (.sc (.int .i64 0)) fun t' => pCond t' (A H) (K t H)) = r := by
 rw [PR_call hh hv ht, instT_sc, List.append_nil]
 simp only
 rw [lss64, cond_b]
 by_cases hw : left < W
 ·have e : szR W left = -1 := by rw [szR, if_pos hw]
  rw [e, if_pos (by decide)]
  exact hA
 ·have e : szR W left = left - W := by rw [szR, if_neg hw]
  rw [e, if_neg (by simpa using (show ¬ left - (W : Int) < 0 by omega))]
  exact h (by omega)
theorem lw_str {s : ByteArray} {A K : Option β} (hA : A = r) (h : s.size ≤ 1048576 → K = r) : (pLenS (.sc (.string s)) fun t => pBin .gtr t (.sc (.int .i64 1048576)) fun t' => pCond t' A K) = r := by
 simp only [pLenS, asS, Option.bind_some]
 show pCond (.sc (.bool (decide ((s.size : Int) > 1048576)))) A K = r
 rw [cond_b]
 by_cases hs : s.size ≤ 1048576
 ·rw [if_neg (by simp; omega)]
  exact h hs
 ·rw [if_pos (by simp; omega)]
  exact hA
theorem lw_neb {b : Bool} {A K : Option β} (h : K = r) : (pBinB .neq (.sc (.bool b)) (.sc (.bool b)) fun t => pCond t A K) = r := by
 simp only [pBinB, asB, Option.bind_some, binB, beq_self_eq_true, Bool.not_true]
 exact h
theorem lw_nei {z : Int} {A K : Option β} (h : K = r) : (pBin .neq (.sc (.int .i64 z)) (.sc (.int .i64 z)) fun t => pCond t A K) = r := by
 rw [ne_int, cond_b]
 exact h
theorem lw_eq {ty f : Nat} {args vs : List AV} {A : Heap → Option β} {K : Heap → Option β} (hh : plainF f = false) (hv : args.mapM (viewV H 8) = some vs) (ht : tree E0 n ty f vs = some (.sc (.bool true))) (h : K H = r) : (PR n β).call ty (.fn f [] []) args H (fun t H => pUn .not t fun t' => pCond t' (A H) (K H)) = r := by
 rw [PR_call hh hv ht, instT_sc, List.append_nil]
 exact h
theorem eql64 (a b : Int) (k : AV → Option β) : pBin .eql (.sc (.int .i64 a)) (.sc (.int .i64 b)) k = k (.sc (.bool (a == b))) := rfl
theorem neq64 (a b : Int) (k : AV → Option β) : pBin .neq (.sc (.int .i64 a)) (.sc (.int .i64 b)) k = k (.sc (.bool (a != b))) := rfl
theorem leq64 (a b : Int) (k : AV → Option β) : pBin .leq (.sc (.int .i64 a)) (.sc (.int .i64 b)) k = k (.sc (.bool (decide (a ≤ b)))) := rfl
theorem gtr64 (a b : Int) (k : AV → Option β) : pBin .gtr (.sc (.int .i64 a)) (.sc (.int .i64 b)) k = k (.sc (.bool (decide (a > b)))) := rfl
theorem geq64 (a b : Int) (k : AV → Option β) : pBin .geq (.sc (.int .i64 a)) (.sc (.int .i64 b)) k = k (.sc (.bool (decide (a ≥ b)))) := rfl
theorem add64 (a b : Int) (k : AV → Option β) : pBin .add (.sc (.int .i64 a)) (.sc (.int .i64 b)) k = k (.sc (.int .i64 (IntKind.i64.wrap (a + b)))) := rfl
theorem sub64w (a b : Int) (k : AV → Option β) : pBin .sub (.sc (.int .i64 a)) (.sc (.int .i64 b)) k = k (.sc (.int .i64 (IntKind.i64.wrap (a - b)))) := rfl
theorem mul64 (a b : Int) (k : AV → Option β) : pBin .mul (.sc (.int .i64 a)) (.sc (.int .i64 b)) k = k (.sc (.int .i64 (IntKind.i64.wrap (a * b)))) := rfl
theorem eqlS (a b : ByteArray) (k : AV → Option β) : pBin .eql (.sc (.string a)) (.sc (.string b)) k = k (.sc (.bool (a.toList == b.toList))) := rfl
theorem neqS (a b : ByteArray) (k : AV → Option β) : pBin .neq (.sc (.string a)) (.sc (.string b)) k = k (.sc (.bool (!(a.toList == b.toList)))) := rfl
theorem eqlB (a b : Bool) (k : AV → Option β) : pBinB .eql (.sc (.bool a)) (.sc (.bool b)) k = k (.sc (.bool (a == b))) := rfl
theorem neqB (a b : Bool) (k : AV → Option β) : pBinB .neq (.sc (.bool a)) (.sc (.bool b)) k = k (.sc (.bool (!(a == b)))) := rfl
theorem notB (a : Bool) (k : AV → Option β) : pUn .not (.sc (.bool a)) k = k (.sc (.bool (!a))) := rfl
theorem gdT (m : (AV → Heap → Option β) → Option β) (k : AV → Heap → Option β) : pGuard (.sc (.bool true)) true H m k = m k := rfl
theorem gdF (m : (AV → Heap → Option β) → Option β) (k : AV → Heap → Option β) : pGuard (.sc (.bool false)) true H m k = k (.sc undef) H := rfl
theorem gfT (m : (AV → Heap → Option β) → Option β) (k : AV → Heap → Option β) : pGuard (.sc (.bool true)) false H m k = k (.sc undef) H := rfl
theorem gfF (m : (AV → Heap → Option β) → Option β) (k : AV → Heap → Option β) : pGuard (.sc (.bool false)) false H m k = m k := rfl
theorem pkT (a b : Value) (k : AV → Option β) : pPick (.sc (.bool true)) (.sc a) (.sc b) k = k (.sc a) := rfl
theorem pkF (a b : Value) (k : AV → Option β) : pPick (.sc (.bool false)) (.sc a) (.sc b) k = k (.sc b) := rfl
theorem fadr_p (o id off : Nat) (k : AV → Option β) : pFadr o (.ptr id off) k = k (.ptr id (off + o)) := rfl
theorem lenSc (s : ByteArray) (k : AV → Option β) : pLenS (.sc (.string s)) k = k (.sc (.int .i64 s.size)) := rfl
theorem own_v (ty : Nat) (H : Heap) (v : Value) : ownTree ti0 E0.tp ty H (.sc v) = some (.sc v) := rfl
theorem okW_agg {ty : Nat} {cty : List Nat} {cs : List AV} (hty : ∃ i, ti0 ty = some i ∧ i.cty = cty) (h : okLW (okW ti0 E0.tp 7) cty cs) : okW ti0 E0.tp 8 ty (.agg cs) := by
 obtain ⟨i, hi, rfl⟩ := hty
 exact ⟨i, hi, h⟩
end Go.Proofs.Ytejjggnchdldoaa.Abs
set_option linter.unusedVariables false
set_option linter.unusedSimpArgs false
namespace Go.Proofs.Ytejjggnchdldoaa.Abs
open Go
section
variable {β : Type} {n : Nat} {H : Heap} {r : Option β} {K : AV → Option β} {KH : AV → Heap → Option β}
theorem w_box {cs : List AV} (hf : cs.all isFl = true) (h : ∀ i, i = H.length → (H ++ [⟨cs, true, true⟩])[i]? = some ⟨cs, true, true⟩ → KH (.ptr i 0) (H ++ [⟨cs, true, true⟩]) = r) : pBox (.agg cs) H (fun x H => KH x H) = r := by
 rw [box_fl cs H _ hf]
 exact h _ rfl (by rw [List.getElem?_append_right (Nat.le_refl _), Nat.sub_self]; rfl)
theorem w_new {cs : List AV} (h : ∀ i, i = H.length → (H ++ [⟨cs, true, true⟩])[i]? = some ⟨cs, true, true⟩ → KH (.ptr i 0) (H ++ [⟨cs, true, true⟩]) = r) : pNew cs H (fun x H => KH x H) = r :=
 h _ rfl (by rw [List.getElem?_append_right (Nat.le_refl _), Nat.sub_self]; rfl)
theorem w_newSl {len sz : Nat} {cs : List AV} (h : ∀ i, i = H.length → (H ++ [⟨cs, true, true⟩])[i]? = some ⟨cs, true, true⟩ → KH (.sl i 0 len sz) (H ++ [⟨cs, true, true⟩]) = r) : pNewSl len sz cs true H (fun x H => KH x H) = r :=
 h _ rfl (by rw [List.getElem?_append_right (Nat.le_refl _), Nat.sub_self]; rfl)
theorem w_fill {zs cs : List AV} {ps : List (Nat × Nat × AV)} {KL : List AV → Option β} (hf : fillA zs ps = some cs) (h : KL cs = r) : ((fillA zs ps).bind fun c => KL c) = r := by
 rw [hf]
 exact h
theorem w_fadr {o id off : Nat} (h : K (.ptr id (off + o)) = r) : pFadr o (.ptr id off) (fun x => K x) = r := h
theorem w_fadr_rp {o : Nat} {cells : List AV} (h : K (.rp (cells.drop o)) = r) : pFadr o (.rp cells) (fun x => K x) = r := h
theorem w_ld {i off : Nat} {cs : List AV} {c : AV} (hi : H[i]? = some ⟨cs, true, true⟩) (hl : off < cs.length) (hc : (cs.drop off).take 1 = [c]) (h : K c = r) : pLoad false 1 (.ptr i off) H (fun x => K x) = r := by
 have e : rdCells H i off 1 = some [c] := by
  simp only [rdCells, hi, if_true]
  rw [if_pos (by omega), hc]
 rw [ldF e]
 exact h
theorem w_ldA {i off w : Nat} {cs ds : List AV} (hi : H[i]? = some ⟨cs, true, true⟩) (hl : off + w ≤ cs.length) (hc : (cs.drop off).take w = ds) (h : K (.agg ds) = r) : pLoad true w (.ptr i off) H (fun x => K x) = r := by
 have e : rdCells H i off w = some ds := by
  simp only [rdCells, hi, if_true]
  rw [if_pos hl, hc]
 rw [ldT e]
 exact h
theorem w_ld_rp {cells : List AV} {c : AV} (hc : cells.take 1 = [c]) (h : K c = r) : pLoad false 1 (.rp cells) H (fun x => K x) = r := by
 cases cells with
 | nil => cases hc
 | cons x xs =>
  obtain rfl : x = c := by simpa using hc
  rw [ld1_rp]
  exact h
theorem w_ldA_rp {w : Nat} {cells ds : List AV} (hl : w ≤ cells.length) (hc : cells.take w = ds) (h : K (.agg ds) = r) : pLoad true w (.rp cells) H (fun x => K x) = r := by
 simp only [pLoad, hl, if_true, hc]
 exact h
theorem w_bin {op : BinOp} {x y v : AV} (e : ∀ k : AV → Option β, pBin op x y k = k v) (h : K v = r) : pBin op x y (fun t => K t) = r := (e _).trans h
theorem w_binB {op : BinOp} {x y v : AV} (e : ∀ k : AV → Option β, pBinB op x y k = k v) (h : K v = r) : pBinB op x y (fun t => K t) = r := (e _).trans h
theorem w_binA {op : BinOp} {qs : List Nat} {x y v : AV} (e : ∀ k : AV → Option β, pBinA op qs x y k = k v) (h : K v = r) : pBinA op qs x y (fun t => K t) = r := (e _).trans h
theorem w_not {b : Bool} (h : K (.sc (.bool (!b))) = r) : pUn .not (.sc (.bool b)) (fun t => K t) = r := h
theorem w_lenS {s : ByteArray} (h : K (.sc (.int .i64 s.size)) = r) : pLenS (.sc (.string s)) (fun t => K t) = r := h
theorem w_len {m : Nat} {cs : List AV} (h : K (.sc (.int .i64 m)) = r) : pLen (.ro m cs) (fun t => K t) = r := h
theorem w_split {g : Prop} (b : Bool) (ht : b = true → g) (hf : b = false → g) : g := by
 cases h : b
 ·exact hf h
 ·exact ht h
theorem w_cT {b : Bool} {x y : Option β} (hb : b = true) (h : x = r) : pCond (.sc (.bool b)) x y = r := by subst hb; exact h
theorem w_cF {b : Bool} {x y : Option β} (hb : b = false) (h : y = r) : pCond (.sc (.bool b)) x y = r := by subst hb; exact h
theorem w_gT {b : Bool} {m : (AV → Heap → Option β) → Option β} (hb : b = true) (h : m (fun x H => KH x H) = r) : pGuard (.sc (.bool b)) true H m (fun x H => KH x H) = r := by subst hb; exact h
theorem w_gF {b : Bool} {m : (AV → Heap → Option β) → Option β} (hb : b = false) (h : KH (.sc undef) H = r) : pGuard (.sc (.bool b)) true H m (fun x H => KH x H) = r := by subst hb; exact h
theorem w_hT {b : Bool} {m : (AV → Heap → Option β) → Option β} (hb : b = false) (h : m (fun x H => KH x H) = r) : pGuard (.sc (.bool b)) false H m (fun x H => KH x H) = r := by subst hb; exact h
theorem w_hF {b : Bool} {m : (AV → Heap → Option β) → Option β} (hb : b = true) (h : KH (.sc undef) H = r) : pGuard (.sc (.bool b)) false H m (fun x H => KH x H) = r := by subst hb; exact h
theorem w_u {t : Bool} {m : (AV → Heap → Option β) → Option β} (h : KH (.sc undef) H = r) : pGuard (.sc undef) t H m (fun x H => KH x H) = r := h
theorem w_pT {b : Bool} {x y : AV} (hb : b = true) (h : K x = r) : pPick (.sc (.bool b)) x y (fun t => K t) = r := by
 subst hb
 cases x <;> cases y <;> exact h
theorem w_pF {b : Bool} {x y : AV} (hb : b = false) (h : K y = r) : pPick (.sc (.bool b)) x y (fun t => K t) = r := by
 subst hb
 cases x <;> cases y <;> exact h
def all2 {α : Type} (p : α → α → Bool) : List α → List α → Bool
 | x :: a, y :: b => if p x y then all2 p a b else false
 | _, _ => true
theorem eqv_loop {α : Type} {w : Nat} (enc : α → List AV) (hw : ∀ x, (enc x).length = w) (h0 : 0 < w) (pk : α → AV) (LOAD : AV → (AV → Option β) → Option β) (hld : ∀ x rest k, LOAD (.rp (enc x ++ rest)) k = k (pk x)) (NE : AV → AV → (AV → Option β) → Option β) (pr : α → α → Bool) (hne : ∀ x y k, NE (pk x) (pk y) k = k (.sc (.bool (!(pr x y)))))
  (l q : List α) (hlq : l.length = q.length) (hlen : l.length ≤ 1048576) (L : Nat → AV → Option β) (KF KT : Option β)
  (hL : ∀ m i, L (m + 1) i = pBin .lss i (.sc (.int .i64 l.length)) fun t14 => pCond t14 (pIadr w (rowsC enc l) i fun t19 => LOAD t19 fun t20 => pIadr w (rowsC enc q) i fun t23 => LOAD t23 fun t24 => NE t20 t24 fun t25 => pCond t25 KF (pBin .add i (.sc (.int .i64 1)) fun t16 => L m t16)) KT) :
  ∀ (s t pl pq : List α) (m : Nat), l = pl ++ s → q = pq ++ t → pl.length = pq.length → s.length < m → L m (.sc (.int .i64 pl.length)) = if all2 pr s t then KT else KF
 | [], t, pl, pq, m + 1, hl, hq, hpp, hm => by
  rw [List.append_nil] at hl
  subst hl
  rw [hL, lss_nat, cond_b]
  cases t <;> simp [all2]
 | x :: s, [], pl, pq, m + 1, hl, hq, hpp, hm => by
  have h1 := congrArg List.length hl
  have h2 := congrArg List.length hq
  simp only [List.length_append, List.length_cons, List.length_nil] at h1 h2
  omega
 | x :: s, y :: t, pl, pq, m + 1, hl, hq, hpp, hm => by
  have hlt : pl.length < l.length := by rw [hl]; simp
  rw [hL, lss_nat, cond_b, if_pos (by simpa using hlt)]
  have hel := fun k => el_ro (β := β) hw h0 pl x s k
  rw [← hl] at hel
  have heq := fun k => el_ro (β := β) hw h0 pq y t k
  rw [← hq, ← hpp] at heq
  rw [hel, hld, heq, hld, hne, cond_b, all2]
  cases hpx : pr x y
  ·simp
  ·simp only [Bool.not_true, Bool.false_eq_true, if_false, if_true]
   rw [inc_nat _ _ (by omega)]
   have ih := eqv_loop enc hw h0 pk LOAD hld NE pr hne l q hlq hlen L KF KT hL s t (pl ++ [x]) (pq ++ [y]) m (by rw [hl]; simp) (by rw [hq]; simp) (by simp [hpp]) (by simpa using hm)
   rw [List.length_append, List.length_singleton] at ih
   exact ih
def encI (z : Int) : List AV := [.sc (.int .i64 z)]
def encS (s : ByteArray) : List AV := [.sc (.string s)]
theorem ints_rows (l : List Int) : intsC l = rowsC encI l := by
 rw [rowsC, show (encI) = fun z => [AV.sc (.int .i64 z)] from rfl, flat_one]
theorem strs_rows (l : List ByteArray) : strsC l = rowsC encS l := by
 rw [rowsC, show (encS) = fun z => [AV.sc (.string z)] from rfl, flat_one]
theorem ldI (z : Int) (rest : List AV) (H : Heap) (k : AV → Option β) : pLoad false 1 (.rp (encI z ++ rest)) H k = k (.sc (.int .i64 z)) := ld1_rp _ _ _ _
theorem ldS (z : ByteArray) (rest : List AV) (H : Heap) (k : AV → Option β) : pLoad false 1 (.rp (encS z ++ rest)) H k = k (.sc (.string z)) := ld1_rp _ _ _ _
def eqI (x y : Int) : Bool := x == y
def eqSt (x y : ByteArray) : Bool := x.toList == y.toList
def eqList {α : Type} (p : α → α → Bool) (a b : List α) : Bool := if a.length = b.length then all2 p a b else false
theorem neI (x y : Int) (k : AV → Option β) : pBin .neq (.sc (.int .i64 x)) (.sc (.int .i64 y)) k = k (.sc (.bool (!(eqI x y)))) := rfl
theorem neS (x y : ByteArray) (k : AV → Option β) : pBin .neq (.sc (.string x)) (.sc (.string y)) k = k (.sc (.bool (!(eqSt x y)))) := rfl
theorem binA_ne (qs : List Nat) (cs ds : List AV) (b : Bool) (h : eqCells qs cs ds = some b) (k : AV → Option β) : pBinA .neq qs (.agg cs) (.agg ds) k = k (.sc (.bool (!b))) := by
 simp only [pBinA, h, Option.bind_some]
theorem w_merge {X : Option β} (e : Bool) {K : Bool → Option β} (h1 : ∀ b, b = e → X = K b) (h2 : ∀ b, b = e → K b = r) : X = r := (h1 e rfl).trans (h2 e rfl)
theorem w_pTb {c v b : Bool} {y : AV} (hc : c = true) (hv : v = b) (h : K (.sc (.bool b)) = r) : pPick (.sc (.bool c)) (.sc (.bool v)) y (fun t => K t) = r := by
 subst hc
 subst hv
 cases y <;> exact h
theorem w_pFb {c v b : Bool} {x : AV} (hc : c = false) (hv : v = b) (h : K (.sc (.bool b)) = r) : pPick (.sc (.bool c)) x (.sc (.bool v)) (fun t => K t) = r := by
 subst hc
 subst hv
 cases x <;> exact h
theorem mAT {b c v : Bool} (hb : b = (c && v)) (h : c = true) : v = b := by rw [hb, h]; rfl
theorem mAF {b c v : Bool} (hb : b = (c && v)) (h : c = false) : false = b := by rw [hb, h]; rfl
theorem mOT {b c v : Bool} (hb : b = (c || v)) (h : c = true) : true = b := by rw [hb, h]; rfl
theorem mOF {b c v : Bool} (hb : b = (c || v)) (h : c = false) : v = b := by rw [hb, h]; rfl
theorem w_letJ {α : Sort _} {γ : Type} {x : α} {f : α → Option γ} {r : Option γ} (h : f x = r) : letJ x f = r := h
theorem w_endB {ty : Nat} {b b' : Bool} (h : b = b') : ownTree ti0 E0.tp ty H (.sc (.bool b)) = some (.sc (.bool b')) := by subst h; rfl
theorem w_endI {ty : Nat} {b b' : Int} (h : b = b') : ownTree ti0 E0.tp ty H (.sc (.int .i64 b)) = some (.sc (.int .i64 b')) := by subst h; rfl
theorem w_iadr0 {α : Type} {w : Nat} {enc : α → List AV} {l : List α} (hw : ∀ x, (enc x).length = w) (h0 : 0 < w) (hl : 0 < l.length) (h : ∀ x t, l = x :: t → K (.rp (enc x ++ (t.map enc).flatten)) = r) : pIadr w (rowsC enc l) (.sc (.int .i64 0)) (fun t => K t) = r := by
 cases l with
 | nil => simp at hl
 | cons x t =>
  have := el_ro (β := β) hw h0 [] x t (fun t => K t)
  simp only [List.nil_append, List.length_nil, Int.natCast_zero] at this
  rw [this]
  exact h x t rfl
theorem PR_callC {ty : Nat} {f : FuncId} {caps args vs : List AV} {t : AV} {k : AV → Heap → Option β} (hh : plainF f = false) (hv : (args ++ caps).mapM (viewV H 8) = some vs) (ht : tree E0 n ty f vs = some t) :
  (PR n β).call ty (.fn f [] caps) args H k = k (instT ti0 E0.tp H.length ty t).1 (H ++ (instT ti0 E0.tp H.length ty t).2) := by
 show callF E0 (evalFn E0 n) ty f ([] ++ args ++ caps) H k = _
 simp only [callF, plain_ext hh, plain_hm hh, List.nil_append, Bool.false_eq_true, if_false, callT, hv, Option.bind_some]
 have ht : treeOf E0 (evalFn E0 n) ty f vs = some t := ht
 rw [ht]
 rfl
theorem Vw_rp (H : Heap) (cs : List AV) : Vw H (.rp cs) (.rp cs) := fun _ => rfl
def idxOf {α : Type} (p : α → Bool) : List α → Nat → Int
 | [], _ => -1
 | x :: l, i => if p x then i else idxOf p l (i + 1)
theorem index_loop {α : Type} {tb g w : Nat} {caps : List AV} (enc : α → List AV) (pr : α → Bool) (k : AV → Heap → Option β) (hw : ∀ x, (enc x).length = w) (h0 : 0 < w) (hfl : ∀ x, (enc x).all isFl = true) (hh : plainF g = false) (hcv : ∀ H, caps.mapM (viewV H 8) = some caps) (L : Nat → AV → AV → AV → AV → Heap → Option β)
  (hL : ∀ m a b c i H, L (m + 1) a b c i H = pBin .lss i c fun t9 => pCond t9 (pIadr w a i fun t14 => pLoad true w t14 H fun t15 => (PR n β).call tb b [t15] H fun t16 H => pCond t16 (k i H) (pBin .add i (.sc (.int .i64 1)) fun t18 => L m a b c t18 H)) (k (.sc (.int .i64 (-1))) H))
  (l : List α) (hp : ∀ x ∈ l, tree E0 n tb g (.agg (enc x) :: caps) = some (.sc (.bool (pr x)))) (hlen : l.length ≤ 1048576) (H : Heap) : ∀ (t pre : List α) (m : Nat), l = pre ++ t → t.length < m →
   L m (rowsC enc l) (.fn g [] caps) (.sc (.int .i64 l.length)) (.sc (.int .i64 pre.length)) H = k (.sc (.int .i64 (idxOf pr t pre.length))) H
 | [], pre, m + 1, hl, hm => by
  rw [List.append_nil] at hl
  subst hl
  rw [hL, lss_nat, cond_b]
  simp [idxOf]
 | x :: t, pre, m + 1, hl, hm => by
  have hlt : pre.length < l.length := by rw [hl]; simp
  rw [hL, lss_nat, cond_b, if_pos (by simpa using hlt)]
  have hel := fun k => el_ro (β := β) hw h0 pre x t k
  rw [← hl] at hel
  rw [hel, ld_rp w _ _ _ _ (hw x)]
  rw [PR_callC (vs := .agg (enc x) :: caps) hh (by simp only [List.cons_append, List.nil_append, List.mapM_cons, (Vw_agg _ (hfl x)).now, hcv]; rfl) (hp x (by rw [hl]; simp)), instT_sc, List.append_nil]
  simp only
  rw [cond_b, idxOf]
  cases hpx : pr x
  ·simp only [Bool.false_eq_true, if_false]
   rw [inc_nat _ _ (by omega)]
   have ih := index_loop enc pr k hw h0 hfl hh hcv L hL l hp hlen H t (pre ++ [x]) m (by rw [hl]; simp) (by simpa using hm)
   rw [List.length_append, List.length_singleton] at ih
   exact ih
  ·simp only [if_true]
theorem Vw_fn1 {i g : Nat} {cs : List AV} (hi : H[i]? = some ⟨cs, true, true⟩) (hfl : cs.all isFl = true) : Vw H (.fn g [] [.ptr i 0]) (.fn g [] [.rp cs]) := fun X => by
 have hg : (H ++ X)[i]? = some ⟨cs, true, true⟩ := blk_grow hi X
 have hr : rdCells (H ++ X) i 0 (cs.length - 0) = some cs := by
  simp only [rdCells, hg, if_true, Nat.sub_zero, Nat.zero_add, Nat.le_refl, List.drop_zero, List.take_length]
 have hp : viewV (H ++ X) 7 (.ptr i 0) = some (.rp cs) := by
  show ((H ++ X)[i]?).bind (fun b => (rdCells (H ++ X) i 0 (b.cells.length - 0)).bind fun cs => (cs.mapM (viewV (H ++ X) 6)).bind fun vs => some (AV.rp vs)) = _
  rw [hg, Option.bind_some]
  show (rdCells (H ++ X) i 0 (cs.length - 0)).bind _ = _
  rw [hr, Option.bind_some, fl_view hfl]
  rfl
 show (([] : List AV).mapM (viewV (H ++ X) 7)).bind (fun us => ([AV.ptr i 0].mapM (viewV (H ++ X) 7)).bind fun cs => some (AV.fn g us cs)) = _
 simp only [List.mapM_cons, List.mapM_nil, hp, Option.pure_def, Option.bind_eq_bind, Option.bind_some]
theorem w_boxS {v : Value} (hv : leafV v = true) (h : ∀ i, i = H.length → (H ++ [⟨[.sc v], true, true⟩])[i]? = some ⟨[.sc v], true, true⟩ → KH (.ptr i 0) (H ++ [⟨[.sc v], true, true⟩]) = r) : pBox (.sc v) H (fun x H => KH x H) = r := by
 have e : cellsA (.sc v) = some [.sc v] := by simp only [cellsA, isLeaf, hv, if_true]
 show (cellsA (.sc v)).bind _ = r
 rw [e]
 exact h _ rfl (by rw [List.getElem?_append_right (Nat.le_refl _), Nat.sub_self]; rfl)
theorem idx_s (s : ByteArray) (i : Nat) (b : UInt8) (k : AV → Option β) (h : s.data.toList[i]? = some b) : pIdx (.sc (.string s)) (.sc (.int .i64 i)) k = k (.sc (.int .u8 b.toNat)) := by
 have hlt : i < s.size := by
  have := (List.getElem?_eq_some_iff.1 h).1
  simpa using this
 have hb : s[i]'hlt = b := by
  have := (List.getElem?_eq_some_iff.1 h).2
  simp only [Array.getElem_toList] at this
  exact this
 simp only [pIdx, asI, asS, Option.bind_some, Int.toNat_natCast]
 rw [dif_pos ⟨by omega, hlt⟩, hb]
theorem slice_rows {α : Type} {w : Nat} {enc : α → List AV} (hw : ∀ x, (enc x).length = w) (l : List α) (d : Nat) (hd : d ≤ l.length) (k : AV → Option β) : pSlice w (rowsC enc l) (some (.sc (.int .i64 d))) none k = k (rowsC enc (l.drop d)) := by
 simp only [pSlice, lenA, bound, asI, Option.bind_some]
 rw [if_pos (by omega)]
 have h1 : ((l.length : Int) - d).toNat = (l.drop d).length := by rw [List.length_drop]; omega
 have h2 : ((l.map enc).flatten.drop (d * w)) = ((l.drop d).map enc).flatten := by
  have := drop_rows hw (l.take d) (l.drop d)
  rw [List.take_append_drop, List.length_take, Nat.min_eq_left hd] at this
  exact this
 rw [h1, Int.toNat_natCast, h2, ← rows_len hw, List.take_length]
theorem eqfunc_loop {α : Type} {tb g w : Nat} (enc : α → List AV) (pr : α → α → Bool) (k : AV → Heap → Option β) (hk : ∀ v H H', k (.sc v) H = k (.sc v) H') (z : List AV) (hz : z.length = w) (hw : ∀ x, (enc x).length = w) (h0 : 0 < w) (hfl : ∀ x, (enc x).all isFl = true) (hh : plainF g = false) (L : Nat → AV → AV → AV → AV → AV → Heap → Option β)
  (hL : ∀ m b f a c i H, L (m + 1) b f a c i H = pBin .lss i c fun t18 => pCond t18 (pIadr w a i fun t20 => pLoad true w t20 H fun t21 => pNew z H fun t8 H => pStore w t8 t21 H fun H => pIadr w b i fun t24 => pLoad true w t24 H fun t25 => pNew z H fun t9 H => pStore w t9 t25 H fun H => pLoad true w t8 H fun t27 => pLoad true w t9 H fun t28 => (PR n β).call tb f [t27, t28] H fun t29 H => pUn .not t29 fun t30 => pCond t30 (k (.sc (.bool false)) H) (pBin .add i (.sc (.int .i64 1)) fun t31 => L m b f a c t31 H)) (k (.sc (.bool true)) H))
  (l q : List α) (hp : ∀ x y, x ∈ l → y ∈ q → tree E0 n tb g [.agg (enc x), .agg (enc y)] = some (.sc (.bool (pr x y)))) (hlq : l.length = q.length) (hlen : l.length ≤ 1048576) : ∀ (s t pl pq : List α) (m : Nat) (H : Heap), l = pl ++ s → q = pq ++ t → pl.length = pq.length → s.length < m →
   L m (rowsC enc q) (.fn g [] []) (rowsC enc l) (.sc (.int .i64 l.length)) (.sc (.int .i64 pl.length)) H = k (.sc (.bool (all2 pr s t))) []
 | [], t, pl, pq, m + 1, H, hl, hq, hpp, hm => by
  have ht : t = [] := by
   have h1 := congrArg List.length hl
   have h2 := congrArg List.length hq
   simp only [List.length_append, List.length_nil] at h1 h2
   exact List.eq_nil_of_length_eq_zero (by omega)
  subst ht
  rw [List.append_nil] at hl
  subst hl
  rw [hL, lss_nat, cond_b]
  simp only [Nat.lt_irrefl, decide_false, Bool.false_eq_true, if_false, all2]
  exact hk _ _ _
 | x :: s, [], pl, pq, m + 1, H, hl, hq, hpp, hm => by
  have h1 := congrArg List.length hl
  have h2 := congrArg List.length hq
  simp only [List.length_append, List.length_cons, List.length_nil] at h1 h2
  omega
 | x :: s, y :: t, pl, pq, m + 1, H, hl, hq, hpp, hm => by
  have hlt : pl.length < l.length := by rw [hl]; simp
  rw [hL, lss_nat, cond_b, if_pos (by simpa using hlt)]
  have hel := fun k => el_ro (β := β) hw h0 pl x s k
  rw [← hl] at hel
  have heq := fun k => el_ro (β := β) hw h0 pq y t k
  rw [← hq, ← hpp] at heq
  rw [hel, ld_rp w _ _ _ _ (hw x)]
  refine lw_put hz (hw x) (fl_leaf (hfl x)) fun i hi => ?_
  rw [heq, ld_rp w _ _ _ _ (hw y)]
  refine lw_put hz (hw y) (fl_leaf (hfl y)) fun j hj => ?_
  replace hi := blk_grow hi [⟨enc y, true, true⟩]
  refine lw_ld hi (hw x) ?_
  refine lw_ld hj (hw y) ?_
  refine lw_sc hh (vcons (Vw_agg _ (hfl x)) (vcons (Vw_agg _ (hfl y)) vnil)) (hp x y (by rw [hl]; simp) (by rw [hq]; simp)) ?_
  rw [notB, cond_b, all2]
  cases hpx : pr x y
  ·simp only [Bool.not_false, if_true, Bool.false_eq_true, if_false]
   exact hk _ _ _
  ·simp only [Bool.not_true, Bool.false_eq_true, if_false, if_true]
   rw [inc_nat _ _ (by omega)]
   have ih := eqfunc_loop enc pr k hk z hz hw h0 hfl hh L hL l q hp hlq hlen s t (pl ++ [x]) (pq ++ [y]) m ((H ++ [⟨enc x, true, true⟩]) ++ [⟨enc y, true, true⟩]) (by rw [hl]; simp) (by rw [hq]; simp) (by simp [hpp]) (by simpa using hm)
   rw [List.length_append, List.length_singleton] at ih
   exact ih
theorem ends_loop {α : Type} {tb g w : Nat} (enc : α → List AV) (pr : α → α → Bool) (k : AV → Heap → Option β) (hw : ∀ x, (enc x).length = w) (h0 : 0 < w) (hfl : ∀ x, (enc x).all isFl = true) (hh : plainF g = false) (L : Nat → AV → AV → AV → Heap → Option β)
  (hL : ∀ m a b i H, L (m + 1) a b i H = pLen b fun t13 => pBin .lss i t13 fun t14 => pCond t14 (pLen a fun t19 => pLen b fun t21 => pBin .sub t19 t21 fun t22 => pBin .add t22 i fun t24 => pIadr w a t24 fun t25 => pLoad true w t25 H fun t26 => pIadr w b i fun t29 => pLoad true w t29 H fun t30 => (PR n β).call tb (.fn g [] []) [t26, t30] H fun t31 H => pUn .not t31 fun t32 => pCond t32 (k (.sc (.bool false)) H) (pBin .add i (.sc (.int .i64 1)) fun t16 => L m a b t16 H)) (k (.sc (.bool true)) H))
  (l q : List α) (hp : ∀ x y, x ∈ l → y ∈ q → tree E0 n tb g [.agg (enc x), .agg (enc y)] = some (.sc (.bool (pr x y)))) (hlq : q.length ≤ l.length) (hlen : l.length ≤ 1048576) (H : Heap) : ∀ (t s pq pl : List α) (m : Nat), l = pl ++ s → q = pq ++ t → pl.length = l.length - q.length + pq.length → t.length < m →
   L m (rowsC enc l) (rowsC enc q) (.sc (.int .i64 pq.length)) H = k (.sc (.bool (all2 pr s t))) H
 | [], s, pq, pl, m + 1, hl, hq, hpp, hm => by
  rw [List.append_nil] at hq
  subst hq
  have e : all2 pr s [] = true := by cases s <;> rfl
  rw [hL, len_ro, lss_nat, cond_b, e]
  simp
 | y :: t, [], pq, pl, m + 1, hl, hq, hpp, hm => by
  have h1 := congrArg List.length hl
  have h2 := congrArg List.length hq
  simp only [List.length_append, List.length_cons, List.length_nil] at h1 h2
  omega
 | y :: t, x :: s, pq, pl, m + 1, hl, hq, hpp, hm => by
  have hlt : pq.length < q.length := by rw [hq]; simp
  rw [hL, len_ro, lss_nat, cond_b, if_pos (by simpa using hlt)]
  have hel := fun k => el_ro (β := β) hw h0 pl x s k
  rw [← hl] at hel
  have heq := fun k => el_ro (β := β) hw h0 pq y t k
  rw [← hq] at heq
  have hi : ((l.length : Int) - (q.length : Int)) = ((l.length - q.length : Nat) : Int) := by omega
  have ha : (((l.length - q.length : Nat) : Int) + (pq.length : Int)) = (pl.length : Int) := by omega
  rw [len_ro, len_ro, sub64 _ _ _ (by omega) (by omega), hi, add64, ha, wrap64 _ (by omega) (by omega)]
  rw [hel, ld_rp w _ _ _ _ (hw x), heq, ld_rp w _ _ _ _ (hw y)]
  refine lw_sc hh (vcons (Vw_agg _ (hfl x)) (vcons (Vw_agg _ (hfl y)) vnil)) (hp x y (by rw [hl]; simp) (by rw [hq]; simp)) ?_
  rw [notB, cond_b, all2]
  cases hpx : pr x y
  ·simp only [Bool.not_false, if_true, Bool.false_eq_true, if_false]
  ·simp only [Bool.not_true, Bool.false_eq_true, if_false, if_true]
   rw [inc_nat _ _ (by omega)]
   have ih := ends_loop enc pr k hw h0 hfl hh L hL l q hp hlq hlen H t s (pq ++ [y]) (pl ++ [x]) m (by rw [hl]; simp) (by rw [hq]; simp) (by simp [hpp]; omega) (by simpa using hm)
   rw [List.length_append, List.length_singleton] at ih
   exact ih
theorem nT {b : Bool} (h : b = false) : (!b) = true := by rw [h]; rfl
theorem nF {b : Bool} (h : b = true) : (!b) = false := by rw [h]; rfl
end
end Go.Proofs.Ytejjggnchdldoaa.Abs
set_option linter.unusedVariables false
set_option linter.unusedSimpArgs false
set_option maxRecDepth 100000
namespace Go.Proofs.Ytejjggnchdldoaa.Abs
open Go
def vIn (x lo hi : Int) : Bool := decide (lo ≤ x) && decide (x ≤ hi)
theorem l1InF (n : Nat) (ty : Nat) (x : Int) (lo : Int) (hi : Int) : tree E0 (n + 1) ty 42 [.sc (.int .i64 x), .sc (.int .i64 lo), .sc (.int .i64 hi)] = some (.sc (.bool (vIn x lo hi))) := by
 rw [tree_def, f42_eq, f42]
 try simp only [PR_box, PR_new, PR_fadr, PR_load, PR_store, PR_bin, PR_binB, PR_binA, PR_un, PR_cond, PR_guard, PR_pick, PR_len, PR_lenS, PR_iadr, PR_idx, PR_slice, PR_sliceS, PR_newSl, PR_fill, PR_make, PR_app, PR_cvI, PR_cvBS]
 refine w_bin (v := .sc (.bool (decide (x ≥ lo)))) (fun k => rfl) ?_
 apply w_merge ((decide (x ≥ lo)) && (decide (x ≤ hi)))
 ·intro b1 q1
  refine w_split ((decide (x ≥ lo))) (fun h1 => ?_) (fun h1 => ?_)
  ·refine w_gT h1 ?_
   refine w_gT h1 ?_
   refine w_gT h1 ?_
   refine w_bin (v := .sc (.bool (decide (x ≤ hi)))) (fun k => rfl) ?_
   refine w_pTb h1 (mAT q1 h1) ?_
   exact rfl
  ·refine w_gF h1 ?_
   refine w_gF h1 ?_
   refine w_gF h1 ?_
   refine w_pFb h1 (mAF q1 h1) ?_
   exact rfl
 intro b1 q1
 exact w_endB (by first | (simp_all [vIn]; done) | (rw [Bool.eq_iff_iff]; simp [vIn] at *; omega))
theorem withinF (n : Nat) (ty : Nat) (x : Int) (lo : Int) (hi : Int) : tree E0 (n + 1) ty 37 [.sc (.int .i64 x), .sc (.int .i64 lo), .sc (.int .i64 hi)] = some (.sc (.bool (vIn x lo hi))) := by
 rw [tree_def, f37_eq, f37]
 try simp only [PR_box, PR_new, PR_fadr, PR_load, PR_store, PR_bin, PR_binB, PR_binA, PR_un, PR_cond, PR_guard, PR_pick, PR_len, PR_lenS, PR_iadr, PR_idx, PR_slice, PR_sliceS, PR_newSl, PR_fill, PR_make, PR_app, PR_cvI, PR_cvBS]
 refine w_bin (v := .sc (.bool (decide (x ≥ lo)))) (fun k => rfl) ?_
 apply w_merge ((decide (x ≥ lo)) && (decide (x ≤ hi)))
 ·intro b1 q1
  refine w_split ((decide (x ≥ lo))) (fun h1 => ?_) (fun h1 => ?_)
  ·refine w_gT h1 ?_
   refine w_gT h1 ?_
   refine w_gT h1 ?_
   refine w_bin (v := .sc (.bool (decide (x ≤ hi)))) (fun k => rfl) ?_
   refine w_pTb h1 (mAT q1 h1) ?_
   exact rfl
  ·refine w_gF h1 ?_
   refine w_gF h1 ?_
   refine w_gF h1 ?_
   refine w_pFb h1 (mAF q1 h1) ?_
   exact rfl
 intro b1 q1
 exact w_endB (by first | (simp_all [vIn]; done) | (rw [Bool.eq_iff_iff]; simp [vIn] at *; omega))
end Go.Proofs.Ytejjggnchdldoaa.Abs
set_option linter.unusedVariables false
set_option linter.unusedSimpArgs false
namespace Go.Proofs.Ytejjggnchdldoaa.Abs
open Go
def nx (x : Int) : Int := x % 65535 + 1
def seek (used : List Int) : Nat → Int → Int × Bool
 | 0, _ => (0, false)
 | k + 1, x => if used.contains (nx x) then seek used k (nx x) else (nx x, true)
def orb : Nat → Int → List Int
 | 0, _ => []
 | k + 1, x => nx x :: orb k (nx x)
theorem orb_len : ∀ (k : Nat) (x : Int), (orb k x).length = k
 | 0, _ => rfl
 | k + 1, x => by rw [orb, List.length_cons, orb_len k]
theorem orb_mem : ∀ (k : Nat) (x y : Int), 0 ≤ x → y ∈ orb k x → ∃ i : Nat, i < k ∧ y = (x + i) % 65535 + 1
 | 0, _, _, _, h => by cases h
 | k + 1, x, y, h0, h => by
  rcases List.mem_cons.1 h with rfl | h
  ·exact ⟨0, by omega, by unfold nx; simp⟩
  ·obtain ⟨i, hi, rfl⟩ := orb_mem k (nx x) y (by unfold nx; omega) h
   refine ⟨i + 1, by omega, ?_⟩
   unfold nx
   omega
theorem orb_nodup : ∀ (k : Nat) (x : Int), 0 ≤ x → k ≤ 65535 → (orb k x).Nodup
 | 0, _, _, _ => List.nodup_nil
 | k + 1, x, h0, hk => by
  rw [orb, List.nodup_cons]
  refine ⟨fun hm => ?_, orb_nodup k _ (by unfold nx; omega) (by omega)⟩
  obtain ⟨i, hi, e⟩ := orb_mem k (nx x) (nx x) (by unfold nx; omega) hm
  unfold nx at e
  omega
theorem seek_none : ∀ (used : List Int) (k : Nat) (x : Int), (seek used k x).2 = false → ∀ y ∈ orb k x, y ∈ used
 | used, 0, _, _, y, hy => by cases hy
 | used, k + 1, x, h, y, hy => by
  rw [seek] at h
  split at h
  ·rename_i hc
   rcases List.mem_cons.1 hy with rfl | hy
   ·exact List.contains_iff_mem.1 hc
   ·exact seek_none used k _ h y hy
  ·cases h
theorem seek_more : ∀ (used : List Int) (k j : Nat) (x : Int), (seek used k x).2 = true → seek used (k + j) x = seek used k x
 | used, 0, _, _, h => by cases h
 | used, k + 1, j, x, h => by
  rw [show k + 1 + j = (k + j) + 1 by omega, seek, seek]
  rw [seek] at h
  split
  ·rename_i hc
   rw [if_pos hc] at h
   exact seek_more used k j _ h
  ·rfl
theorem nodup_sub : ∀ (l u : List Int), l.Nodup → (∀ y ∈ l, y ∈ u) → l.length ≤ u.length
 | [], u, _, _ => Nat.zero_le _
 | x :: l, u, h, hs => by
  rw [List.nodup_cons] at h
  have hx : x ∈ u := hs x List.mem_cons_self
  have h1 := nodup_sub l (u.erase x) h.2 fun y hy => (List.mem_erase_of_ne (fun (e : y = x) => h.1 (e ▸ hy))).2 (hs y (List.mem_cons_of_mem _ hy))
  rw [List.length_erase_of_mem hx] at h1
  have := List.length_pos_of_mem hx
  rw [List.length_cons]
  omega
theorem seek_eq (used : List Int) (x : Int) (h0 : 0 ≤ x) : seek used 65535 x = seek used (min (used.length + 1) 65535) x := by
 by_cases h : used.length + 1 < 65535
 ·rw [Nat.min_eq_left (by omega)]
  cases hs : (seek used (used.length + 1) x).2
  ·exfalso
   have h1 := nodup_sub _ used (orb_nodup (used.length + 1) x h0 (by omega)) (seek_none used _ x hs)
   rw [orb_len] at h1
   omega
  ·have := seek_more used (used.length + 1) (65535 - (used.length + 1)) x hs
   rw [show used.length + 1 + (65535 - (used.length + 1)) = 65535 by omega] at this
   exact this
 ·rw [Nat.min_eq_right (by omega)]
def vNext (last : Int) (used : List Int) : Int × Bool := if 0 ≤ last ∧ last ≤ 65535 then seek used 65535 last else (0, false)
theorem next_found (last : Int) (used : List Int) (h : 0 ≤ last ∧ last ≤ 65535) (hu : used.length < 65535) : (vNext last used).2 = true := by
 unfold vNext
 rw [if_pos h]
 cases hs : (seek used 65535 last).2
 ·exfalso
  have h1 := nodup_sub _ used (orb_nodup 65535 last h.1 (Nat.le_refl _)) (seek_none used _ last hs)
  rw [orb_len] at h1
  omega
 ·rfl
theorem seek_range : ∀ (used : List Int) (k : Nat) (x : Int), 0 ≤ x → (seek used k x).2 = true → 1 ≤ (seek used k x).1 ∧ (seek used k x).1 ≤ 65535
 | used, 0, _, _, h => by cases h
 | used, k + 1, x, h0, h => by
  rw [seek] at h ⊢
  split
  ·rename_i hc
   rw [if_pos hc] at h
   exact seek_range used k _ (by unfold nx; omega) h
  ·unfold nx
   show 1 ≤ x % 65535 + 1 ∧ x % 65535 + 1 ≤ 65535
   omega
end Go.Proofs.Ytejjggnchdldoaa.Abs
set_option linter.unusedVariables false
set_option linter.unusedSimpArgs false
set_option maxRecDepth 100000
namespace Go.Proofs.Ytejjggnchdldoaa.Abs
open Go
variable {β : Type} {n : Nat} {r : Option β}
def inR (t lo hi : Int) : Bool := decide (lo ≤ t) && decide (t ≤ hi)
theorem withinN (n ty : Nat) (t lo hi : Int) : tree E0 (n + 1) ty 37 [.sc (.int .i64 t), .sc (.int .i64 lo), .sc (.int .i64 hi)] = some (.sc (.bool (inR t lo hi))) := by
 rw [tree_def, f37_eq, f37]
 simp only [PR_bin, PR_guard, PR_pick]
 refine w_bin (v := .sc (.bool (decide (lo ≤ t)))) (fun k => rfl) ?_
 cases h : decide (lo ≤ t)
 ·refine w_gF rfl ?_
  refine w_gF rfl ?_
  refine w_gF rfl ?_
  refine w_pF rfl ?_
  exact w_endB (by rw [inR, h]; rfl)
 ·refine w_gT rfl ?_
  refine w_gT rfl ?_
  refine w_gT rfl ?_
  rw [leq64]
  refine w_pT rfl ?_
  exact w_endB (by rw [inR, h]; rfl)
theorem isWordN (n ty : Nat) (t : Int) : tree E0 (n + 2) ty 40 [.sc (.int .i64 t)] = some (.sc (.bool (inR t 0 65535))) := by
 rw [tree_def, f40_eq, f40]
 refine lw_sc rfl (vcons (Vw_sc _ _) (vcons (Vw_sc _ _) (vcons (Vw_sc _ _) vnil))) (withinN n _ t 0 65535) ?_
 rfl
theorem isIdN (n ty : Nat) (t : Int) : tree E0 (n + 2) ty 41 [.sc (.int .i64 t)] = some (.sc (.bool (inR t 1 65535))) := by
 rw [tree_def, f41_eq, f41]
 refine lw_sc rfl (vcons (Vw_sc _ _) (vcons (Vw_sc _ _) (vcons (Vw_sc _ _) vnil))) (withinN n _ t 1 65535) ?_
 rfl
def tkV (u : List Int) (j : Nat) : AV := .sc (.bool (u.any fun z => z == (j : Int) && inR z 1 65535))
def tkC (W : Nat) (u : List Int) : List AV := (List.range W).map (tkV u)
theorem tkC_len (W : Nat) (u : List Int) : (tkC W u).length = W := by simp [tkC]
theorem tkC_get (W : Nat) (u : List Int) (j : Nat) (h : j < W) : (tkC W u)[j]? = some (tkV u j) := by
 rw [tkC, List.getElem?_map, List.getElem?_range h]
 rfl
theorem rep_tk : ∀ n : Nat, (List.replicate n [AV.sc (.bool false)]).flatten = tkC n []
 | 0 => rfl
 | n + 1 => by
  rw [List.replicate_succ', List.flatten_append, rep_tk n]
  show tkC n [] ++ [AV.sc (.bool false)] = _
  rw [tkC, tkC, List.range_succ, List.map_append]
  rfl
theorem splice_one {l : List AV} {i : Nat} {x : AV} (h : i < l.length) : splice l (0 + i * 1) [x] = l.set i x := by
 unfold splice
 rw [List.set_eq_take_append_cons_drop, if_pos h, Nat.zero_add, Nat.mul_one]
 simp
theorem tk_set (W : Nat) (u : List Int) (i : Nat) (h : i < W) (hi : inR (i : Int) 1 65535 = true) : splice (tkC W u) (0 + i * 1) [.sc (.bool true)] = tkC W (u ++ [(i : Int)]) := by
 rw [splice_one (by rw [tkC_len]; exact h)]
 apply List.ext_getElem?
 intro j
 by_cases hj : j < W
 ·rw [tkC_get _ _ _ hj]
  by_cases e : i = j
  ·subst e
   rw [List.getElem?_set_self (by rw [tkC_len]; exact h), tkV, List.any_append]
   simp [hi]
  ·rw [List.getElem?_set_ne e, tkC_get _ _ _ hj, tkV, tkV, List.any_append]
   have : ((i : Int) == (j : Int)) = false := by
    rw [beq_eq_false_iff_ne]
    omega
   simp [this]
 ·rw [List.getElem?_eq_none (by rw [List.length_set, tkC_len]; omega), List.getElem?_eq_none (by rw [tkC_len]; omega)]
theorem tk_skip (W : Nat) (u : List Int) (z : Int) (h : inR z 1 65535 = false) : tkC W (u ++ [z]) = tkC W u := by
 unfold tkC
 congr 1
 funext j
 rw [tkV, tkV, List.any_append]
 simp [h]
theorem tk_nx (u : List Int) (x : Int) (h0 : 0 ≤ x) : tkV u (nx x).toNat = .sc (.bool (u.contains (nx x))) := by
 have h1 : 1 ≤ nx x ∧ nx x ≤ 65535 := by unfold nx; omega
 rw [tkV]
 congr 2
 rw [show (((nx x).toNat : Nat) : Int) = nx x by omega]
 induction u with
 | nil => rfl
 | cons z u ih =>
  rw [List.any_cons, ih, List.contains_cons]
  congr 1
  cases e : (z == nx x)
  ·rw [Bool.false_and]
   symm
   rw [beq_eq_false_iff_ne] at e ⊢
   exact fun h => e h.symm
  ·have e' : z = nx x := by simpa using e
   subst e'
   rw [inR, decide_eq_true h1.1, decide_eq_true h1.2]
   simp
theorem make_tk (W : Nat) (hW : W = 65536) (H : Heap) (k : AV → Heap → Option β) : pMake 1 1 [.sc (.bool false)] (.sc (.int .i64 65536)) (.sc (.int .i64 65536)) H k = k (.sl H.length 0 W 1) (H ++ [⟨tkC W [], true, true⟩]) := by
 subst hW
 show (if (65536 : Int) = 65536 then (if (0 : Int) ≤ 65536 then (if (65536 : Int).toNat * 1 ≤ 140737488355328 then pNewSl (65536 : Int).toNat 1 ((List.replicate (65536 : Int).toNat [AV.sc (.bool false)]).flatten) true H k else none) else none) else none) = _
 rw [if_pos rfl, if_pos (by decide), if_pos (by decide), rep_tk]
 rfl
theorem next_l1 (W : Nat) (hW : W = 65536) (u : List Int) (b : Nat) (H : Heap) (hb : H[b]? = some ⟨tkC W u, true, true⟩) (K : AV → Heap → Option β) : ∀ (k m : Nat) (x : Int) (c : Nat), c + k = 65535 → k < m → 0 ≤ x → x ≤ 65535 →
  f20_l1 (PR n β) n K m (.sl b 0 W 1) (.sc (.int .i64 x)) (.sc (.int .i64 c)) H = K (.tup [.sc (.int .i64 (seek u k x).1), .sc (.bool (seek u k x).2)]) H
 | 0, m + 1, x, c, hc, hm, h0, h1 => by
  rw [f20_l1]
  simp only [PR_bin, PR_cond]
  refine w_bin (v := .sc (.bool (decide ((c : Int) < 65535)))) (fun k => rfl) ?_
  refine w_cF (by simp; omega) ?_
  rfl
 | k + 1, m + 1, x, c, hc, hm, h0, h1 => by
  have hx : 1 ≤ nx x ∧ nx x ≤ 65535 := by unfold nx; omega
  have ih := next_l1 W hW u b H hb K k m (nx x) (c + 1) (by omega) (by omega) (by omega) (by omega)
  rw [f20_l1]
  simp only [PR_bin, PR_cond, PR_iadr, PR_load, PR_un]
  refine w_bin (v := .sc (.bool (decide ((c : Int) < 65535)))) (fun k => rfl) ?_
  refine w_cT (by simp; omega) ?_
  refine w_bin (v := .sc (.int .i64 (x + 1))) (fun k => by rw [add64, wrap64 _ (by omega) (by omega)]) ?_
  refine w_bin (v := .sc (.bool (decide (x + 1 > 65535)))) (fun k => rfl) ?_
  have body : ∀ y : Int, y = nx x → (pIadr 1 (.sl b 0 W 1) (.sc (.int .i64 y)) fun t35 => pLoad false 1 t35 H fun t36 => pUn .not t36 fun t37 => pCond t37 (K (packA [.sc (.int .i64 y), .sc (.bool true)]) H) (pBin .add (.sc (.int .i64 c)) (.sc (.int .i64 1)) fun t39 => f20_l1 (PR n β) n K m (.sl b 0 W 1) (.sc (.int .i64 y)) t39 H)) = K (.tup [.sc (.int .i64 (seek u (k + 1) x).1), .sc (.bool (seek u (k + 1) x).2)]) H := by
   intro y hy
   subst hy
   have hi : (nx x).toNat < W := by omega
   have e : (.sc (.int .i64 (nx x)) : AV) = .sc (.int .i64 (((nx x).toNat : Nat) : Int)) := by rw [show (((nx x).toNat : Nat) : Int) = nx x by omega]
   have hld : ∀ K2 : AV → Option β, (pIadr 1 (.sl b 0 W 1) (.sc (.int .i64 (nx x))) fun t35 => pLoad false 1 t35 H K2) = K2 (.sc (.bool (u.contains (nx x)))) := by
    intro K2
    rw [e, iadr_sl 1 W b 0 (nx x).toNat _ hi]
    refine w_ld (c := .sc (.bool (u.contains (nx x)))) hb (by rw [tkC_len]; omega) ?_ rfl
    rw [Nat.zero_add, Nat.mul_one]
    refine one_of ?_
    rw [tkC_get _ _ _ hi, tk_nx u x h0]
   rw [hld]
   refine w_not ?_
   rw [seek]
   cases hu : u.contains (nx x)
   ·refine w_cT rfl ?_
    rfl
   ·refine w_cF rfl ?_
    rw [inc_nat _ _ (by omega)]
    exact ih
  refine w_letJ ?_
  by_cases hg : x + 1 > 65535
  ·refine w_cT (by simpa using hg) ?_
   exact body 1 (by unfold nx; omega)
  ·refine w_cF (by simpa using hg) ?_
   exact body (x + 1) (by unfold nx; omega)
theorem next_l0 (hn : 1048576 < n) (W : Nat) (hW : W = 65536) (u : List Int) (hu : u.length ≤ 1048576) (x : Int) (h0 : 0 ≤ x) (h1 : x ≤ 65535) (b : Nat) (K : AV → Heap → Option β) (RES : Option β) (hK : ∀ H, K (.tup [.sc (.int .i64 (seek u 65535 x).1), .sc (.bool (seek u 65535 x).2)]) H = RES) : ∀ (t pre : List Int) (m : Nat) (H : Heap), u = pre ++ t → t.length < m → H[b]? = some ⟨tkC W pre, true, true⟩ →
  f20_l0 (PR (n + 2) β) (n + 2) K m (.sc (.int .i64 x)) (.sl b 0 W 1) (intsC u) (.sc (.int .i64 u.length)) (.sc (.int .i64 pre.length)) H = RES
 | [], pre, m + 1, H, he, hm, hb => by
  rw [List.append_nil] at he
  rw [f20_l0]
  simp only [PR_bin, PR_cond]
  rw [lss_nat, cond_b, if_neg (by rw [he]; simp)]
  rw [← he] at hb
  rw [show (.sc (.int .i64 0) : AV) = .sc (.int .i64 ((0 : Nat) : Int)) from rfl, next_l1 (n := n + 2) W hW u b H hb K 65535 (n + 2) x 0 (by omega) (by omega) h0 h1]
  exact hK H
 | z :: t, pre, m + 1, H, he, hm, hb => by
  have hlt : pre.length < u.length := by rw [he]; simp
  rw [f20_l0]
  simp only [PR_bin, PR_cond, PR_iadr, PR_load, PR_store]
  rw [lss_nat, cond_b, if_pos (by simpa using hlt)]
  have hel : ∀ K2 : AV → Option β, (pIadr 1 (intsC u) (.sc (.int .i64 pre.length)) fun t18 => pLoad false 1 t18 H K2) = K2 (.sc (.int .i64 z)) := by
   intro K2
   rw [ints_rows, he, el_ro (β := β) (enc := encI) (fun _ => rfl) (by decide) pre z t]
   exact ldI z _ H K2
  rw [hel]
  refine lw_sc rfl (vcons (Vw_sc _ _) vnil) (isIdN n _ z) ?_
  cases hz : inR z 1 65535
  ·refine w_cF rfl ?_
   rw [inc_nat _ _ (by omega)]
   have ih := next_l0 hn W hW u hu x h0 h1 b K RES hK t (pre ++ [z]) m H (by rw [he]; simp) (by simpa using hm) (by rw [tk_skip W pre z hz]; exact hb)
   rw [List.length_append, List.length_singleton] at ih
   exact ih
  ·refine w_cT rfl ?_
   have hz2 : 1 ≤ z ∧ z ≤ 65535 := by
    rw [inR, Bool.and_eq_true, decide_eq_true_eq, decide_eq_true_eq] at hz
    exact hz
   have ez : z = ((z.toNat : Nat) : Int) := by omega
   have hbl : b < H.length := (List.getElem?_eq_some_iff.1 hb).1
   rw [show (.sc (.int .i64 z) : AV) = .sc (.int .i64 ((z.toNat : Nat) : Int)) by rw [← ez], iadr_sl 1 W b 0 z.toNat _ (by omega)]
   rw [st_at 1 b (0 + z.toNat * 1) _ _ [.sc (.bool true)] _ _ hb rfl rfl (by show _ ≤ (tkC W pre).length; rw [tkC_len]; omega) rfl]
   have hs := tk_set W pre z.toNat (by omega) (by rw [← ez]; exact hz)
   rw [inc_nat _ _ (by omega)]
   have ih := next_l0 hn W hW u hu x h0 h1 b K RES hK t (pre ++ [z]) m (H.set b ⟨splice (tkC W pre) (0 + z.toNat * 1) [.sc (.bool true)], true, true⟩) (by rw [he]; simp) (by simpa using hm) (by rw [List.getElem?_set_self hbl, hs, ← ez])
   rw [List.length_append, List.length_singleton] at ih
   exact ih
theorem tup_sc {ty : Nat} {H : Heap} {t0 t1 : Nat} {a b : Value} (hts : E0.tp ty = some [t0, t1]) : ownTree ti0 E0.tp ty H (.tup [.sc a, .sc b]) = some (.tup [.sc a, .sc b]) := by
 rw [ownTree, ownT_tup, hts, Option.bind_some]
 rfl
theorem implNextF (n : Nat) (hn : 1048576 < n) (ty : Nat) (hty : ∃ t0 t1, E0.tp ty = some [t0, t1]) (x : Int) (u : List Int) (hu : u.length ≤ 1048576) : tree E0 (n + 3) ty 20 [.sc (.int .i64 x), intsC u] = some (.tup [.sc (.int .i64 (vNext x u).1), .sc (.bool (vNext x u).2)]) := by
 obtain ⟨t0, t1, hts⟩ := hty
 rw [tree_def, f20_eq, f20]
 simp only [PR_un, PR_cond, PR_make, PR_len]
 refine lw_sc rfl (vcons (Vw_sc _ _) vnil) (isWordN n _ x) ?_
 refine w_not ?_
 cases hx : inR x 0 65535
 ·refine w_cT rfl ?_
  have hn : ¬(0 ≤ x ∧ x ≤ 65535) := by
   intro h
   rw [inR, decide_eq_true h.1, decide_eq_true h.2] at hx
   cases hx
  rw [vNext, if_neg hn]
  exact tup_sc hts
 ·refine w_cF rfl ?_
  rw [inR, Bool.and_eq_true, decide_eq_true_eq, decide_eq_true_eq] at hx
  rw [vNext, if_pos hx]
  obtain ⟨W, hW⟩ : ∃ W : Nat, W = 65536 := ⟨_, rfl⟩
  rw [make_tk W hW]
  refine w_len ?_
  exact next_l0 (n := n) (by omega) W hW u hu x hx.1 hx.2 0 _ _ (fun H => tup_sc hts) u [] (n + 2) _ rfl (by omega) rfl
end Go.Proofs.Ytejjggnchdldoaa.Abs
set_option linter.unusedVariables false
set_option linter.unusedSimpArgs false
set_option maxRecDepth 100000
namespace Go.Proofs.Ytejjggnchdldoaa.Abs
open Go
theorem i64_and255 (n : Int) : bits .and .i64 n 255 = n % 256 := by
 have h255 : (BitVec.ofInt 64 255).toNat = 2 ^ 8 - 1 := by decide
 have key : (BitVec.ofInt 64 n &&& BitVec.ofInt 64 255).toNat = (n % ((2 ^ 64 : Nat) : Int)).toNat % 2 ^ 8 := by
  rw [BitVec.toNat_and, BitVec.toNat_ofInt, h255, Nat.and_two_pow_sub_one_eq_mod]
 show IntKind.i64.wrap ((BitVec.ofInt 64 n &&& BitVec.ofInt 64 255).toNat : Nat) = n % 256
 rw [key, IntKind.wrap_i64]
 omega
section
variable {β : Type} {n : Nat} {H : Heap}
theorem PR_hmD {ty : Nat} {f : FuncId} {args : List AV} {k : AV → Heap → Option β} (hh : E0.hm f = true) (he : E0.ext f = none) : (PR n β).call ty (.fn f [] []) args H k = evalFn E0 n β f args H k := by
 show callF E0 (evalFn E0 n) ty f ([] ++ args ++ []) H k = _
 simp only [callF, he, hh, List.nil_append, List.append_nil, if_true]
def cur (code : ByteArray) (i : Nat) (h : Int) : List AV := [.ro code.size (bytesAV code), .sc (.int .i64 i), .sc (.int .i64 h)]
def curB (code : ByteArray) (i : Nat) (h : Int) : Blk := ⟨cur code i h, true, true⟩
theorem ldC {c o : Nat} {code : ByteArray} {i : Nat} {h : Int} {x : AV} {K : AV → Option β} {r : Option β} (hc : H[c]? = some (curB code i h)) (hx : (cur code i h)[o]? = some x) (hk : K x = r) : pLoad false 1 (.ptr c (0 + o)) H (fun t => K t) = r := by
 obtain ⟨hlt, he⟩ := List.getElem?_eq_some_iff.1 hx
 have e : ((cur code i h).drop o).take 1 = [x] := by
  rw [List.drop_eq_getElem_cons hlt, he]
  rfl
 rw [Nat.zero_add]
 simp only [pLoad, rdCells, hc, curB, if_true, Bool.false_eq_true, if_false]
 rw [if_pos (by omega), Option.bind_some, e]
 exact hk
theorem stC {c o : Nat} {code : ByteArray} {i i' : Nat} {h h' : Int} {v : Value} {K : Heap → Option β} {r : Option β} (hc : H[c]? = some (curB code i h)) (hv : leafV v = true) (ho : o < 3) (hs : splice (cur code i h) o [.sc v] = cur code i' h') (hk : K (H.set c (curB code i' h')) = r) : pStore 1 (.ptr c (0 + o)) (.sc v) H (fun H => K H) = r := by
 rw [Nat.zero_add, st_at 1 c o (.sc v) (curB code i h) [.sc v] H _ hc (by simp only [cellsA, isLeaf, hv, if_true]) rfl (by show o + 1 ≤ 3; omega) rfl]
 show K (H.set c ⟨splice (cur code i h) o [.sc v], true, true⟩) = r
 rw [hs]
 exact hk
theorem set_get {c : Nat} {b : Blk} (hl : c < H.length) : (H.set c b)[c]? = some b := by
 rw [List.getElem?_set_self hl]
theorem and255 (z : Int) (k : AV → Option β) : pBin .and (.sc (.int .i64 z)) (.sc (.int .i64 255)) k = k (.sc (.int .i64 (z % 256))) := by
 rw [← i64_and255]
 rfl
theorem w_nil {id off : Nat} {K : AV → Option β} {r : Option β} (h : K (.ptr id off) = r) : pNil (.ptr id off) (fun t => K t) = r := h
theorem w_cvI {a z : Int} {k : IntKind} {K : AV → Option β} {r : Option β} (hz : IntKind.i64.wrap a = z) (h : K (.sc (.int .i64 z)) = r) : pCvI .i64 (.sc (.int k a)) (fun t => K t) = r := by
 show K (.sc (.int .i64 (IntKind.i64.wrap a))) = r
 rw [hz]
 exact h
theorem by_at' (s : ByteArray) (i : Nat) (h : i < s.size) (H : Heap) (k : AV → Option β) : (pIadr 1 (.ro s.size (bytesAV s)) (.sc (.int .i64 i)) fun t => pLoad false 1 t H k) = k (.sc (.int .u8 (s.data.toList.getD i 0).toNat)) := by
 rw [iadr_ro 1 _ _ i _ h (by rw [bytesAV_len]; omega)]
 have hd : (bytesAV s).drop (i * 1) = .sc (.int .u8 (s.data.toList.getD i 0).toNat) :: (bytesAV s).drop (i + 1) := by
  rw [Nat.mul_one, List.drop_eq_getElem_cons (by rw [bytesAV_len]; omega)]
  congr 1
  simp [bytesAV, List.getD_eq_getElem?_getD, h]
 rw [hd, ld1_rp]
theorem byte_run (c : Nat) (code : ByteArray) (hs : code.size ≤ 1048576) (i : Nat) (h : Int) (hc : H[c]? = some (curB code i h)) (ty : Nat) :
  ∃ (x i' : Nat) (h' : Int), x < 256 ∧ ∀ K : AV → Heap → Option β, (PR (n + 1) β).call ty (.fn 60 [] []) [.ptr c 0] H K = K (.sc (.int .i64 x)) (H.set c (curB code i' h')) := by
 have hl : c < H.length := (List.getElem?_eq_some_iff.1 hc).1
 obtain ⟨h1, hh1⟩ : ∃ z, IntKind.i64.wrap (IntKind.i64.wrap (h * 6364136223846793005) + 1442695040888963407) = z := ⟨_, rfl⟩
 obtain ⟨y, hy⟩ : ∃ z, bits .xor .i64 (h1 / 2 ^ (33 : Int).toNat) (h1 / 2 ^ (47 : Int).toNat) = z := ⟨_, rfl⟩
 have hc1 : (H.set c (curB code i h1))[c]? = some (curB code i h1) := set_get hl
 by_cases hlt : i < code.size
 ·have hb := (code.data.toList.getD i 0).toNat_lt
  refine ⟨((y % 256 + (code.data.toList.getD i 0).toNat) % 256).toNat, i + 1, h1, by omega, fun K => ?_⟩
  rw [PR_hmD rfl rfl, f60_eq, f60]
  simp only [PR_nil, PR_fadr, PR_load, PR_bin, PR_store, PR_len, PR_cond, PR_iadr, PR_cvI]
  refine w_nil ?_
  refine w_fadr ?_
  refine ldC (o := 2) (x := .sc (.int .i64 h)) hc rfl ?_
  refine w_bin (v := .sc (.int .i64 (IntKind.i64.wrap (h * 6364136223846793005)))) (fun k => rfl) ?_
  refine w_bin (v := .sc (.int .i64 h1)) (fun k => by rw [← hh1]; rfl) ?_
  refine w_nil ?_
  refine w_fadr ?_
  refine stC (i' := i) (h' := h1) hc rfl (by omega) rfl ?_
  refine w_nil ?_
  refine w_fadr ?_
  refine ldC (o := 2) (x := .sc (.int .i64 h1)) hc1 rfl ?_
  refine w_bin (v := .sc (.int .i64 (h1 / 2 ^ (33 : Int).toNat))) (fun k => rfl) ?_
  refine w_nil ?_
  refine w_fadr ?_
  refine ldC (o := 2) (x := .sc (.int .i64 h1)) hc1 rfl ?_
  refine w_bin (v := .sc (.int .i64 (h1 / 2 ^ (47 : Int).toNat))) (fun k => rfl) ?_
  refine w_bin (v := .sc (.int .i64 y)) (fun k => by rw [← hy]; rfl) ?_
  refine w_bin (v := .sc (.int .i64 (y % 256))) (fun k => and255 _ k) ?_
  refine w_nil ?_
  refine w_fadr ?_
  refine ldC (o := 1) (x := .sc (.int .i64 i)) hc1 rfl ?_
  refine w_nil ?_
  refine w_fadr ?_
  refine ldC (o := 0) (x := .ro code.size (bytesAV code)) hc1 rfl ?_
  refine w_len ?_
  refine w_bin (v := .sc (.bool (decide (i < code.size)))) (fun k => lss_nat _ _ k) ?_
  refine w_letJ ?_
  refine w_cT (by simpa using hlt) ?_
  refine w_nil ?_
  refine w_fadr ?_
  refine ldC (o := 0) (x := .ro code.size (bytesAV code)) hc1 rfl ?_
  refine w_nil ?_
  refine w_fadr ?_
  refine ldC (o := 1) (x := .sc (.int .i64 i)) hc1 rfl ?_
  rw [by_at' code i hlt]
  refine w_cvI (z := (code.data.toList.getD i 0).toNat) (wrap64 _ (by omega) (by omega)) ?_
  refine w_bin (v := .sc (.int .i64 (y % 256 + (code.data.toList.getD i 0).toNat))) (fun k => by rw [add64, wrap64 _ (by omega) (by omega)]) ?_
  refine w_bin (v := .sc (.int .i64 ((y % 256 + (code.data.toList.getD i 0).toNat) % 256))) (fun k => and255 _ k) ?_
  refine w_nil ?_
  refine w_fadr ?_
  refine ldC (o := 1) (x := .sc (.int .i64 i)) hc1 rfl ?_
  refine w_bin (v := .sc (.int .i64 ((i + 1 : Nat) : Int))) (fun k => inc_nat _ k (by omega)) ?_
  refine w_nil ?_
  refine w_fadr ?_
  refine stC (i' := i + 1) (h' := h1) hc1 rfl (by omega) rfl ?_
  rw [List.set_set, show (((y % 256 + (code.data.toList.getD i 0).toNat) % 256).toNat : Int) = (y % 256 + (code.data.toList.getD i 0).toNat) % 256 by omega]
 ·refine ⟨(y % 256).toNat, i, h1, by omega, fun K => ?_⟩
  rw [PR_hmD rfl rfl, f60_eq, f60]
  simp only [PR_nil, PR_fadr, PR_load, PR_bin, PR_store, PR_len, PR_cond, PR_iadr, PR_cvI]
  refine w_nil ?_
  refine w_fadr ?_
  refine ldC (o := 2) (x := .sc (.int .i64 h)) hc rfl ?_
  refine w_bin (v := .sc (.int .i64 (IntKind.i64.wrap (h * 6364136223846793005)))) (fun k => rfl) ?_
  refine w_bin (v := .sc (.int .i64 h1)) (fun k => by rw [← hh1]; rfl) ?_
  refine w_nil ?_
  refine w_fadr ?_
  refine stC (i' := i) (h' := h1) hc rfl (by omega) rfl ?_
  refine w_nil ?_
  refine w_fadr ?_
  refine ldC (o := 2) (x := .sc (.int .i64 h1)) hc1 rfl ?_
  refine w_bin (v := .sc (.int .i64 (h1 / 2 ^ (33 : Int).toNat))) (fun k => rfl) ?_
  refine w_nil ?_
  refine w_fadr ?_
  refine ldC (o := 2) (x := .sc (.int .i64 h1)) hc1 rfl ?_
  refine w_bin (v := .sc (.int .i64 (h1 / 2 ^ (47 : Int).toNat))) (fun k => rfl) ?_
  refine w_bin (v := .sc (.int .i64 y)) (fun k => by rw [← hy]; rfl) ?_
  refine w_bin (v := .sc (.int .i64 (y % 256))) (fun k => and255 _ k) ?_
  refine w_nil ?_
  refine w_fadr ?_
  refine ldC (o := 1) (x := .sc (.int .i64 i)) hc1 rfl ?_
  refine w_nil ?_
  refine w_fadr ?_
  refine ldC (o := 0) (x := .ro code.size (bytesAV code)) hc1 rfl ?_
  refine w_len ?_
  refine w_bin (v := .sc (.bool (decide (i < code.size)))) (fun k => lss_nat _ _ k) ?_
  refine w_letJ ?_
  refine w_cF (by simpa using hlt) ?_
  rw [show ((y % 256).toNat : Int) = y % 256 by omega]
theorem below_run (c : Nat) (code : ByteArray) (hs : code.size ≤ 1048576) (i : Nat) (h : Int) (hc : H[c]? = some (curB code i h)) (ty m : Nat) (h1 : 1 ≤ m) (h2 : m ≤ 256) :
  ∃ (x i' : Nat) (h' : Int), x < m ∧ ∀ K : AV → Heap → Option β, (PR (n + 2) β).call ty (.fn 36 [] []) [.ptr c 0, .sc (.int .i64 m)] H K = K (.sc (.int .i64 x)) (H.set c (curB code i' h')) := by
 obtain ⟨x, i', h', hx, hr⟩ := byte_run (β := β) (n := n) c code hs i h hc 3
 refine ⟨x % m, i', h', Nat.mod_lt _ (by omega), fun K => ?_⟩
 rw [PR_hmD rfl rfl, f36_eq, f36]
 simp only [PR_bin, PR_cond]
 refine w_bin (v := .sc (.bool (decide ((m : Int) ≤ 0)))) (fun k => rfl) ?_
 refine w_cF (by simp; omega) ?_
 refine w_bin (v := .sc (.bool (decide ((m : Int) ≤ 256)))) (fun k => rfl) ?_
 refine w_cT (by simp; omega) ?_
 rw [hr]
 refine w_bin (v := .sc (.int .i64 ((x % m : Nat) : Int))) (fun k => ?_) ?_
 ·show (binI .rem .i64 (x : Int) (m : Int)).bind (fun v => k (.sc v)) = _
  have e : binI .rem .i64 (x : Int) (m : Int) = some (.int .i64 ((x : Int).tmod m)) := by
   show (if (m : Int) = 0 then none else some (Value.int .i64 ((x : Int).tmod m))) = _
   rw [if_neg (by omega)]
  rw [e]
  show k (.sc (.int .i64 ((x : Int).tmod (m : Int)))) = _
  rw [show ((x : Int).tmod (m : Int)) = ((x % m : Nat) : Int) from rfl]
 ·rfl
theorem int_run (c d : Nat) (hcd : c ≠ d) (code : ByteArray) (hs : code.size ≤ 1048576) (i : Nat) (h : Int) (hc : H[c]? = some (curB code i h)) (tab : List Int) (h1 : 1 ≤ tab.length) (h2 : tab.length ≤ 256) (hd : H[d]? = some ⟨tab.map fun z => .sc (.int .i64 z), true, true⟩) (ty : Nat) :
  ∃ (z : Int) (i' : Nat) (h' : Int), z ∈ tab ∧ ∀ K : AV → Heap → Option β, (PR (n + 3) β).call ty (.fn 38 [] []) [.ptr c 0, .sl d 0 tab.length 1] H K = K (.sc (.int .i64 z)) (H.set c (curB code i' h')) := by
 obtain ⟨x, i', h', hx, hr⟩ := below_run (β := β) (n := n) c code hs i h hc 3 tab.length h1 h2
 refine ⟨tab[x], i', h', List.getElem_mem hx, fun K => ?_⟩
 rw [PR_hmD rfl rfl, f38_eq, f38]
 simp only [PR_len, PR_iadr, PR_load]
 have hlen : ∀ k : AV → Option β, pLen (.sl d 0 tab.length 1) k = k (.sc (.int .i64 tab.length)) := fun _ => rfl
 rw [hlen, hr, iadr_sl 1 tab.length d 0 x _ hx]
 have hd' : (H.set c (curB code i' h'))[d]? = some ⟨tab.map fun z => .sc (.int .i64 z), true, true⟩ := by
  rw [List.getElem?_set_ne hcd]
  exact hd
 refine w_ld (c := .sc (.int .i64 tab[x])) hd' (by simpa using hx) ?_ ?_
 ·refine one_of ?_
  simp [hx]
 ·rfl
theorem new_end (code : ByteArray) (h : Int) (K : AV → Heap → Option β) : ((fillA [.nl, .sc (.int .i64 0), .sc (.int .i64 0)] [(0, 1, .ro code.size (bytesAV code)), (2, 1, .sc (.int .i64 h))]).bind fun ct => pBox (.agg ct) H fun t H => K t H) = K (.ptr H.length 0) (H ++ [curB code 0 h]) := rfl
theorem new_loop (code : ByteArray) (hs : code.size ≤ 1048576) : ∀ (j m i : Nat) (h : Int), i + j = min code.size 4000 → j < m →
  ∃ h' : Int, ∀ k : AV → Heap → Option β, f33_l0 (PR n β) n k m (.ro code.size (bytesAV code)) (.sc (.int .i64 h)) (.sc (.int .i64 i)) H = k (.ptr H.length 0) (H ++ [curB code 0 h'])
 | 0, m + 1, i, h, hi, hm => by
  refine ⟨h, fun k => ?_⟩
  rw [f33_l0]
  simp only [PR_len, PR_bin, PR_cond, PR_guard, PR_pick, PR_iadr, PR_load, PR_cvI, PR_fill, PR_box]
  refine w_len ?_
  refine w_bin (v := .sc (.bool (decide (i < code.size)))) (fun k => lss_nat _ _ k) ?_
  by_cases hl : i < code.size
  ·have e : decide (i < code.size) = true := by simpa using hl
   refine w_gT e ?_
   refine w_gT e ?_
   refine w_bin (v := .sc (.bool (decide ((i : Int) < 4000)))) (fun k => rfl) ?_
   refine w_pT e ?_
   refine w_cF (by simp; omega) ?_
   exact new_end code h k
  ·have e : decide (i < code.size) = false := by simpa using hl
   refine w_gF e ?_
   refine w_gF e ?_
   refine w_pF e ?_
   refine w_cF rfl ?_
   exact new_end code h k
 | j + 1, m + 1, i, h, hi, hm => by
  have hl : i < code.size := by omega
  have hb := (code.data.toList.getD i 0).toNat_lt
  obtain ⟨h', ih⟩ := new_loop code hs j m (i + 1) (bits .and .i64 (IntKind.i64.wrap (IntKind.i64.wrap (IntKind.i64.wrap (h * 137) + (code.data.toList.getD i 0).toNat) + 11)) 1073741823) (by omega) (by omega)
  refine ⟨h', fun k => ?_⟩
  rw [f33_l0]
  simp only [PR_len, PR_bin, PR_cond, PR_guard, PR_pick, PR_iadr, PR_load, PR_cvI, PR_fill, PR_box]
  refine w_len ?_
  refine w_bin (v := .sc (.bool (decide (i < code.size)))) (fun k => lss_nat _ _ k) ?_
  have e : decide (i < code.size) = true := by simpa using hl
  refine w_gT e ?_
  refine w_gT e ?_
  refine w_bin (v := .sc (.bool (decide ((i : Int) < 4000)))) (fun k => rfl) ?_
  refine w_pT e ?_
  refine w_cT (by simp; omega) ?_
  refine w_bin (v := .sc (.int .i64 (IntKind.i64.wrap (h * 137)))) (fun k => rfl) ?_
  rw [by_at' code i hl]
  refine w_cvI (z := (code.data.toList.getD i 0).toNat) (wrap64 _ (by omega) (by omega)) ?_
  refine w_bin (v := .sc (.int .i64 (IntKind.i64.wrap (IntKind.i64.wrap (h * 137) + (code.data.toList.getD i 0).toNat)))) (fun k => rfl) ?_
  refine w_bin (v := .sc (.int .i64 (IntKind.i64.wrap (IntKind.i64.wrap (IntKind.i64.wrap (h * 137) + (code.data.toList.getD i 0).toNat) + 11)))) (fun k => rfl) ?_
  refine w_bin (v := .sc (.int .i64 (bits .and .i64 (IntKind.i64.wrap (IntKind.i64.wrap (IntKind.i64.wrap (h * 137) + (code.data.toList.getD i 0).toNat) + 11)) 1073741823))) (fun k => rfl) ?_
  refine w_bin (v := .sc (.int .i64 ((i + 1 : Nat) : Int))) (fun k => inc_nat _ k (by omega)) ?_
  exact ih k
theorem new_run (code : ByteArray) (hs : code.size ≤ 1048576) (hn : 4000 < n) (ty : Nat) :
  ∃ h : Int, ∀ K : AV → Heap → Option β, (PR (n + 1) β).call ty (.fn 33 [] []) [.ro code.size (bytesAV code)] H K = K (.ptr H.length 0) (H ++ [curB code 0 h]) := by
 obtain ⟨h', e⟩ := new_loop (β := β) (n := n) (H := H) code hs (min code.size 4000) n 0 (IntKind.i64.wrap (128361 + (code.size : Int))) (by omega) (by omega)
 refine ⟨h', fun K => ?_⟩
 rw [PR_hmD rfl rfl, f33_eq, f33]
 simp only [PR_len, PR_bin]
 refine w_len ?_
 refine w_bin (v := .sc (.int .i64 (IntKind.i64.wrap (128361 + (code.size : Int))))) (fun k => rfl) ?_
 exact e K
def usedTab : List Int := [1, 2, 3, 4, 65535, 65534, 0, -1, 65536]
set_option maxHeartbeats 1600000 in
theorem used_loop (c : Nat) (code : ByteArray) (hs : code.size ≤ 1048576) (hn : 10 < n) (j : Nat) : ∀ (m : Nat) (H : Heap) (i : Nat) (h : Int) (l : List Int) (x : AV), j < m → l.length + j ≤ 7 → (∀ z ∈ l, z ∈ usedTab) → H[c]? = some (curB code i h) →
  ((x = .nl ∧ l = []) ∨ ∃ d, c ≠ d ∧ x = .sl d 0 l.length 1 ∧ H[d]? = some ⟨l.map fun z => .sc (.int .i64 z), true, true⟩) →
  ∃ (H' : Heap) (l' : List Int) (x' : AV), l'.length ≤ 7 ∧ (∀ z ∈ l', z ∈ usedTab) ∧ ((x' = .nl ∧ l' = []) ∨ ∃ d, c ≠ d ∧ x' = .sl d 0 l'.length 1 ∧ H'[d]? = some ⟨l'.map fun z => .sc (.int .i64 z), true, true⟩) ∧
   ∀ k : AV → Heap → Option β, f39_l0 (PR (n + 3) β) (n + 3) k m (.ptr c 0) x (.sc (.int .i64 j)) H = k x' H' := by
 induction j with
 | zero =>
  intro m0 H i h l x hm hl hz hc hx
  obtain ⟨m, rfl⟩ : ∃ m, m0 = m + 1 := ⟨m0 - 1, by omega⟩
  refine ⟨H, l, x, by omega, hz, hx, fun k => ?_⟩
  rw [f39_l0]
  simp only [PR_bin, PR_cond]
  refine w_bin (v := .sc (.bool (decide ((0 : Int) > 0)))) (fun k => rfl) ?_
  exact w_cF rfl rfl
 | succ j ih =>
  intro m0 H i h l x hm hl hz hc hx
  obtain ⟨m, rfl⟩ : ∃ m, m0 = m + 1 := ⟨m0 - 1, by omega⟩
  have hcl : c < H.length := (List.getElem?_eq_some_iff.1 hc).1
  obtain ⟨T, hT⟩ : ∃ T : Blk, T = ⟨usedTab.map fun z => .sc (.int .i64 z), true, true⟩ := ⟨_, rfl⟩
  have hc1 : (H ++ [T])[c]? = some (curB code i h) := blk_grow hc _
  have hB1 : (H ++ [T])[H.length]? = some ⟨usedTab.map fun z => .sc (.int .i64 z), true, true⟩ := by rw [List.getElem?_append_right (Nat.le_refl _), Nat.sub_self, hT]; rfl
  obtain ⟨z, i', h', hzm, hr⟩ := int_run (β := β) (n := n) c H.length (by omega) code hs i h hc1 usedTab (by decide) (by decide) hB1 3
  obtain ⟨H2, hH2⟩ : ∃ H2, (H ++ [T]).set c (curB code i' h') = H2 := ⟨_, rfl⟩
  rw [hH2] at hr
  have hc2 : H2[c]? = some (curB code i' h') := by rw [← hH2]; exact set_get (by simp; omega)
  have hl2 : H2.length = H.length + 1 := by rw [← hH2]; simp
  obtain ⟨Z, hZ⟩ : ∃ Z : Blk, Z = ⟨[.sc (.int .i64 z)], true, true⟩ := ⟨_, rfl⟩
  have hc3 : (H2 ++ [Z])[c]? = some (curB code i' h') := blk_grow hc2 _
  have hB3 : (H2 ++ [Z])[H2.length]? = some ⟨[.sc (.int .i64 z)], true, true⟩ := by rw [List.getElem?_append_right (Nat.le_refl _), Nat.sub_self, hZ]; rfl
  have hy : content (H2 ++ [Z]) 1 (.sl H2.length 0 1 1) = some [.sc (.int .i64 z)] := by
   show (if (1 : Nat) = 1 then rdCells (H2 ++ [Z]) H2.length 0 (1 * 1) else none) = _
   simp only [if_true, rdCells, hB3]
   rfl
  obtain ⟨H4, hl4, hc4, happ⟩ : ∃ H4 : Heap, H4.length = H2.length + 1 ∧ H4[c]? = some (curB code i' h') ∧ ∀ K : AV → Heap → Option β, pApp 1 8 x (.sl H2.length 0 1 1) (H2 ++ [Z]) K = K (.sl H4.length 0 (l ++ [z]).length 1) (H4 ++ [⟨(l ++ [z]).map fun z => .sc (.int .i64 z), true, true⟩]) := by
   rcases hx with ⟨rfl, rfl⟩ | ⟨d, hcd, rfl, hd⟩
   ·refine ⟨H2 ++ [Z], by simp, hc3, fun K => ?_⟩
    simp only [pApp, lenA, Option.bind_some, hy]
    rfl
   ·have hdl : d < H.length := (List.getElem?_eq_some_iff.1 hd).1
    have hd2 : (H2 ++ [Z])[d]? = some ⟨l.map fun z => .sc (.int .i64 z), true, true⟩ := by
     refine blk_grow ?_ _
     rw [← hH2, List.getElem?_set_ne hcd]
     exact blk_grow hd _
    refine ⟨(H2 ++ [Z]).set d ⟨l.map fun z => .sc (.int .i64 z), false, true⟩, by simp, ?_, fun K => ?_⟩
    ·rw [List.getElem?_set_ne (fun h => hcd h.symm)]
     exact hc3
    ·have hxc : content (H2 ++ [Z]) 1 (.sl d 0 l.length 1) = some (l.map fun z => .sc (.int .i64 z)) := by
      show (if (1 : Nat) = 1 then rdCells (H2 ++ [Z]) d 0 (l.length * 1) else none) = _
      simp only [if_true, rdCells, hd2, Nat.mul_one, Nat.zero_add, List.length_map, Nat.le_refl, List.drop_zero]
      rw [List.take_of_length_le (by simp)]
     have hk : kill (H2 ++ [Z]) (.sl d 0 l.length 1) = some ((H2 ++ [Z]).set d ⟨l.map fun z => .sc (.int .i64 z), false, true⟩) := by
      show ((H2 ++ [Z])[d]?).bind _ = _
      rw [hd2]
      rfl
     simp only [pApp, lenA, Option.bind_some, hy, hxc, hk]
     rw [if_pos (by omega), if_pos (show [AV.sc (Value.int IntKind.i64 z)].all isLeaf = true from rfl)]
     simp only [pNewSl, List.map_append, List.length_append, List.length_singleton]
     rfl
  obtain ⟨H', l', x', r1, r2, r3, r4⟩ := ih m (H4 ++ [⟨(l ++ [z]).map fun z => .sc (.int .i64 z), true, true⟩]) i' h' (l ++ [z]) (.sl H4.length 0 (l ++ [z]).length 1) (by omega) (by rw [List.length_append, List.length_singleton]; omega) (fun y hy => by
   rcases List.mem_append.1 hy with hy | hy
   ·exact hz y hy
   ·rw [List.mem_singleton.1 hy]; exact hzm) (blk_grow hc4 _) (.inr ⟨H4.length, by omega, rfl, by rw [List.getElem?_append_right (Nat.le_refl _), Nat.sub_self]; rfl⟩)
  refine ⟨H', l', x', r1, r2, r3, fun k => ?_⟩
  rw [f39_l0]
  simp only [PR_bin, PR_cond, PR_fill, PR_newSl, PR_app]
  refine w_bin (v := .sc (.bool (decide (((j + 1 : Nat) : Int) > 0)))) (fun k => rfl) ?_
  refine w_cT (by simp <;> omega) ?_
  refine w_fill (cs := usedTab.map fun z => .sc (.int .i64 z)) rfl ?_
  simp only [pNewSl]
  rw [← hT]
  have hr9 : ∀ K : AV → Heap → Option β, (PR (n + 3) β).call 3 (.fn 38 [] []) [.ptr c 0, .sl H.length 0 9 1] (H ++ [T]) K = K (.sc (.int .i64 z)) H2 := hr
  rw [hr9]
  refine w_fill (cs := [.sc (.int .i64 z)]) rfl ?_
  rw [← hZ, happ]
  refine w_bin (v := .sc (.int .i64 (j : Int))) (fun k => ?_) ?_
  ·rw [sub64 _ _ _ (by omega) (by omega)]
   congr 3
   omega
  ·exact r4 k
end
end Go.Proofs.Ytejjggnchdldoaa.Abs
set_option linter.unusedVariables false
set_option linter.unusedSimpArgs false
namespace Go.Proofs.Ytejjggnchdldoaa.Abs
open Go
section own
variable {ti : Nat → Option TI} {tp : Nat → Option (List Nat)}
theorem ownL_cons {f : Nat → AV → Option (AV × List Nat)} {t : Nat} {ts : List Nat} {x : AV} {xs : List AV} {p : List AV × List Nat} (h : ownL f (t :: ts) (x :: xs) = some p) :
  ∃ a b, f t x = some a ∧ ownL f ts xs = some b ∧ p = (a.1 :: b.1, a.2 ++ b.2) := by
 simp only [ownL, Option.bind_eq_some_iff] at h
 obtain ⟨a, h1, b, h2, h3⟩ := h
 exact ⟨a, b, h1, h2, (Option.some.inj h3).symm⟩
theorem ownL_nil {f : Nat → AV → Option (AV × List Nat)} {ts : List Nat} {p : List AV × List Nat} (h : ownL f ts [] = some p) : ts = [] ∧ p = ([], []) := by
 cases ts with
 | nil => exact ⟨rfl, (Option.some.inj h).symm⟩
 | cons t ts => simp [ownL] at h
theorem ownL_len {f : Nat → AV → Option (AV × List Nat)} : ∀ {ts : List Nat} {xs : List AV} {p : List AV × List Nat}, ownL f ts xs = some p → ts.length = xs.length ∧ p.1.length = xs.length
 | ts, [], p, h => by
  obtain ⟨rfl, rfl⟩ := ownL_nil h
  exact ⟨rfl, rfl⟩
 | [], _ :: _, p, h => by simp [ownL] at h
 | t :: ts, x :: xs, p, h => by
  obtain ⟨a, b, h1, h2, rfl⟩ := ownL_cons h
  obtain ⟨e1, e2⟩ := ownL_len h2
  simp [e1, e2]
theorem ownL_append {f : Nat → AV → Option (AV × List Nat)} : ∀ {ts us : List Nat} {xs ys : List AV} {p q : List AV × List Nat}, ownL f ts xs = some p → ownL f us ys = some q → ownL f (ts ++ us) (xs ++ ys) = some (p.1 ++ q.1, p.2 ++ q.2)
 | ts, us, [], ys, p, q, h, h' => by
  obtain ⟨rfl, rfl⟩ := ownL_nil h
  exact h'
 | [], _, _ :: _, _, _, _, h, _ => by simp [ownL] at h
 | t :: ts, us, x :: xs, ys, p, q, h, h' => by
  obtain ⟨a, b, h1, h2, rfl⟩ := ownL_cons h
  have ih := ownL_append h2 h'
  rw [List.cons_append, List.cons_append, ownL, h1, Option.bind_some, ih]
  simp
theorem ownL_frame {f f' : Nat → AV → Option (AV × List Nat)} : ∀ {ts : List Nat} {xs : List AV} {p : List AV × List Nat}, (∀ t x a, f t x = some a → (∀ i ∈ a.2, i ∈ p.2) → f' t x = some a) → ownL f ts xs = some p → ownL f' ts xs = some p
 | ts, [], p, _, h => by
  obtain ⟨rfl, rfl⟩ := ownL_nil h
  rfl
 | [], _ :: _, p, _, h => by simp [ownL] at h
 | t :: ts, x :: xs, p, hf, h => by
  obtain ⟨a, b, h1, h2, rfl⟩ := ownL_cons h
  have e1 := hf t x a h1 fun i hi => List.mem_append_left _ hi
  have e2 := ownL_frame (f' := f') (fun t x a' h hi => hf t x a' h fun i hi' => List.mem_append_right _ (hi i hi')) h2
  rw [ownL, e1, Option.bind_some, e2]
  rfl
theorem own_frame {H H' : Heap} : ∀ (d ty : Nat) (x : AV) (p : AV × List Nat), ownT ti tp H d ty x = some p → (∀ i ∈ p.2, H'[i]? = H[i]?) → ownT ti tp H' d ty x = some p
 | 0, _, _, _, h, _ => by simp [ownT] at h
 | d + 1, ty, x, p, h, hs => by
  cases x with
  | sc v => exact h
  | nl => exact h
  | sl id off n z =>
   rw [ownT_sl] at h ⊢
   simp only [Option.bind_eq_some_iff] at h
   obtain ⟨i, h1, j, h2, h3⟩ := h
   split at h3
   case isFalse => cases h3
   rename_i hz
   split at h3
   case isFalse => cases h3
   rename_i ha
   simp only [Option.bind_eq_some_iff] at h3
   obtain ⟨cs, h4, q, h5, h6⟩ := h3
   obtain rfl := (Option.some.inj h6).symm
   have hid := hs id List.mem_cons_self
   have e1 : isApp H' id = true := by simpa only [isApp, hid] using ha
   have e2 : rdCells H' id off (n * z) = some cs := by simpa only [rdCells, hid] using h4
   have e3 := ownL_frame (f' := ownT ti tp H' d) (fun t x a h hi => own_frame d t x a h fun i' hi' => hs i' (List.mem_cons_of_mem _ (hi i' hi'))) h5
   simp only [h1, h2, Option.bind_some, hz, if_true, e1, e3]
   rw [hz] at e2
   rw [e2]
   simp only [Option.bind_some, e3]
  | agg cs =>
   rw [ownT_agg] at h ⊢
   simp only [Option.bind_eq_some_iff] at h
   obtain ⟨i, h1, q, h2, h3⟩ := h
   obtain rfl := (Option.some.inj h3).symm
   have e3 := ownL_frame (f' := ownT ti tp H' d) (fun t x a h hi => own_frame d t x a h fun i' hi' => hs i' (hi i' hi')) h2
   rw [h1, Option.bind_some, e3]
   rfl
  | tup cs =>
   rw [ownT_tup] at h ⊢
   simp only [Option.bind_eq_some_iff] at h
   obtain ⟨i, h1, q, h2, h3⟩ := h
   obtain rfl := (Option.some.inj h3).symm
   have e3 := ownL_frame (f' := ownT ti tp H' d) (fun t x a h hi => own_frame d t x a h fun i' hi' => hs i' (hi i' hi')) h2
   rw [h1, Option.bind_some, e3]
   rfl
  | _ => simp [ownT] at h
theorem ownL_lt {f : Nat → AV → Option (AV × List Nat)} {N : Nat} : ∀ {ts : List Nat} {xs : List AV} {p : List AV × List Nat}, (∀ t x a, f t x = some a → ∀ i ∈ a.2, i < N) → ownL f ts xs = some p → ∀ i ∈ p.2, i < N
 | ts, [], p, _, h => by
  obtain ⟨rfl, rfl⟩ := ownL_nil h
  intro i hi
  cases hi
 | [], _ :: _, p, _, h => by simp [ownL] at h
 | t :: ts, x :: xs, p, hf, h => by
  obtain ⟨a, b, h1, h2, rfl⟩ := ownL_cons h
  intro i hi
  rcases List.mem_append.1 hi with hi | hi
  ·exact hf t x a h1 i hi
  ·exact ownL_lt hf h2 i hi
theorem own_lt {H : Heap} : ∀ (d ty : Nat) (x : AV) (p : AV × List Nat), ownT ti tp H d ty x = some p → ∀ i ∈ p.2, i < H.length
 | 0, _, _, _, h => by simp [ownT] at h
 | d + 1, ty, x, p, h => by
  cases x with
  | sc v =>
   obtain rfl := (Option.some.inj h).symm
   intro i hi
   cases hi
  | nl =>
   obtain rfl := (Option.some.inj h).symm
   intro i hi
   cases hi
  | sl id off n z =>
   rw [ownT_sl] at h
   simp only [Option.bind_eq_some_iff] at h
   obtain ⟨i, h1, j, h2, h3⟩ := h
   split at h3
   case isFalse => cases h3
   split at h3
   case isFalse => cases h3
   rename_i ha
   simp only [Option.bind_eq_some_iff] at h3
   obtain ⟨cs, h4, q, h5, h6⟩ := h3
   obtain rfl := (Option.some.inj h6).symm
   intro i' hi'
   rcases List.mem_cons.1 hi' with rfl | hi'
   ·unfold isApp at ha
    cases hg : H[i']? with
    | none => rw [hg] at ha; cases ha
    | some b => exact (List.getElem?_eq_some_iff.1 hg).1
   ·exact ownL_lt (fun t x a h => own_lt d t x a h) h5 i' hi'
  | agg cs =>
   rw [ownT_agg] at h
   simp only [Option.bind_eq_some_iff] at h
   obtain ⟨i, h1, q, h2, h3⟩ := h
   obtain rfl := (Option.some.inj h3).symm
   exact ownL_lt (fun t x a h => own_lt d t x a h) h2
  | tup cs =>
   rw [ownT_tup] at h
   simp only [Option.bind_eq_some_iff] at h
   obtain ⟨i, h1, q, h2, h3⟩ := h
   obtain rfl := (Option.some.inj h3).symm
   exact ownL_lt (fun t x a h => own_lt d t x a h) h2
  | _ => simp [ownT] at h
end own
def OwnC (d : Nat) (H : Heap) (ts : List Nat) (raw cells : List AV) (ids : List Nat) : Prop := ownL (ownT ti0 E0.tp H d) ts raw = some (cells, ids)
theorem OwnC.frame {d : Nat} {H H' : Heap} {ts : List Nat} {raw cells : List AV} {ids : List Nat} (h : OwnC d H ts raw cells ids) (hs : ∀ i ∈ ids, H'[i]? = H[i]?) : OwnC d H' ts raw cells ids :=
 ownL_frame (fun t x a h hi => own_frame d t x a h fun i hi' => hs i (hi i hi')) h
theorem OwnC.lt {d : Nat} {H : Heap} {ts : List Nat} {raw cells : List AV} {ids : List Nat} (h : OwnC d H ts raw cells ids) : ∀ i ∈ ids, i < H.length := ownL_lt (fun t x a h => own_lt d t x a h) h
theorem OwnC.grow {d : Nat} {H : Heap} {ts : List Nat} {raw cells : List AV} {ids : List Nat} (h : OwnC d H ts raw cells ids) (X : List Blk) : OwnC d (H ++ X) ts raw cells ids :=
 h.frame fun i hi => List.getElem?_append_left (h.lt i hi)
theorem OwnC.append {d : Nat} {H : Heap} {ts us : List Nat} {raw raw' cells cells' : List AV} {ids ids' : List Nat} (h : OwnC d H ts raw cells ids) (h' : OwnC d H us raw' cells' ids') : OwnC d H (ts ++ us) (raw ++ raw') (cells ++ cells') (ids ++ ids') := ownL_append h h'
theorem OwnC.len {d : Nat} {H : Heap} {ts : List Nat} {raw cells : List AV} {ids : List Nat} (h : OwnC d H ts raw cells ids) : ts.length = raw.length ∧ cells.length = raw.length := ownL_len h
def OwnS (d : Nat) (H : Heap) (w : Nat) (cty : List Nat) (x : AV) (k : Nat) (cells : List AV) : Prop :=
 (x = .nl ∧ k = 0 ∧ cells = []) ∨ ∃ id raw ids, x = .sl id 0 k w ∧ H[id]? = some ⟨raw, true, true⟩ ∧ raw.length = k * w ∧ OwnC d H (List.replicate k cty).flatten raw cells ids ∧ (id :: ids).Nodup
theorem OwnS.nil (d : Nat) (H : Heap) (w : Nat) (cty : List Nat) : OwnS d H w cty .nl 0 [] := .inl ⟨rfl, rfl, rfl⟩
theorem OwnS.grow {d : Nat} {H : Heap} {w : Nat} {cty : List Nat} {x : AV} {k : Nat} {cells : List AV} (h : OwnS d H w cty x k cells) (X : List Blk) : OwnS d (H ++ X) w cty x k cells := by
 rcases h with h | ⟨id, raw, ids, h1, h2, h3, h4, h5⟩
 ·exact .inl h
 ·exact .inr ⟨id, raw, ids, h1, by rw [List.getElem?_append_left (List.getElem?_eq_some_iff.1 h2).1]; exact h2, h3, h4.grow X, h5⟩
variable {β : Type} {n : Nat} {r : Option β}
theorem set_at (A : Heap) (b b' : Blk) (R : Heap) : (A ++ b :: R).set A.length b' = A ++ b' :: R := by
 rw [List.set_append_right _ _ (Nat.le_refl _), Nat.sub_self]
 rfl
theorem get_at (A : Heap) (b : Blk) (R : Heap) : (A ++ b :: R)[A.length]? = some b := by
 rw [List.getElem?_append_right (Nat.le_refl _), Nat.sub_self]
 rfl
theorem app_one {d : Nat} {H X : Heap} {w bytes : Nat} {cty : List Nat} {x : AV} {k : Nat} {cells er ec : List AV} {eids : List Nat} {K : AV → Heap → Option β} (hx : OwnS d H w cty x k cells) (hw : er.length = w) (hl : er.all isLeaf = true)
  (he : OwnC d (H ++ X) cty er ec eids) (hn : eids.Nodup) (hge : ∀ i ∈ eids, H.length ≤ i) (hb : (k + 1) * bytes ≤ 140737488355328)
  (h : ∀ x' H', OwnS d H' w cty x' (k + 1) (cells ++ ec) → K x' H' = r) :
  pNewSl 1 w er true (H ++ X) (fun y G => pApp w bytes x y G K) = r := by
 have hy : ∀ G : Heap, content (G ++ [⟨er, true, true⟩]) w (.sl G.length 0 1 w) = some er := by
  intro G
  simp only [content, if_true, Nat.one_mul, rdCells, get_at G _ [], Nat.zero_add, hw, Nat.le_refl, List.drop_zero]
  rw [← hw, List.take_length]
 have hell : (H ++ X).length ∉ eids := fun hm => Nat.lt_irrefl _ (he.lt _ hm)
 rcases hx with ⟨rfl, rfl, rfl⟩ | ⟨id, raw, ids, rfl, h2, h3, h4, h5⟩
 ·simp only [pNewSl, pApp, lenA, Option.bind_some, hy]
  rw [show content (H ++ X ++ [⟨er, true, true⟩]) w .nl = some [] from rfl]
  simp only [Option.bind_some, kill]
  rw [if_pos hb, if_pos hl]
  refine h _ _ (.inr ⟨_, er, eids, rfl, ?_, by simp [hw], ?_, ?_⟩)
  ·rw [List.getElem?_append_right (Nat.le_refl _), Nat.sub_self]
   rfl
  ·simp only [Nat.zero_add, List.replicate_one, List.flatten_cons, List.flatten_nil, List.append_nil, List.nil_append]
   exact (he.grow _).grow _
  ·rw [List.nodup_cons]
   refine ⟨fun hm => ?_, hn⟩
   have := he.lt _ hm
   simp at this
   omega
 ·have hid : id < H.length := (List.getElem?_eq_some_iff.1 h2).1
  have hg : (H ++ X ++ [(⟨er, true, true⟩ : Blk)])[id]? = some ⟨raw, true, true⟩ := by
   rw [List.append_assoc, List.getElem?_append_left hid]
   exact h2
  have hcx : content (H ++ X ++ [⟨er, true, true⟩]) w (.sl id 0 k w) = some raw := by
   simp only [content, if_true, rdCells, hg, Nat.zero_add, h3, Nat.le_refl, List.drop_zero]
   rw [← h3, List.take_length]
  simp only [pNewSl, pApp, lenA, Option.bind_some, hy, hcx, kill, hg, if_true]
  rw [if_pos hb, if_pos hl]
  have hn5 := List.nodup_cons.1 h5
  have hne : ∀ i ∈ ids, i ≠ id := fun i hi e => hn5.1 (e ▸ hi)
  have hne2 : ∀ i ∈ eids, i ≠ id := fun i hi e => by
   have := hge i hi
   omega
  refine h _ _ (.inr ⟨_, raw ++ er, ids ++ eids, rfl, ?_, by simp [h3, hw, Nat.succ_mul], ?_, ?_⟩)
  ·rw [List.getElem?_append_right (Nat.le_refl _), Nat.sub_self]
   rfl
  ·have e : (List.replicate (k + 1) cty).flatten = (List.replicate k cty).flatten ++ cty := by
    rw [List.replicate_succ', List.flatten_append]
    simp
   rw [e]
   refine OwnC.append ?_ ?_
   ·refine OwnC.grow (OwnC.frame (H := H ++ X ++ [⟨er, true, true⟩]) ((h4.grow X).grow _) fun i hi => ?_) _
    rw [List.getElem?_set_ne (fun e => hne i hi e.symm)]
   ·refine OwnC.grow (OwnC.frame (H := H ++ X ++ [⟨er, true, true⟩]) (he.grow _) fun i hi => ?_) _
    rw [List.getElem?_set_ne (fun e => hne2 i hi e.symm)]
  ·rw [List.nodup_cons]
   refine ⟨fun hm => ?_, ?_⟩
   ·rcases List.mem_append.1 hm with hm | hm
    ·have := h4.lt _ hm
     simp at this
     omega
    ·have := he.lt _ hm
     simp at this
     omega
   ·rw [List.nodup_append]
    refine ⟨hn5.2, hn, fun a ha b hb e => ?_⟩
    have h1 := h4.lt a ha
    have h2 := hge b hb
    omega
theorem own_new {d : Nat} {H : Heap} {ts : List Nat} {cs : List AV} (h : okLW (okW ti0 E0.tp d) ts cs) : OwnC d (H ++ (instL ti0 E0.tp H.length ts cs).2) ts (instL ti0 E0.tp H.length ts cs).1 cs (List.range' H.length (instL ti0 E0.tp H.length ts cs).2.length) :=
 own_instL (fun ty t N h h' _ => own_inst d ty t N h h') ts cs H.length h (Lies_end _ _) (instL_live _ _ _)
theorem own_res {d : Nat} {H : Heap} {w tyS k : Nat} {cty : List Nat} {x : AV} {cells : List AV} (hty : ∃ i j, ti0 tyS = some i ∧ ti0 i.elem = some j ∧ j.size = w ∧ j.cty = cty) (h : OwnS d H w cty x k cells) : ∃ ids, ownT ti0 E0.tp H (d + 1) tyS x = some (.ro k cells, ids) ∧ ids.Nodup := by
 rcases h with ⟨rfl, rfl, rfl⟩ | ⟨id, raw, ids, rfl, h2, h3, h4, h5⟩
 ·exact ⟨[], rfl, List.nodup_nil⟩
 ·obtain ⟨i, j, e1, e2, rfl, rfl⟩ := hty
  refine ⟨id :: ids, ?_, h5⟩
  rw [ownT_sl]
  have ha : isApp H id = true := by simp only [isApp, h2]
  have hr : rdCells H id 0 (k * j.size) = some raw := by
   simp only [rdCells, h2, if_true, Nat.zero_add, h3, Nat.le_refl, List.drop_zero]
   rw [← h3, List.take_length]
  have h4' : ownL (ownT ti0 E0.tp H d) (List.replicate k j.cty).flatten raw = some (cells, ids) := h4
  simp only [e1, e2, Option.bind_some, if_true, ha, hr, h4']
end Go.Proofs.Ytejjggnchdldoaa.Abs
set_option linter.unusedVariables false
set_option linter.unusedSimpArgs false
namespace Go.Proofs.Ytejjggnchdldoaa.Abs
open Go
section
variable {ti : Nat → Option TI} {tp : Nat → Option (List Nat)} {H : Heap}
theorem ownL_dep {d d' : Nat} (hd : ∀ ty x t I, ownT ti tp H d ty x = some (t, I) → okW ti tp d' ty t → ownT ti tp H d' ty x = some (t, I)) : ∀ (ts : List Nat) (xs cells : List AV) (I : List Nat), ownL (ownT ti tp H d) ts xs = some (cells, I) → okLW (okW ti tp d') ts cells → ownL (ownT ti tp H d') ts xs = some (cells, I)
 | ts, [], cells, I, h, _ => by
  obtain ⟨rfl, e⟩ := ownL_nil h
  cases e
  rfl
 | [], _ :: _, _, _, h, _ => by simp [ownL] at h
 | t :: ts, x :: xs, cells, I, h, ho => by
  obtain ⟨a, b, h1, h2, e⟩ := ownL_cons h
  cases e
  have e1 := hd t x a.1 a.2 h1 ho.1
  have e2 := ownL_dep hd ts xs b.1 b.2 h2 ho.2
  rw [ownL, e1, Option.bind_some, e2]
  rfl
theorem own_dep : ∀ (d d' ty : Nat) (x t : AV) (I : List Nat), ownT ti tp H d ty x = some (t, I) → okW ti tp d' ty t → ownT ti tp H d' ty x = some (t, I)
 | 0, _, _, _, _, _, h, _ => by simp [ownT] at h
 | d + 1, 0, _, _, _, _, _, ho => by cases ho
 | d + 1, d' + 1, ty, x, t, I, h, ho => by
  cases x with
  | sc v =>
   obtain ⟨rfl, rfl⟩ : AV.sc v = t ∧ [] = I := by simpa [ownT] using h
   rfl
  | nl =>
   obtain ⟨rfl, rfl⟩ : AV.ro 0 [] = t ∧ [] = I := by simpa [ownT] using h
   rfl
  | sl id off n z =>
   rw [ownT_sl] at h ⊢
   simp only [Option.bind_eq_some_iff] at h
   obtain ⟨i, h1, j, h2, h3⟩ := h
   split at h3
   case isFalse => cases h3
   rename_i hz
   split at h3
   case isFalse => cases h3
   rename_i ha
   simp only [Option.bind_eq_some_iff] at h3
   obtain ⟨cs, h4, q, h5, h6⟩ := h3
   obtain ⟨rfl, rfl⟩ : AV.ro n q.1 = t ∧ id :: q.2 = I := by simpa using h6
   obtain ⟨i', j', g1, g2, g3, g4⟩ := ho
   rw [h1] at g1
   cases g1
   rw [h2] at g2
   cases g2
   have e3 := ownL_dep (fun ty x t I h ho => own_dep d d' ty x t I h ho) _ _ _ _ h5 g4
   rw [hz] at h4
   simp only [h1, h2, Option.bind_some, hz, if_true, ha, h4, e3]
  | agg cs =>
   rw [ownT_agg] at h ⊢
   simp only [Option.bind_eq_some_iff] at h
   obtain ⟨i, h1, q, h2, h3⟩ := h
   obtain ⟨rfl, rfl⟩ : AV.agg q.1 = t ∧ q.2 = I := by simpa using h3
   obtain ⟨i', g1, g2⟩ := ho
   rw [h1] at g1
   cases g1
   have e3 := ownL_dep (fun ty x t I h ho => own_dep d d' ty x t I h ho) _ _ _ _ h2 g2
   rw [h1, Option.bind_some, e3]
   rfl
  | tup cs =>
   rw [ownT_tup] at h ⊢
   simp only [Option.bind_eq_some_iff] at h
   obtain ⟨i, h1, q, h2, h3⟩ := h
   obtain ⟨rfl, rfl⟩ : AV.tup q.1 = t ∧ q.2 = I := by simpa using h3
   obtain ⟨i', g1, g2⟩ := ho
   rw [h1] at g1
   cases g1
   have e3 := ownL_dep (fun ty x t I h ho => own_dep d d' ty x t I h ho) _ _ _ _ h2 g2
   rw [h1, Option.bind_some, e3]
   rfl
  | _ => simp [ownT] at h
theorem ownL_view {d : Nat} (hd : ∀ ty x t I, ownT ti tp H d ty x = some (t, I) → viewV H d x = some t) : ∀ (ts : List Nat) (xs cells : List AV) (I : List Nat), ownL (ownT ti tp H d) ts xs = some (cells, I) → xs.mapM (viewV H d) = some cells
 | ts, [], cells, I, h => by
  obtain ⟨rfl, e⟩ := ownL_nil h
  cases e
  rfl
 | [], _ :: _, _, _, h => by simp [ownL] at h
 | t :: ts, x :: xs, cells, I, h => by
  obtain ⟨a, b, h1, h2, e⟩ := ownL_cons h
  cases e
  simp only [List.mapM_cons, hd t x a.1 a.2 h1, ownL_view hd ts xs b.1 b.2 h2, Option.pure_def, Option.bind_eq_bind, Option.bind_some]
theorem own_view : ∀ (d ty : Nat) (x t : AV) (I : List Nat), ownT ti tp H d ty x = some (t, I) → viewV H d x = some t
 | 0, _, _, _, _, h => by simp [ownT] at h
 | d + 1, ty, x, t, I, h => by
  have ih := ownL_view (ti := ti) (tp := tp) (H := H) (d := d) (fun ty x t I h => own_view d ty x t I h)
  cases x with
  | sc v =>
   obtain ⟨rfl, rfl⟩ : AV.sc v = t ∧ [] = I := by simpa [ownT] using h
   rfl
  | nl =>
   obtain ⟨rfl, rfl⟩ : AV.ro 0 [] = t ∧ [] = I := by simpa [ownT] using h
   rfl
  | sl id off n z =>
   rw [ownT_sl] at h
   simp only [Option.bind_eq_some_iff] at h
   obtain ⟨i, h1, j, h2, h3⟩ := h
   split at h3
   case isFalse => cases h3
   split at h3
   case isFalse => cases h3
   simp only [Option.bind_eq_some_iff] at h3
   obtain ⟨cs, h4, q, h5, h6⟩ := h3
   obtain ⟨rfl, rfl⟩ : AV.ro n q.1 = t ∧ id :: q.2 = I := by simpa using h6
   rw [viewV_sl, h4, Option.bind_some, ih _ _ _ _ h5]
   rfl
  | agg cs =>
   rw [ownT_agg] at h
   simp only [Option.bind_eq_some_iff] at h
   obtain ⟨i, h1, q, h2, h3⟩ := h
   obtain ⟨rfl, rfl⟩ : AV.agg q.1 = t ∧ q.2 = I := by simpa using h3
   rw [viewV_agg, ih _ _ _ _ h2]
   rfl
  | tup cs =>
   rw [ownT_tup] at h
   simp only [Option.bind_eq_some_iff] at h
   obtain ⟨i, h1, q, h2, h3⟩ := h
   obtain ⟨rfl, rfl⟩ : AV.tup q.1 = t ∧ q.2 = I := by simpa using h3
   show (cs.mapM (viewV H d)).bind _ = _
   rw [ih _ _ _ _ h2]
   rfl
  | _ => simp [ownT] at h
theorem okLW_mono {f g : Nat → AV → Prop} (hfg : ∀ t x, f t x → g t x) : ∀ {ts : List Nat} {cs : List AV}, okLW f ts cs → okLW g ts cs
 | [], [], h => h
 | _ :: ts, _ :: cs, h => ⟨hfg _ _ h.1, okLW_mono hfg h.2⟩
theorem okW_mono : ∀ (d ty : Nat) (x : AV), okW ti tp d ty x → okW ti tp (d + 1) ty x
 | 0, _, _, h => by cases h
 | d + 1, ty, x, h => by
  cases x with
  | sc v => trivial
  | ro n cells =>
   obtain ⟨i, j, h1, h2, h3, h4⟩ := h
   exact ⟨i, j, h1, h2, h3, okLW_mono (okW_mono d) h4⟩
  | agg cs =>
   obtain ⟨i, h1, h2⟩ := h
   exact ⟨i, h1, okLW_mono (okW_mono d) h2⟩
  | tup cs =>
   obtain ⟨i, h1, h2⟩ := h
   exact ⟨i, h1, okLW_mono (okW_mono d) h2⟩
  | _ => cases h
theorem okW_le {d d' ty : Nat} {x : AV} (h : okW ti tp d ty x) (hd : d ≤ d') : okW ti tp d' ty x := by
 induction hd with
 | refl => exact h
 | step _ ih => exact okW_mono _ _ _ ih
theorem okLW_le {d d' : Nat} {ts : List Nat} {cs : List AV} (h : okLW (okW ti tp d) ts cs) (hd : d ≤ d') : okLW (okW ti tp d') ts cs := okLW_mono (fun _ _ h => okW_le h hd) h
end
inductive Ck where
 | blk (id : Nat) (cs : List AV) (a : Bool)
 | own (x : AV) (ty : Nat) (t : AV)
 | shr (x : AV) (ty : Nat) (t : AV) (y : AV) (ty' : Nat) (t' : AV)
def CkOk (H : Heap) (c : Ck) (I : List Nat) : Prop :=
 match c with
 | .blk id cs a => I = [id] ∧ H[id]? = some ⟨cs, true, a⟩
 | .own x ty t => isLeaf x = true ∧ okW ti0 E0.tp 6 ty t ∧ ownT ti0 E0.tp H 6 ty x = some (t, I)
 | .shr x ty t y ty' t' => (isLeaf x = true ∧ okW ti0 E0.tp 6 ty t ∧ ownT ti0 E0.tp H 6 ty x = some (t, I)) ∧ okW ti0 E0.tp 6 ty' t' ∧ ∃ J, ownT ti0 E0.tp H 6 ty' y = some (t', J) ∧ ∀ i ∈ J, i ∈ I
def SepI (H : Heap) : List Ck → List Nat → Prop
 | [], I => I = []
 | c :: L, I => ∃ J R, I = J ++ R ∧ CkOk H c J ∧ SepI H L R
def Sep (H : Heap) (L : List Ck) : Prop := ∃ I, SepI H L I ∧ I.Nodup
inductive Pk : List Ck → Ck → List Ck → Prop
 | here {c : Ck} {L : List Ck} : Pk (c :: L) c L
 | there {a c : Ck} {L L' : List Ck} : Pk L c L' → Pk (a :: L) c (a :: L')
section
variable {H H' : Heap} {L L' L1 L2 : List Ck} {c : Ck} {I J R : List Nat}
theorem sep_nil : Sep H [] := ⟨[], rfl, List.nodup_nil⟩
theorem CkOk.frame (h : CkOk H c I) (hs : ∀ i ∈ I, H'[i]? = H[i]?) : CkOk H' c I := by
 cases c with
 | blk id cs a =>
  obtain ⟨rfl, h2⟩ := h
  exact ⟨rfl, by rw [hs id (by simp)]; exact h2⟩
 | own x ty t => exact ⟨h.1, h.2.1, own_frame 6 ty x _ h.2.2 hs⟩
 | shr x ty t y ty' t' =>
  obtain ⟨⟨h1, h2, h3⟩, h4, J, h5, h6⟩ := h
  exact ⟨⟨h1, h2, own_frame 6 ty x _ h3 hs⟩, h4, J, own_frame 6 ty' y _ h5 fun i hi => hs i (h6 i hi), h6⟩
theorem CkOk.lt (h : CkOk H c I) : ∀ i ∈ I, i < H.length := by
 cases c with
 | blk id cs a =>
  obtain ⟨rfl, h2⟩ := h
  intro i hi
  rw [List.mem_singleton] at hi
  subst hi
  exact (List.getElem?_eq_some_iff.1 h2).1
 | own x ty t => exact own_lt 6 ty x _ h.2.2
 | shr x ty t y ty' t' => exact own_lt 6 ty x _ h.1.2.2
theorem SepI.frame : ∀ {L : List Ck} {I : List Nat}, SepI H L I → (∀ i ∈ I, H'[i]? = H[i]?) → SepI H' L I
 | [], I, h, _ => h
 | c :: L, I, h, hs => by
  obtain ⟨J, R, rfl, h1, h2⟩ := h
  exact ⟨J, R, rfl, h1.frame fun i hi => hs i (List.mem_append_left _ hi), h2.frame fun i hi => hs i (List.mem_append_right _ hi)⟩
theorem SepI.lt : ∀ {L : List Ck} {I : List Nat}, SepI H L I → ∀ i ∈ I, i < H.length
 | [], I, h => by
  cases (show I = [] from h)
  intro i hi
  cases hi
 | c :: L, I, h => by
  obtain ⟨J, R, rfl, h1, h2⟩ := h
  intro i hi
  rcases List.mem_append.1 hi with hi | hi
  ·exact h1.lt i hi
  ·exact h2.lt i hi
theorem SepI.grow (h : SepI H L I) (X : List Blk) : SepI (H ++ X) L I := h.frame fun i hi => List.getElem?_append_left (h.lt i hi)
theorem Sep.grow (h : Sep H L) (X : List Blk) : Sep (H ++ X) L := by
 obtain ⟨I, h1, h2⟩ := h
 exact ⟨I, h1.grow X, h2⟩
theorem Sep.new {X : List Blk} (hs : Sep H L) (hc : CkOk (H ++ X) c J) (hJ : J.Nodup) (hge : ∀ i ∈ J, H.length ≤ i) : Sep (H ++ X) (c :: L) := by
 obtain ⟨I, h1, h2⟩ := hs
 refine ⟨J ++ I, ⟨J, I, rfl, hc, h1.grow X⟩, List.nodup_append.2 ⟨hJ, h2, fun a ha b hb e => ?_⟩⟩
 have := h1.lt b hb
 have := hge a ha
 omega
theorem Pk.sepI : ∀ {L L' : List Ck} {c : Ck} {I : List Nat}, Pk L c L' → SepI H L I → ∃ J R, CkOk H c J ∧ SepI H L' R ∧ I.Perm (J ++ R)
 | _, _, _, _, .here, h => by
  obtain ⟨J, R, rfl, h1, h2⟩ := h
  exact ⟨J, R, h1, h2, List.Perm.refl _⟩
 | _, _, _, _, .there p, h => by
  obtain ⟨J, R, rfl, h1, h2⟩ := h
  obtain ⟨J', R', g1, g2, g3⟩ := p.sepI h2
  refine ⟨J', J ++ R', g1, ⟨J, R', rfl, h1, g2⟩, ?_⟩
  refine (List.Perm.append_left J g3).trans ?_
  rw [← List.append_assoc, ← List.append_assoc]
  exact List.Perm.append_right R' List.perm_append_comm
theorem Sep.pick (h : Sep H L) (p : Pk L c L') : Sep H (c :: L') := by
 obtain ⟨I, h1, h2⟩ := h
 obtain ⟨J, R, g1, g2, g3⟩ := p.sepI h1
 exact ⟨J ++ R, ⟨J, R, rfl, g1, g2⟩, g3.nodup_iff.1 h2⟩
theorem Sep.tail (h : Sep H (c :: L)) : Sep H L := by
 obtain ⟨I, ⟨J, R, rfl, h1, h2⟩, h3⟩ := h
 exact ⟨R, h2, (List.nodup_append.1 h3).2.1⟩
theorem Sep.blk {id : Nat} {cs : List AV} {a : Bool} (h : Sep H L) (p : Pk L (.blk id cs a) L') : H[id]? = some ⟨cs, true, a⟩ := by
 obtain ⟨I, ⟨J, R, rfl, h1, h2⟩, h3⟩ := h.pick p
 exact h1.2
theorem Sep.put {id : Nat} {cs : List AV} {a : Bool} (h : Sep H L) (p : Pk L (.blk id cs a) L') (cs' : List AV) (a' : Bool) : Sep (H.set id ⟨cs', true, a'⟩) (.blk id cs' a' :: L') := by
 obtain ⟨I, ⟨J, R, rfl, ⟨rfl, h1⟩, h2⟩, h3⟩ := h.pick p
 have hn := (List.nodup_cons.1 h3).1
 have hl := (List.getElem?_eq_some_iff.1 h1).1
 refine ⟨[id] ++ R, ⟨[id], R, rfl, ⟨rfl, by rw [List.getElem?_set_self hl]⟩, h2.frame fun i hi => ?_⟩, h3⟩
 rw [List.getElem?_set_ne]
 rintro rfl
 exact hn hi
theorem Sep.own {x t : AV} {ty : Nat} (h : Sep H L) (p : Pk L (.own x ty t) L') : isLeaf x = true ∧ okW ti0 E0.tp 6 ty t ∧ ∃ I, ownT ti0 E0.tp H 6 ty x = some (t, I) ∧ I.Nodup := by
 obtain ⟨I, ⟨J, R, rfl, ⟨h0, h1, h1'⟩, h2⟩, h3⟩ := h.pick p
 exact ⟨h0, h1, J, h1', (List.nodup_append.1 h3).1⟩
theorem Sep.seen {x t y t' : AV} {ty ty' : Nat} (h : Sep H L) (p : Pk L (.shr x ty t y ty' t') L') : okW ti0 E0.tp 6 ty' t' ∧ ∃ I, ownT ti0 E0.tp H 6 ty' y = some (t', I) := by
 obtain ⟨I, ⟨J, R, rfl, ⟨h0, h1, J', h1', h3⟩, h2⟩, h4⟩ := h.pick p
 exact ⟨h1, J', h1'⟩
theorem Sep.forget {x t y t' : AV} {ty ty' : Nat} (h : Sep H L) (p : Pk L (.shr x ty t y ty' t') L') : Sep H (.own x ty t :: L') := by
 obtain ⟨I, ⟨J, R, rfl, ⟨h0, _⟩, h2⟩, h4⟩ := h.pick p
 exact ⟨J ++ R, ⟨J, R, rfl, h0, h2⟩, h4⟩
theorem Sep.nl {ty : Nat} (h : Sep H L) (hty : ∃ i j, ti0 ty = some i ∧ ti0 i.elem = some j) : Sep H (.own .nl ty (.ro 0 []) :: L) := by
 obtain ⟨I, h1, h2⟩ := h
 obtain ⟨i, j, e1, e2⟩ := hty
 exact ⟨[] ++ I, ⟨[], I, rfl, ⟨rfl, ⟨i, j, e1, e2, by simp, by simp [okLW]⟩, rfl⟩, h1⟩, h2⟩
inductive OwnR : List Ck → List AV → List Nat → List AV → List Ck → Prop
 | nil {L : List Ck} : OwnR L [] [] [] L
 | sc {L L' : List Ck} {v : Value} {raw cells : List AV} {ty : Nat} {tys : List Nat} : OwnR L raw tys cells L' → OwnR L (.sc v :: raw) (ty :: tys) (.sc v :: cells) L'
 | nl {L L' : List Ck} {raw cells : List AV} {ty : Nat} {tys : List Nat} : OwnR L raw tys cells L' → OwnR L (.nl :: raw) (ty :: tys) (.ro 0 [] :: cells) L'
 | own {L L1 L' : List Ck} {x t : AV} {raw cells : List AV} {ty : Nat} {tys : List Nat} : Pk L (.own x ty t) L1 → OwnR L1 raw tys cells L' → OwnR L (x :: raw) (ty :: tys) (t :: cells) L'
 | agg {L L1 L' : List Ck} {cs ts raw cells : List AV} {ty : Nat} {tys cty : List Nat} : (∃ i, ti0 ty = some i ∧ i.cty = cty) → OwnR L cs cty ts L1 → OwnR L1 raw tys cells L' → OwnR L (.agg cs :: raw) (ty :: tys) (.agg ts :: cells) L'
theorem OwnR.sound : ∀ {L L' : List Ck} {raw cells : List AV} {tys : List Nat} {I : List Nat}, OwnR L raw tys cells L' → SepI H L I → ∀ d, okLW (okW ti0 E0.tp d) tys cells → ∃ J R, ownL (ownT ti0 E0.tp H d) tys raw = some (cells, J) ∧ SepI H L' R ∧ I.Perm (J ++ R)
 | _, _, _, _, _, I, .nil, h, d, _ => ⟨[], I, rfl, h, List.Perm.refl _⟩
 | _, _, _, _, _, I, .sc q, h, d + 1, ho => by
  obtain ⟨J, R, h1, h2, h3⟩ := q.sound h (d + 1) ho.2
  refine ⟨J, R, ?_, h2, h3⟩
  rw [ownL, ownT_sc, Option.bind_some, h1]
  rfl
 | _, _, _, _, _, I, .nl q, h, d + 1, ho => by
  obtain ⟨J, R, h1, h2, h3⟩ := q.sound h (d + 1) ho.2
  refine ⟨J, R, ?_, h2, h3⟩
  rw [ownL, show ownT ti0 E0.tp H (d + 1) _ .nl = some (.ro 0 [], []) from rfl, Option.bind_some, h1]
  rfl
 | _, _, _, _, _, I, .own p q, h, d, ho => by
  obtain ⟨J1, R1, g1, g2, g3⟩ := p.sepI h
  obtain ⟨J, R, h1, h2, h3⟩ := q.sound g2 d ho.2
  have e := own_dep 6 d _ _ _ _ g1.2.2 ho.1
  refine ⟨J1 ++ J, R, ?_, h2, ?_⟩
  ·rw [ownL, e, Option.bind_some, h1]
   rfl
  ·refine g3.trans ?_
   rw [List.append_assoc]
   exact List.Perm.append_left J1 h3
 | _, _, _, _, _, I, .agg hty p q, h, d + 1, ho => by
  obtain ⟨i, e1, rfl⟩ := hty
  obtain ⟨i', g1, g2⟩ := ho.1
  rw [e1] at g1
  cases g1
  obtain ⟨J1, R1, a1, a2, a3⟩ := p.sound h (d + 1) (okLW_le g2 (Nat.le_succ d))
  obtain ⟨J, R, h1, h2, h3⟩ := q.sound a2 (d + 1) ho.2
  have a1' := ownL_dep (fun ty x t I h ho => own_dep (d + 1) d ty x t I h ho) _ _ _ _ a1 g2
  refine ⟨J1 ++ J, R, ?_, h2, ?_⟩
  ·rw [ownL, ownT_agg, e1, Option.bind_some, a1', Option.bind_some, Option.bind_some, h1]
   rfl
  ·refine a3.trans ?_
   rw [List.append_assoc]
   exact List.Perm.append_left J1 h3
 | _, _, _, _, _, I, .sc q, h, 0, ho => by cases ho.1
 | _, _, _, _, _, I, .nl q, h, 0, ho => by cases ho.1
 | _, _, _, _, _, I, .agg _ p q, h, 0, ho => by cases ho.1
end
end Go.Proofs.Ytejjggnchdldoaa.Abs
set_option linter.unusedVariables false
set_option linter.unusedSimpArgs false
namespace Go.Proofs.Ytejjggnchdldoaa.Abs
open Go
def Gd {β : Type} (G : Option β → Prop) (o : Option β) : Prop := G o
section
variable {β : Type} {n : Nat} {H : Heap} {L L' L1 L2 : List Ck} {G : Option β → Prop} {K : AV → Option β} {KH : AV → Heap → Option β}
theorem g_congr {a b : Option β} (e : a = b) (h : Gd G b) : Gd G a := by rw [e]; exact h
theorem g_new {cs : List AV} (hs : Sep H L) (h : ∀ i H', Sep H' (.blk i cs true :: L) → Gd G (KH (.ptr i 0) H')) : Gd G (pNew cs H fun x H => KH x H) :=
 h _ _ (hs.new (J := [H.length]) ⟨rfl, by rw [List.getElem?_append_right (Nat.le_refl _), Nat.sub_self]; rfl⟩ (by simp) (by simp))
theorem g_newSl {k w : Nat} {cs : List AV} {a : Bool} (hs : Sep H L) (h : ∀ i H', Sep H' (.blk i cs a :: L) → Gd G (KH (.sl i 0 k w) H')) : Gd G (pNewSl k w cs a H fun x H => KH x H) :=
 h _ _ (hs.new (J := [H.length]) ⟨rfl, by rw [List.getElem?_append_right (Nat.le_refl _), Nat.sub_self]; rfl⟩ (by simp) (by simp))
theorem g_box {x : AV} {cs : List AV} (hs : Sep H L) (hc : cellsA x = some cs) (h : ∀ i H', Sep H' (.blk i cs true :: L) → Gd G (KH (.ptr i 0) H')) : Gd G (pBox x H fun x H => KH x H) := by
 refine g_congr (b := pNew cs H fun x H => KH x H) ?_ (g_new hs h)
 show (cellsA x).bind _ = _
 rw [hc]
 rfl
theorem cells_fl {cs : List AV} (h : cs.all isFl = true) : cellsA (.agg cs) = some cs := fl_cells h
theorem cells_agg {cs : List AV} (h : cs.all isLeaf = true) : cellsA (.agg cs) = some cs := by
 show (if cs.all isLeaf then some cs else none) = _
 rw [if_pos h]
theorem lf_c {x : AV} {xs : List AV} (h : isLeaf x = true) (hs : xs.all isLeaf = true) : (x :: xs).all isLeaf = true := by
 rw [List.all_cons, h, hs]
 rfl
theorem cells_leaf {x : AV} (h : isLeaf x = true) : cellsA x = some [x] := by
 cases x <;> simp_all [cellsA, isLeaf]
theorem g_ld {i o : Nat} {cs : List AV} {a : Bool} {c : AV} (hs : Sep H L) (hp : Pk L (.blk i cs a) L1) (hc : cs[o]? = some c) (h : Gd G (K c)) : Gd G (pLoad false 1 (.ptr i o) H fun x => K x) := by
 refine g_congr ?_ h
 obtain ⟨hlt, he⟩ := List.getElem?_eq_some_iff.1 hc
 have e : rdCells H i o 1 = some [c] := by
  simp only [rdCells, hs.blk hp, if_true]
  rw [if_pos (by omega), List.drop_eq_getElem_cons hlt, he]
  rfl
 exact ldF e _
theorem g_ldA {i o w : Nat} {cs ds : List AV} {a : Bool} (hs : Sep H L) (hp : Pk L (.blk i cs a) L1) (hl : o + w ≤ cs.length) (hc : (cs.drop o).take w = ds) (h : Gd G (K (.agg ds))) : Gd G (pLoad true w (.ptr i o) H fun x => K x) := by
 refine g_congr ?_ h
 have e : rdCells H i o w = some ds := by
  simp only [rdCells, hs.blk hp, if_true]
  rw [if_pos hl, hc]
 exact ldT e _
theorem g_ldW {i w : Nat} {cs : List AV} {a : Bool} (hs : Sep H L) (hp : Pk L (.blk i cs a) L1) (hl : cs.length = w) (h : Gd G (K (.agg cs))) : Gd G (pLoad true w (.ptr i 0) H fun x => K x) :=
 g_ldA hs hp (by omega) (by rw [List.drop_zero, ← hl, List.take_length]) h
theorem g_st {i o w : Nat} {cs cs' ds : List AV} {a : Bool} {y : AV} {KS : Heap → Option β} (hs : Sep H L) (hp : Pk L (.blk i cs a) L1) (hy : cellsA y = some ds) (hd : ds.length = w) (hl : o + w ≤ cs.length) (hc : splice cs o ds = cs') (h : ∀ H', Sep H' (.blk i cs' a :: L1) → Gd G (KS H')) : Gd G (pStore w (.ptr i o) y H fun H => KS H) := by
 have hb := hs.blk hp
 refine g_congr (st_at w i o y ⟨cs, true, a⟩ ds H _ hb hy hd hl rfl) ?_
 have := hs.put hp cs' a
 rw [← hc] at this
 exact h _ (by rw [← hc]; exact this)
theorem g_ldR {cells : List AV} {c : AV} (hc : cells[0]? = some c) (h : Gd G (K c)) : Gd G (pLoad false 1 (.rp cells) H fun x => K x) := by
 cases cells with
 | nil => cases hc
 | cons x xs =>
  obtain rfl : x = c := by simpa using hc
  refine g_congr (ld1_rp x xs H _) h
theorem g_ldAR {w : Nat} {cells ds : List AV} (hl : w ≤ cells.length) (hc : cells.take w = ds) (h : Gd G (K (.agg ds))) : Gd G (pLoad true w (.rp cells) H fun x => K x) := by
 refine g_congr ?_ h
 simp only [pLoad, hl, if_true, hc]
theorem g_ldE {w : Nat} {cs rest : List AV} (hw : cs.length = w) (h : Gd G (K (.agg cs))) : Gd G (pLoad true w (.rp (cs ++ rest)) H fun x => K x) := g_congr (ld_rp w cs rest H _ hw) h
theorem g_fadr {o i off o' : Nat} (e : off + o = o') (h : Gd G (K (.ptr i o'))) : Gd G (pFadr o (.ptr i off) fun x => K x) := by subst e; exact h
theorem g_fadrR {o : Nat} {cells : List AV} (h : Gd G (K (.rp (cells.drop o)))) : Gd G (pFadr o (.rp cells) fun x => K x) := h
theorem g_nil {id off : Nat} (h : Gd G (K (.ptr id off))) : Gd G (pNil (.ptr id off) fun t => K t) := h
theorem g_nilR {cs : List AV} (h : Gd G (K (.rp cs))) : Gd G (pNil (.rp cs) fun t => K t) := h
theorem g_fld {o : Nat} {cs : List AV} {c : AV} (hc : cs[o]? = some c) (h : Gd G (K c)) : Gd G (pFld false o 1 (.agg cs) fun x => K x) := by
 refine g_congr ?_ h
 obtain ⟨hlt, he⟩ := List.getElem?_eq_some_iff.1 hc
 simp only [pFld]
 rw [if_pos (by omega), List.drop_eq_getElem_cons hlt, he]
 rfl
theorem g_fldA {o w : Nat} {cs ds : List AV} (hl : o + w ≤ cs.length) (hc : (cs.drop o).take w = ds) (h : Gd G (K (.agg ds))) : Gd G (pFld true o w (.agg cs) fun x => K x) := by
 refine g_congr ?_ h
 simp only [pFld]
 rw [if_pos hl, hc]
 rfl
theorem fill_c {z cs z' r : List AV} {o n : Nat} {v : AV} {rest : List (Nat × Nat × AV)} (h : cellsA v = some cs) (hl : cs.length = n) (ho : o + n ≤ z.length) (hz : splice z o cs = z') (h2 : fillA z' rest = some r) : fillA z ((o, n, v) :: rest) = some r := by
 subst hz
 subst hl
 simp only [fillA, h, Option.bind_some, if_true, if_pos ho]
 exact h2
theorem g_fill {zs cs : List AV} {ps : List (Nat × Nat × AV)} {KL : List AV → Option β} (hf : fillA zs ps = some cs) (h : Gd G (KL cs)) : Gd G ((fillA zs ps).bind fun c => KL c) := by
 rw [hf]
 exact h
theorem g_extr {i : Nat} {vs : List AV} {v : AV} (hv : vs[i]? = some v) (h : Gd G (K v)) : Gd G (pExtr (.tup vs) i fun x => K x) := by
 refine g_congr ?_ h
 show (vs[i]?).bind _ = _
 rw [hv]
 rfl
theorem g_len {m : Nat} {cs : List AV} (h : Gd G (K (.sc (.int .i64 m)))) : Gd G (pLen (.ro m cs) fun x => K x) := h
theorem g_lenS {s : ByteArray} (h : Gd G (K (.sc (.int .i64 s.size)))) : Gd G (pLenS (.sc (.string s)) fun x => K x) := h
theorem g_lenN (h : Gd G (K (.sc (.int .i64 (0 : Nat))))) : Gd G (pLen .nl fun x => K x) := h
theorem g_lenL {i o m w : Nat} (h : Gd G (K (.sc (.int .i64 m)))) : Gd G (pLen (.sl i o m w) fun x => K x) := h
theorem len_own {d ty m : Nat} {x : AV} {cells : List AV} {I : List Nat} (h : ownT ti0 E0.tp H d ty x = some (.ro m cells, I)) : lenA x = some m := by
 cases d with
 | zero => simp [ownT] at h
 | succ d =>
  cases x with
  | sc v => simp [ownT] at h
  | nl =>
   have := (Option.some.inj h)
   simp only [Prod.mk.injEq, AV.ro.injEq] at this
   rw [← this.1.1]
   rfl
  | sl id off n z =>
   rw [ownT_sl] at h
   simp only [Option.bind_eq_some_iff] at h
   obtain ⟨i, h1, j, h2, h3⟩ := h
   split at h3
   case isFalse => cases h3
   split at h3
   case isFalse => cases h3
   simp only [Option.bind_eq_some_iff] at h3
   obtain ⟨cs, h4, q, h5, h6⟩ := h3
   obtain ⟨h7, -⟩ : AV.ro n q.1 = .ro m cells ∧ _ := by simpa only [Prod.mk.injEq, Option.some.injEq] using h6
   cases h7
   rfl
  | agg cs =>
   rw [ownT_agg] at h
   simp only [Option.bind_eq_some_iff] at h
   obtain ⟨i, h1, q, h2, h3⟩ := h
   simp at h3
  | tup cs =>
   rw [ownT_tup] at h
   simp only [Option.bind_eq_some_iff] at h
   obtain ⟨i, h1, q, h2, h3⟩ := h
   simp at h3
  | _ => simp [ownT] at h
theorem g_lenO {x : AV} {ty m : Nat} {cells : List AV} (hs : Sep H L) (hp : Pk L (.own x ty (.ro m cells)) L1) (h : Gd G (K (.sc (.int .i64 m)))) : Gd G (pLen x fun x => K x) := by
 obtain ⟨_, _, I, e, _⟩ := hs.own hp
 have hl := len_own e
 refine g_congr ?_ h
 have key : ∀ (x : AV), (∀ v, x ≠ .sc v) → lenA x = some m → pLen x K = K (.sc (.int .i64 m)) := by
  intro x hx hl
  cases x with
  | sc v => exact absurd rfl (hx v)
  | nl => cases hl; rfl
  | ro n cs => cases hl; rfl
  | sl a b c d => cases hl; rfl
  | _ => cases hl
 refine key x (fun v hv => ?_) hl
 subst hv
 simp [ownT] at e
theorem g_bin {op : BinOp} {x y v : AV} (e : ∀ k : AV → Option β, pBin op x y k = k v) (h : Gd G (K v)) : Gd G (pBin op x y fun t => K t) := g_congr (e _) h
theorem g_binB {op : BinOp} {x y v : AV} (e : ∀ k : AV → Option β, pBinB op x y k = k v) (h : Gd G (K v)) : Gd G (pBinB op x y fun t => K t) := g_congr (e _) h
theorem g_eql {a b : Int} (h : Gd G (K (.sc (.bool (decide (a = b)))))) : Gd G (pBin .eql (.sc (.int .i64 a)) (.sc (.int .i64 b)) fun t => K t) := h
theorem g_neq {a b : Int} (h : Gd G (K (.sc (.bool (!decide (a = b)))))) : Gd G (pBin .neq (.sc (.int .i64 a)) (.sc (.int .i64 b)) fun t => K t) := h
theorem g_lss {a b : Int} (h : Gd G (K (.sc (.bool (decide (a < b)))))) : Gd G (pBin .lss (.sc (.int .i64 a)) (.sc (.int .i64 b)) fun t => K t) := h
theorem g_leq {a b : Int} (h : Gd G (K (.sc (.bool (decide (a ≤ b)))))) : Gd G (pBin .leq (.sc (.int .i64 a)) (.sc (.int .i64 b)) fun t => K t) := h
theorem g_gtr {a b : Int} (h : Gd G (K (.sc (.bool (decide (b < a)))))) : Gd G (pBin .gtr (.sc (.int .i64 a)) (.sc (.int .i64 b)) fun t => K t) := h
theorem g_geq {a b : Int} (h : Gd G (K (.sc (.bool (decide (b ≤ a)))))) : Gd G (pBin .geq (.sc (.int .i64 a)) (.sc (.int .i64 b)) fun t => K t) := h
theorem g_add {a b : Int} (h0 : -9223372036854775808 ≤ a + b) (h1 : a + b ≤ 9223372036854775807) (h : Gd G (K (.sc (.int .i64 (a + b))))) : Gd G (pBin .add (.sc (.int .i64 a)) (.sc (.int .i64 b)) fun t => K t) := by
 refine g_congr ?_ h
 show K (.sc (.int .i64 (IntKind.i64.wrap (a + b)))) = _
 rw [wrap64 _ h0 h1]
theorem g_sub {a b : Int} (h0 : -9223372036854775808 ≤ a - b) (h1 : a - b ≤ 9223372036854775807) (h : Gd G (K (.sc (.int .i64 (a - b))))) : Gd G (pBin .sub (.sc (.int .i64 a)) (.sc (.int .i64 b)) fun t => K t) := by
 refine g_congr ?_ h
 show K (.sc (.int .i64 (IntKind.i64.wrap (a - b)))) = _
 rw [wrap64 _ h0 h1]
theorem g_mul {a b : Int} (h0 : -9223372036854775808 ≤ a * b) (h1 : a * b ≤ 9223372036854775807) (h : Gd G (K (.sc (.int .i64 (a * b))))) : Gd G (pBin .mul (.sc (.int .i64 a)) (.sc (.int .i64 b)) fun t => K t) := by
 refine g_congr ?_ h
 show K (.sc (.int .i64 (IntKind.i64.wrap (a * b)))) = _
 rw [wrap64 _ h0 h1]
theorem g_eqlS {a b : ByteArray} (h : Gd G (K (.sc (.bool (a.toList == b.toList))))) : Gd G (pBin .eql (.sc (.string a)) (.sc (.string b)) fun t => K t) := h
theorem g_neqS {a b : ByteArray} (h : Gd G (K (.sc (.bool (!(a.toList == b.toList)))))) : Gd G (pBin .neq (.sc (.string a)) (.sc (.string b)) fun t => K t) := h
theorem g_not {b : Bool} (h : Gd G (K (.sc (.bool (!b))))) : Gd G (pUn .not (.sc (.bool b)) fun t => K t) := h
theorem g_letJ {α : Sort _} {γ : Type} {G : Option γ → Prop} {x : α} {f : α → Option γ} (h : Gd G (f x)) : Gd G (letJ x f) := h
theorem g_cT {b : Bool} {x y : Option β} (hb : b = true) (h : Gd G x) : Gd G (pCond (.sc (.bool b)) x y) := by subst hb; exact h
theorem g_cF {b : Bool} {x y : Option β} (hb : b = false) (h : Gd G y) : Gd G (pCond (.sc (.bool b)) x y) := by subst hb; exact h
theorem g_c {b : Bool} {x y : Option β} (h1 : b = true → Gd G x) (h2 : b = false → Gd G y) : Gd G (pCond (.sc (.bool b)) x y) := by
 cases b
 ·exact h2 rfl
 ·exact h1 rfl
theorem g_cD {p : Prop} [Decidable p] {x y : Option β} (h1 : p → Gd G x) (h2 : ¬ p → Gd G y) : Gd G (pCond (.sc (.bool (decide p))) x y) := g_c (fun h => h1 (of_decide_eq_true h)) (fun h => h2 (of_decide_eq_false h))
theorem g_cN {b : Bool} {x y : Option β} (h1 : b = false → Gd G x) (h2 : b = true → Gd G y) : Gd G (pCond (.sc (.bool (!b))) x y) := g_c (fun h => h1 (by simpa using h)) (fun h => h2 (by simpa using h))
theorem g_cND {p : Prop} [Decidable p] {x y : Option β} (h1 : ¬ p → Gd G x) (h2 : p → Gd G y) : Gd G (pCond (.sc (.bool (!decide p))) x y) := g_cN (fun h => h1 (of_decide_eq_false h)) (fun h => h2 (of_decide_eq_true h))
theorem g_cDT {p : Prop} [Decidable p] {x y : Option β} (hp : p) (h : Gd G x) : Gd G (pCond (.sc (.bool (decide p))) x y) := g_cT (decide_eq_true hp) h
theorem g_cDF {p : Prop} [Decidable p] {x y : Option β} (hp : ¬ p) (h : Gd G y) : Gd G (pCond (.sc (.bool (decide p))) x y) := g_cF (decide_eq_false hp) h
theorem g_gd {b t : Bool} {m : (AV → Heap → Option β) → Option β} (h1 : b = t → Gd G (m fun x H => KH x H)) (h2 : b = (!t) → Gd G (KH (.sc undef) H)) : Gd G (pGuard (.sc (.bool b)) t H m fun x H => KH x H) := by
 cases b <;> cases t <;> first | exact h1 rfl | exact h2 rfl
theorem g_gY {b t : Bool} {m : (AV → Heap → Option β) → Option β} (hb : b = t) (h : Gd G (m fun x H => KH x H)) : Gd G (pGuard (.sc (.bool b)) t H m fun x H => KH x H) := by
 subst hb
 cases b <;> exact h
theorem g_gN {b t : Bool} {m : (AV → Heap → Option β) → Option β} (hb : b = !t) (h : Gd G (KH (.sc undef) H)) : Gd G (pGuard (.sc (.bool b)) t H m fun x H => KH x H) := by
 subst hb
 cases t <;> exact h
theorem g_gU {t : Bool} {m : (AV → Heap → Option β) → Option β} (h : Gd G (KH (.sc undef) H)) : Gd G (pGuard (.sc undef) t H m fun x H => KH x H) := h
theorem g_pT {b : Bool} {x y : AV} (hb : b = true) (h : Gd G (K x)) : Gd G (pPick (.sc (.bool b)) x y fun t => K t) := by
 subst hb
 cases x <;> cases y <;> exact h
theorem g_pF {b : Bool} {x y : AV} (hb : b = false) (h : Gd G (K y)) : Gd G (pPick (.sc (.bool b)) x y fun t => K t) := by
 subst hb
 cases x <;> cases y <;> exact h
theorem g_pS {b : Bool} {x y : AV} (h1 : b = true → Gd G (K x)) (h2 : b = false → Gd G (K y)) : Gd G (pPick (.sc (.bool b)) x y fun t => K t) := by
 cases hb : b
 ·exact g_pF rfl (h2 hb)
 ·exact g_pT rfl (h1 hb)
inductive VwC (L : List Ck) : Nat → AV → AV → Prop
 | sc {d : Nat} {v : Value} : VwC L (d + 1) (.sc v) (.sc v)
 | nl {d : Nat} : VwC L (d + 1) .nl (.ro 0 [])
 | ro {d n : Nat} {cs : List AV} : VwC L (d + 1) (.ro n cs) (.ro n cs)
 | rp {d : Nat} {cs : List AV} : VwC L (d + 1) (.rp cs) (.rp cs)
 | own {d : Nat} {x t : AV} {ty : Nat} {L' : List Ck} : 6 ≤ d → Pk L (.own x ty t) L' → VwC L d x t
 | shr {d : Nat} {x t y t' : AV} {ty ty' : Nat} {L' : List Ck} : 6 ≤ d → Pk L (.shr x ty t y ty' t') L' → VwC L d y t'
end
inductive VwL (L : List Ck) : Nat → List AV → List AV → Prop
 | nil {d : Nat} : VwL L d [] []
 | cons {d : Nat} {x t : AV} {xs ts : List AV} : VwC L d x t → VwL L d xs ts → VwL L d (x :: xs) (t :: ts)
 | agg {d : Nat} {cs ds xs ts : List AV} : VwL L d cs ds → VwL L (d + 1) xs ts → VwL L (d + 1) (.agg cs :: xs) (.agg ds :: ts)
 | aggF {d : Nat} {cs xs ts : List AV} : cs.all isFl = true → VwL L (d + 2) xs ts → VwL L (d + 2) (.agg cs :: xs) (.agg cs :: ts)
 | sl {d i k w : Nat} {cs ds xs ts : List AV} {a : Bool} {L' : List Ck} : Pk L (.blk i cs a) L' → cs.length = k * w → VwL L d cs ds → VwL L (d + 1) xs ts → VwL L (d + 1) (.sl i 0 k w :: xs) (.ro k ds :: ts)
 | slA {d i o k w : Nat} {cs ds xs ts : List AV} {a : Bool} {L' : List Ck} : Pk L (.blk i cs a) L' → o + k * w ≤ cs.length → VwL L d ((cs.drop o).take (k * w)) ds → VwL L (d + 1) xs ts → VwL L (d + 1) (.sl i o k w :: xs) (.ro k ds :: ts)
 | ptr {d i : Nat} {cs ds xs ts : List AV} {a : Bool} {L' : List Ck} : Pk L (.blk i cs a) L' → VwL L d cs ds → VwL L (d + 1) xs ts → VwL L (d + 1) (.ptr i 0 :: xs) (.rp ds :: ts)
 | fn {d f : Nat} {ps cs ps' cs' xs ts : List AV} : VwL L d ps ps' → VwL L d cs cs' → VwL L (d + 1) xs ts → VwL L (d + 1) (.fn f ps cs :: xs) (.fn f ps' cs' :: ts)
section
variable {β : Type} {n : Nat} {H : Heap} {L L' L1 L2 : List Ck} {G : Option β → Prop} {K : AV → Option β} {KH : AV → Heap → Option β}
theorem VwC.sound (hs : Sep H L) {d : Nat} {x t : AV} (h : VwC L d x t) : viewV H d x = some t := by
 cases h with
 | sc => rfl
 | nl => rfl
 | ro => rfl
 | rp => rfl
 | own hd hp =>
  obtain ⟨_, h1, I, h2, _⟩ := hs.own hp
  exact own_view d _ _ _ I (own_dep 6 d _ _ _ _ h2 (okW_le h1 hd))
 | shr hd hp =>
  obtain ⟨h1, I, h2⟩ := hs.seen hp
  exact own_view d _ _ _ I (own_dep 6 d _ _ _ _ h2 (okW_le h1 hd))
theorem view_cons {d : Nat} {x t : AV} {xs ts : List AV} (h : viewV H d x = some t) (hs : xs.mapM (viewV H d) = some ts) : (x :: xs).mapM (viewV H d) = some (t :: ts) := by
 simp only [List.mapM_cons, h, hs, Option.pure_def, Option.bind_eq_bind, Option.bind_some]
theorem VwL.sound (hs : Sep H L) : ∀ {d : Nat} {xs ts : List AV}, VwL L d xs ts → xs.mapM (viewV H d) = some ts
 | _, _, _, .nil => rfl
 | _, _, _, .cons h q => view_cons (h.sound hs) (q.sound hs)
 | _, _, _, .agg h q => view_cons (by rw [viewV_agg, h.sound hs]; rfl) (q.sound hs)
 | _, _, _, .aggF h q => view_cons (by rw [viewV_agg, fl_view h]; rfl) (q.sound hs)
 | _, _, _, .sl (i := i) (k := k) (w := w) (cs := cs) hp hl h q => view_cons (by
   rw [viewV_sl]
   have hb := hs.blk hp
   have e : rdCells H i 0 (k * w) = some cs := by
    simp only [rdCells, hb, if_true, List.drop_zero, Nat.zero_add, ← hl, Nat.le_refl, List.take_length]
   rw [e, Option.bind_some, h.sound hs]
   rfl) (q.sound hs)
 | _, _, _, .slA (i := i) (o := o) (k := k) (w := w) (cs := cs) hp hl h q => view_cons (by
   rw [viewV_sl]
   have hb := hs.blk hp
   have e : rdCells H i o (k * w) = some ((cs.drop o).take (k * w)) := by
    simp only [rdCells, hb, if_true, hl]
   rw [e, Option.bind_some, h.sound hs]
   rfl) (q.sound hs)
 | _, _, _, .ptr (i := i) (cs := cs) hp h q => view_cons (by
   have hb := hs.blk hp
   show ((H[i]?).bind fun b => (rdCells H i 0 (b.cells.length - 0)).bind fun cs => (cs.mapM (viewV H _)).bind fun vs => some (AV.rp vs)) = _
   rw [hb, Option.bind_some]
   have e : rdCells H i 0 (cs.length - 0) = some cs := by
    simp only [rdCells, hb, if_true, List.drop_zero, Nat.zero_add, Nat.sub_zero, Nat.le_refl, List.take_length]
   show (rdCells H i 0 (cs.length - 0)).bind _ = _
   rw [e, Option.bind_some, h.sound hs]
   rfl) (q.sound hs)
 | _, _, _, .fn (d := d) (ps := ps) (cs := cs) h1 h2 q => view_cons (by
   show ((ps.mapM (viewV H d)).bind fun us => (cs.mapM (viewV H d)).bind fun ws => some (AV.fn _ us ws)) = _
   rw [h1.sound hs, Option.bind_some, h2.sound hs]
   rfl) (q.sound hs)
theorem g_callE {ty : Nat} {f : FuncId} {caps args vs : List AV} {t : AV} (hs : Sep H L) (hh : plainF f = false) (hv : VwL L 8 (args ++ caps) vs) (ht : tree E0 n ty f vs = some t) (h : Gd G (KH (instT ti0 E0.tp H.length ty t).1 (H ++ (instT ti0 E0.tp H.length ty t).2))) : Gd G ((PR n β).call ty (.fn f [] caps) args H fun x H => KH x H) := g_congr (PR_callC hh (hv.sound hs) ht) h
theorem g_callS {ty : Nat} {f : FuncId} {args vs : List AV} {v : Value} (hs : Sep H L) (hh : plainF f = false) (hv : VwL L 8 args vs) (ht : tree E0 n ty f vs = some (.sc v)) (h : Gd G (KH (.sc v) H)) : Gd G ((PR n β).call ty (.fn f [] []) args H fun x H => KH x H) := by
 refine g_callE hs hh (by rw [List.append_nil]; exact hv) ht ?_
 rw [instT_sc, List.append_nil]
 exact h
theorem inst_own {ty m : Nat} {cells : List AV} (hs : Sep H L) (hok : okW ti0 E0.tp 6 ty (.ro m cells)) : isLeaf (instT ti0 E0.tp H.length ty (.ro m cells)).1 = true ∧ Sep (H ++ (instT ti0 E0.tp H.length ty (.ro m cells)).2) (.own (instT ti0 E0.tp H.length ty (.ro m cells)).1 ty (.ro m cells) :: L) := by
 have hl : isLeaf (instT ti0 E0.tp H.length ty (.ro m cells)).1 = true := rfl
 refine ⟨hl, hs.new (J := List.range' H.length (instT ti0 E0.tp H.length ty (.ro m cells)).2.length) ⟨hl, hok, own_inst 6 ty _ H.length hok (Lies_end _ _)⟩ List.nodup_range' fun i hi => ?_⟩
 rw [List.mem_range'_1] at hi
 exact hi.1
theorem g_callO {ty m : Nat} {f : FuncId} {args vs cells : List AV} (hs : Sep H L) (hh : plainF f = false) (hv : VwL L 8 args vs) (ht : tree E0 n ty f vs = some (.ro m cells)) (hok : okW ti0 E0.tp 6 ty (.ro m cells)) (h : ∀ x H', isLeaf x = true → Sep H' (.own x ty (.ro m cells) :: L) → Gd G (KH x H')) : Gd G ((PR n β).call ty (.fn f [] []) args H fun x H => KH x H) := by
 refine g_callE hs hh (by rw [List.append_nil]; exact hv) ht ?_
 obtain ⟨h1, h2⟩ := inst_own hs hok
 exact h _ _ h1 h2
def InsL (ts : List Nat) (cs : List AV) (Φ : List AV → List Ck → Prop) : Prop := ∀ (H : Heap) (L : List Ck), Sep H L → ∃ xs Lx, xs = (instL ti0 E0.tp H.length ts cs).1 ∧ Sep (H ++ (instL ti0 E0.tp H.length ts cs).2) (Lx ++ L) ∧ Φ xs Lx
theorem ins_nil {ts : List Nat} : InsL ts [] fun xs Lx => xs = [] ∧ Lx = [] := fun H L hs => ⟨[], [], rfl, by simpa [instL] using hs, rfl, rfl⟩
theorem ins_sc {ts : List Nat} {v : Value} {cs : List AV} {Φ : List AV → List Ck → Prop} (h : InsL ts.tail cs Φ) : InsL ts (.sc v :: cs) fun xs Lx => ∃ ys, xs = .sc v :: ys ∧ Φ ys Lx := fun H L hs => by
 obtain ⟨ys, Ly, e1, e2, e3⟩ := h H L hs
 refine ⟨.sc v :: ys, Ly, ?_, ?_, ys, rfl, e3⟩
 ·simp only [instL, instT_sc, List.length_nil, Nat.add_zero]
  rw [e1]
 ·simpa only [instL, instT_sc, List.length_nil, Nat.add_zero, List.nil_append] using e2
theorem ins_ro {ts : List Nat} {m ty : Nat} {cells cs : List AV} {Φ : List AV → List Ck → Prop} (hty : ts.headD 0 = ty) (hok : okW ti0 E0.tp 6 ty (.ro m cells)) (h : InsL ts.tail cs Φ) : InsL ts (.ro m cells :: cs) fun xs Lx => ∃ x ys Ly, isLeaf x = true ∧ xs = x :: ys ∧ Lx = Ly ++ [.own x ty (.ro m cells)] ∧ Φ ys Ly := fun H L hs => by
 subst hty
 obtain ⟨h1, h2⟩ := inst_own hs hok
 obtain ⟨ys, Ly, e1, e2, e3⟩ := h _ _ h2
 refine ⟨_ :: ys, Ly ++ [.own _ (ts.headD 0) (.ro m cells)], ?_, ?_, _, ys, Ly, h1, rfl, rfl, e3⟩
 ·simp only [instL]
  rw [e1, List.length_append]
 ·simp only [instL]
  rw [List.length_append, List.append_assoc] at e2
  rw [List.append_assoc]
  exact e2
theorem ins_agg {ts cty : List Nat} {cs rest : List AV} {Φ Ψ : List AV → List Ck → Prop} (hty : ∃ i, ti0 (ts.headD 0) = some i ∧ i.cty = cty) (h1 : InsL cty cs Ψ) (h : InsL ts.tail rest Φ) : InsL ts (.agg cs :: rest) fun xs Lx => ∃ ys zs Ly Lz, xs = .agg ys :: zs ∧ Lx = Lz ++ Ly ∧ Ψ ys Ly ∧ Φ zs Lz := fun H L hs => by
 obtain ⟨i, hi, rfl⟩ := hty
 obtain ⟨ys, Ly, a1, a2, a3⟩ := h1 H L hs
 obtain ⟨zs, Lz, b1, b2, b3⟩ := h _ _ a2
 refine ⟨.agg ys :: zs, Lz ++ Ly, ?_, ?_, ys, zs, Ly, Lz, rfl, rfl, a3, b3⟩
 ·simp only [instL, instT_agg, hi, Option.getD_some]
  rw [a1, b1, List.length_append]
 ·simp only [instL, instT_agg, hi, Option.getD_some]
  rw [List.length_append, List.append_assoc] at b2
  rw [List.append_assoc]
  exact b2
theorem g_callA {ty : Nat} {f : FuncId} {args vs cs : List AV} {cty : List Nat} {Φ : List AV → List Ck → Prop} (hs : Sep H L) (hh : plainF f = false) (hv : VwL L 8 args vs) (ht : tree E0 n ty f vs = some (.agg cs)) (hty : ∃ i, ti0 ty = some i ∧ i.cty = cty) (hi : InsL cty cs Φ) (h : ∀ xs Lx H', Φ xs Lx → Sep H' (Lx ++ L) → Gd G (KH (.agg xs) H')) : Gd G ((PR n β).call ty (.fn f [] []) args H fun x H => KH x H) := by
 refine g_callE hs hh (by rw [List.append_nil]; exact hv) ht ?_
 obtain ⟨i, e1, rfl⟩ := hty
 obtain ⟨xs, Lx, a1, a2, a3⟩ := hi H L hs
 rw [instT_agg, e1, Option.getD_some, ← a1]
 exact h _ _ _ a3 a2
theorem g_callT {ty : Nat} {f : FuncId} {args vs cs : List AV} {tys : List Nat} {Φ : List AV → List Ck → Prop} (hs : Sep H L) (hh : plainF f = false) (hv : VwL L 8 args vs) (ht : tree E0 n ty f vs = some (.tup cs)) (hty : E0.tp ty = some tys) (hi : InsL tys cs Φ) (h : ∀ xs Lx H', Φ xs Lx → Sep H' (Lx ++ L) → Gd G (KH (.tup xs) H')) : Gd G ((PR n β).call ty (.fn f [] []) args H fun x H => KH x H) := by
 refine g_callE hs hh (by rw [List.append_nil]; exact hv) ht ?_
 obtain ⟨xs, Lx, a1, a2, a3⟩ := hi H L hs
 rw [instT_tup, hty, Option.getD_some, ← a1]
 exact h _ _ _ a3 a2
theorem g_hm {ty : Nat} {f : FuncId} {caps args : List AV} (hh : E0.hm f = true) (he : E0.ext f = none) (h : Gd G (evalFn E0 n β f (args ++ caps) H fun x H => KH x H)) : Gd G ((PR n β).call ty (.fn f [] caps) args H fun x H => KH x H) := by
 refine g_congr ?_ h
 show callF E0 (evalFn E0 n) ty f ([] ++ args ++ caps) H _ = _
 simp only [callF, he, hh, List.nil_append, if_true]
def Src (H : Heap) (L : List Ck) (sz : Nat) (cty : List Nat) (y : AV) (m : Nat) (cb : List AV) (L' : List Ck) : Prop :=
 ∀ I, SepI H L I → ∃ raw J R X, lenA y = some m ∧ content H sz y = some raw ∧ raw.all isLeaf = true ∧ raw.length = m * sz ∧ ownL (ownT ti0 E0.tp H 5) (List.replicate m cty).flatten raw = some (cb, J) ∧ SepI H L' R ∧ I.Perm (J ++ (R ++ X))
def isSc : AV → Bool
 | .sc v => leafV v
 | _ => false
theorem isSc_leaf {l : List AV} (h : l.all isSc = true) : l.all isLeaf = true := by
 rw [List.all_eq_true] at h ⊢
 intro x hx
 have := h x hx
 cases x <;> simp_all [isSc, isLeaf]
theorem ownL_isSc {d : Nat} : ∀ {ts : List Nat} {l : List AV}, ts.length = l.length → l.all isSc = true → ownL (ownT ti0 E0.tp H (d + 1)) ts l = some (l, [])
 | [], [], _, _ => rfl
 | t :: ts, x :: l, h, hl => by
  rw [List.all_cons, Bool.and_eq_true] at hl
  cases x with
  | sc v =>
   rw [ownL, ownT_sc, Option.bind_some, ownL_isSc (ts := ts) (l := l) (by simpa using h) hl.2]
   rfl
  | _ => simp [isSc] at hl
 | [], _ :: _, h, _ => by simp at h
 | _ :: _, [], h, _ => by simp at h
theorem src_ro {sz m : Nat} {cty : List Nat} {cells : List AV} (hc : cty.length = sz) (hl : cells.length = m * sz) (hf : cells.all isSc = true) : Src H L sz cty (.ro m cells) m cells L := fun I h => by
 refine ⟨cells, [], I, [], rfl, ?_, isSc_leaf hf, hl, ownL_isSc (by simp [hc, hl]) hf, h, by simp⟩
 show (if cells.length = m * sz then some cells else none) = _
 rw [if_pos hl]
theorem src_nl {sz : Nat} {cty : List Nat} : Src H L sz cty .nl 0 [] L := fun I h => ⟨[], [], I, [], rfl, rfl, rfl, by simp, by simp [ownL], h, by simp⟩
theorem src_blk {sz m i : Nat} {cty : List Nat} {raw cb : List AV} {a : Bool} (hp : Pk L (.blk i raw a) L1) (hl : raw.length = m * sz) (hf : raw.all isLeaf = true) (hr : OwnR L1 raw (List.replicate m cty).flatten cb L2) (hok : okLW (okW ti0 E0.tp 5) (List.replicate m cty).flatten cb) : Src H L sz cty (.sl i 0 m sz) m cb L2 := fun I h => by
 obtain ⟨J, R, ⟨rfl, h1⟩, h2, h3⟩ := hp.sepI h
 obtain ⟨J', R', g1, g2, g3⟩ := hr.sound h2 5 hok
 refine ⟨raw, J', R', [i], rfl, ?_, hf, hl, g1, g2, ?_⟩
 ·show (if sz = sz then rdCells H i 0 (m * sz) else none) = _
  simp only [if_true, rdCells, h1, Nat.zero_add, List.drop_zero, ← hl, Nat.le_refl, List.take_length]
 ·refine h3.trans (List.perm_append_comm.trans ?_)
  rw [← List.append_assoc]
  exact List.Perm.append_right [i] g3
theorem own_raw {d ty m : Nat} {x : AV} {cells : List AV} {I : List Nat} {i j : TI} (h1 : ti0 ty = some i) (h2 : ti0 i.elem = some j) (h : ownT ti0 E0.tp H (d + 1) ty x = some (.ro m cells, I)) :
  (x = .nl ∧ m = 0 ∧ cells = [] ∧ I = []) ∨ ∃ id off raw J b, x = .sl id off m j.size ∧ I = id :: J ∧ H[id]? = some b ∧ b.live = true ∧ b.app = true ∧ rdCells H id off (m * j.size) = some raw ∧ ownL (ownT ti0 E0.tp H d) (List.replicate m j.cty).flatten raw = some (cells, J) := by
 cases x with
 | sc v => simp [ownT] at h
 | nl =>
  have := (Option.some.inj h)
  simp only [Prod.mk.injEq, AV.ro.injEq] at this
  obtain ⟨⟨rfl, rfl⟩, rfl⟩ := this
  exact .inl ⟨rfl, rfl, rfl, rfl⟩
 | sl id off n z =>
  rw [ownT_sl] at h
  simp only [h1, h2, Option.bind_some] at h
  split at h
  case isFalse => cases h
  rename_i hz
  split at h
  case isFalse => cases h
  rename_i ha
  simp only [Option.bind_eq_some_iff] at h
  obtain ⟨cs, h4, q, h5, h6⟩ := h
  simp only [Option.some.injEq, Prod.mk.injEq, AV.ro.injEq] at h6
  obtain ⟨⟨rfl, rfl⟩, rfl⟩ := h6
  subst hz
  obtain ⟨hl, b, hb, hlv, _, _⟩ := rd_live h4
  have ha' : b.app = true := by simpa only [isApp, hb] using ha
  exact .inr ⟨id, off, cs, q.2, b, rfl, rfl, hb, hlv, ha', h4, h5⟩
 | agg cs =>
  rw [ownT_agg] at h
  simp only [Option.bind_eq_some_iff] at h
  obtain ⟨i, h1, q, h2, h3⟩ := h
  simp at h3
 | tup cs =>
  rw [ownT_tup] at h
  simp only [Option.bind_eq_some_iff] at h
  obtain ⟨i, h1, q, h2, h3⟩ := h
  simp at h3
 | _ => simp [ownT] at h
theorem ownL_leaf {f : Nat → AV → Option (AV × List Nat)} : ∀ {ts : List Nat} {xs : List AV} {p : List AV × List Nat}, (∀ t x a I, f t x = some (a, I) → isFl a = true → isLeaf x = true) → ownL f ts xs = some p → p.1.all isFl = true → xs.all isLeaf = true
 | ts, [], p, _, h, _ => rfl
 | [], _ :: _, p, _, h, _ => by simp [ownL] at h
 | t :: ts, x :: xs, p, hf, h, hl => by
  obtain ⟨a, b, h1, h2, rfl⟩ := ownL_cons h
  rw [List.all_cons, Bool.and_eq_true] at hl
  rw [List.all_cons, Bool.and_eq_true]
  exact ⟨hf t x a.1 a.2 h1 hl.1, ownL_leaf hf h2 hl.2⟩
theorem own_leaf {d ty : Nat} {x a : AV} {I : List Nat} (h : ownT ti0 E0.tp H d ty x = some (a, I)) (hl : isFl a = true) : isLeaf x = true := by
 cases d with
 | zero => simp [ownT] at h
 | succ d =>
  cases x with
  | sc v =>
   obtain ⟨rfl, _⟩ : AV.sc v = a ∧ [] = I := by simpa [ownT] using h
   exact hl
  | nl => rfl
  | sl id off n z => rfl
  | agg cs =>
   rw [ownT_agg] at h
   simp only [Option.bind_eq_some_iff] at h
   obtain ⟨i, h1, q, h2, h3⟩ := h
   obtain ⟨rfl, _⟩ : AV.agg q.1 = a ∧ q.2 = I := by simpa using h3
   cases hl
  | tup cs =>
   rw [ownT_tup] at h
   simp only [Option.bind_eq_some_iff] at h
   obtain ⟨i, h1, q, h2, h3⟩ := h
   obtain ⟨rfl, _⟩ : AV.tup q.1 = a ∧ q.2 = I := by simpa using h3
   cases hl
  | _ => simp [ownT] at h
theorem src_own {sz m ty : Nat} {cty : List Nat} {y : AV} {cb : List AV} (hty : ∃ i j, ti0 ty = some i ∧ ti0 i.elem = some j ∧ j.size = sz ∧ j.cty = cty) (hp : Pk L (.own y ty (.ro m cb)) L2) (hf : cb.all isFl = true) : Src H L sz cty y m cb L2 := fun I h => by
 obtain ⟨i, j, e1, e2, rfl, rfl⟩ := hty
 obtain ⟨J, R, ⟨_, _, h1⟩, h2, h3⟩ := hp.sepI h
 rcases own_raw e1 e2 h1 with ⟨rfl, rfl, rfl, rfl⟩ | ⟨id, off, raw, J', b, rfl, rfl, hb, hlv, ha, h4, h5⟩
 ·exact ⟨[], [], R, [], rfl, rfl, rfl, by simp, by simp [ownL], h2, by simpa using h3⟩
 ·have hl := (rd_live h4).1
  refine ⟨raw, J', R, [id], rfl, ?_, ownL_leaf (fun t x a I h hl => own_leaf h hl) h5 hf, hl, h5, h2, ?_⟩
  ·show (if j.size = j.size then rdCells H id off (m * j.size) else none) = _
   rw [if_pos rfl, h4]
  ·refine h3.trans ?_
   rw [← List.append_assoc]
   exact (List.perm_append_comm (l₁ := [id]) (l₂ := J' ++ R))
theorem src_keep {sz m ty : Nat} {cty : List Nat} {y : AV} {cb : List AV} (hty : ∃ i j, ti0 ty = some i ∧ ti0 i.elem = some j ∧ j.size = sz ∧ j.cty = cty) (hp : Pk L (.own y ty (.ro m cb)) L2) (hf : cb.all isSc = true) : Src H L sz cty y m cb L := fun I h => by
 obtain ⟨i, j, e1, e2, rfl, rfl⟩ := hty
 obtain ⟨J, R, ⟨_, _, h1⟩, h2, h3⟩ := hp.sepI h
 rcases own_raw e1 e2 h1 with ⟨rfl, rfl, rfl, rfl⟩ | ⟨id, off, raw, J', b, rfl, rfl, hb, hlv, ha, h4, h5⟩
 ·exact ⟨[], [], I, [], rfl, rfl, rfl, by simp, by simp [ownL], h, by simp⟩
 ·have hl := (rd_live h4).1
  have key : ∀ {ts : List Nat} {xs cells : List AV} {I : List Nat}, ownL (ownT ti0 E0.tp H 5) ts xs = some (cells, I) → cells.all isSc = true → xs = cells ∧ I = [] := by
   intro ts xs
   induction xs generalizing ts with
   | nil =>
    intro cells I h _
    obtain ⟨_, e⟩ := ownL_nil h
    cases e
    exact ⟨rfl, rfl⟩
   | cons x xs ih =>
    intro cells I h hs
    cases ts with
    | nil => simp [ownL] at h
    | cons t ts =>
     obtain ⟨a, b, h1, h2, e⟩ := ownL_cons h
     cases e
     rw [List.all_cons, Bool.and_eq_true] at hs
     obtain ⟨rfl, e2⟩ := ih h2 hs.2
     have hx : x = a.1 ∧ a.2 = [] := by
      obtain ⟨a1, a2⟩ := a
      cases a1 with
      | sc v =>
       have := own_sc h1
       subst this
       have : (AV.sc v, ([] : List Nat)) = (.sc v, a2) := Option.some.inj h1
       cases this
       exact ⟨rfl, rfl⟩
      | _ => simp [isSc] at hs
     refine ⟨by rw [hx.1], by rw [hx.2, e2]; rfl⟩
  obtain ⟨rfl, rfl⟩ := key h5 hf
  refine ⟨raw, [], I, [], rfl, ?_, isSc_leaf hf, hl, h5, h, by simp⟩
  show (if j.size = j.size then rdCells H id off (m * j.size) else none) = _
  rw [if_pos rfl, h4]
theorem g_appX {sz bytes k m ty : Nat} {cty : List Nat} {x y : AV} {ca cb : List AV} (hs : Sep H L) (hty : ∃ i j, ti0 ty = some i ∧ ti0 i.elem = some j ∧ j.size = sz ∧ j.cty = cty) (hx : Pk L (.own x ty (.ro k ca)) L1) (hy : Src H L1 sz cty y m cb L2) (hok : okLW (okW ti0 E0.tp 5) (List.replicate m cty).flatten cb) (hb : (k + m) * bytes ≤ 140737488355328)
  (h : ∀ x' H', isLeaf x' = true → Sep H' (.own x' ty (.ro (k + m) (ca ++ cb)) :: L2) → (∃ id cx cy, x' = .sl id 0 (k + m) sz ∧ H'[id]? = some ⟨cx ++ cy, true, true⟩ ∧ content H sz y = some cy ∧ cx.length = k * sz) → Gd G (KH x' H')) : Gd G (pApp sz bytes x y H fun x H => KH x H) := by
 obtain ⟨i, j, e1, e2, rfl, rfl⟩ := hty
 obtain ⟨I, hI, hn⟩ := hs
 obtain ⟨J, R, ⟨hlx, hox, h1⟩, h2, h3⟩ := hx.sepI hI
 obtain ⟨raw, Jy, Ry, X, q1, q2, q3, q4, q5, q6, q7⟩ := hy R h2
 have hn' : (J ++ (Jy ++ (Ry ++ X))).Nodup := (h3.trans (List.Perm.append_left J q7)).nodup_iff.1 hn
 have hRlt : ∀ i ∈ Jy ++ Ry, i < H.length := fun z hz => by
  refine h2.lt z ?_
  refine q7.symm.mem_iff.1 ?_
  rw [← List.append_assoc]
  exact List.mem_append_left _ hz
 have hok' : okW ti0 E0.tp 6 ty (.ro (k + m) (ca ++ cb)) := by
  obtain ⟨i', j', g1, g2, g3, g4⟩ := hox
  rw [e1] at g1
  cases g1
  rw [e2] at g2
  cases g2
  refine ⟨i, j, e1, e2, ?_, ?_⟩
  ·have := okLW_len hok
   have hq := ownL_len q5
   rw [List.length_append, g3, hq.2, q4, Nat.add_mul]
  ·rw [← List.replicate_append_replicate, List.flatten_append]
   exact okLW_append g4 hok
 have fin : ∀ (H1 : Heap) (cx : List AV) (Jx : List Nat), H1.length = H.length → cx.all isLeaf = true ∨ True → ownL (ownT ti0 E0.tp H1 5) (List.replicate k j.cty).flatten cx = some (ca, Jx) → ownL (ownT ti0 E0.tp H1 5) (List.replicate m j.cty).flatten raw = some (cb, Jy) → SepI H1 L2 Ry → (Jx ++ (Jy ++ (Ry ++ X))).Nodup → (∀ i ∈ Jx, i < H1.length) → cx.length = k * j.size →
   Sep (H1 ++ [⟨cx ++ raw, true, true⟩]) (.own (.sl H1.length 0 (k + m) j.size) ty (.ro (k + m) (ca ++ cb)) :: L2) := by
  intro H1 cx Jx hl1 _ a1 a2 a3 a4 a5 a6
  have hg : (H1 ++ [(⟨cx ++ raw, true, true⟩ : Blk)])[H1.length]? = some ⟨cx ++ raw, true, true⟩ := by
   rw [List.getElem?_append_right (Nat.le_refl _), Nat.sub_self]
   rfl
  have fr : ∀ z, z < H1.length → (H1 ++ [(⟨cx ++ raw, true, true⟩ : Blk)])[z]? = H1[z]? := fun z hz => List.getElem?_append_left hz
  have b1 := ownL_frame (f' := ownT ti0 E0.tp (H1 ++ [⟨cx ++ raw, true, true⟩]) 5) (fun t x a h hi => own_frame 5 t x a h fun z hz => fr z (a5 z (hi z hz))) a1
  have b2 := ownL_frame (f' := ownT ti0 E0.tp (H1 ++ [⟨cx ++ raw, true, true⟩]) 5) (fun t x a h hi => own_frame 5 t x a h fun z hz => fr z (by rw [hl1]; exact hRlt z (List.mem_append_left _ (hi z hz)))) a2
  have b3 := a3.grow [⟨cx ++ raw, true, true⟩]
  have b4 := ownL_append b1 b2
  rw [← List.flatten_append, List.replicate_append_replicate] at b4
  refine ⟨(H1.length :: (Jx ++ Jy)) ++ Ry, ⟨H1.length :: (Jx ++ Jy), Ry, rfl, ⟨rfl, hok', ?_⟩, b3⟩, ?_⟩
  ·rw [ownT_sl]
   have ha : isApp (H1 ++ [⟨cx ++ raw, true, true⟩]) H1.length = true := by simp only [isApp, hg]
   have hrd : rdCells (H1 ++ [⟨cx ++ raw, true, true⟩]) H1.length 0 ((k + m) * j.size) = some (cx ++ raw) := by
    have : (cx ++ raw).length = (k + m) * j.size := by rw [List.length_append, a6, q4, Nat.add_mul]
    simp only [rdCells, hg, if_true, Nat.zero_add, List.drop_zero, ← this, Nat.le_refl, List.take_length]
   simp only [e1, e2, Option.bind_some, if_true, ha, hrd, b4]
  ·rw [List.cons_append, List.nodup_cons]
   have hn3 : (Jx ++ Jy ++ Ry).Nodup := by
    rw [List.append_assoc]
    have : (Jx ++ (Jy ++ Ry) ++ X).Nodup := by simpa only [List.append_assoc] using a4
    exact (List.nodup_append.1 this).1
   refine ⟨fun hm => ?_, hn3⟩
   rcases List.mem_append.1 hm with hm | hm
   ·rcases List.mem_append.1 hm with hm | hm
    ·exact Nat.lt_irrefl _ (a5 _ hm)
    ·have := hRlt _ (List.mem_append_left _ hm)
     omega
   ·have := hRlt _ (List.mem_append_right _ hm)
    omega
 rcases own_raw e1 e2 h1 with ⟨rfl, rfl, rfl, rfl⟩ | ⟨id, off, cx, J', b, rfl, rfl, hb1, hlv, hap, h4, h5⟩
 ·have hc : content H j.size .nl = some [] := rfl
  refine g_congr (b := KH (.sl H.length 0 (0 + m) j.size) (H ++ [⟨[] ++ raw, true, true⟩])) ?_ (h _ _ rfl (fin H [] [] rfl (.inr trivial) (by simp [ownL]) q5 q6 (by simpa using hn') (by simp) (by simp)) ⟨_, [], raw, rfl, by rw [List.getElem?_append_right (Nat.le_refl _), Nat.sub_self]; rfl, q2, by simp⟩)
  have hl0 : lenA .nl = some 0 := rfl
  have hk0 : kill H .nl = some H := rfl
  simp only [pApp, hl0, Option.bind_some, q1, q2, hc, hk0]
  rw [if_pos hb, if_pos q3]
  rfl
 ·have hc : content H j.size (.sl id off k j.size) = some cx := by
   show (if j.size = j.size then rdCells H id off (k * j.size) else none) = _
   rw [if_pos rfl, h4]
  have hk : kill H (.sl id off k j.size) = some (H.set id { b with live := false }) := by
   show (H[id]?).bind (fun b => if b.app then some (H.set id { b with live := false }) else none) = _
   rw [hb1, Option.bind_some, if_pos hap]
  have hn2 : (id :: (J' ++ (Jy ++ (Ry ++ X)))).Nodup := hn'
  have hnid := (List.nodup_cons.1 hn2).1
  have hset : ∀ z, z ≠ id → (H.set id { b with live := false })[z]? = H[z]? := fun z hz => List.getElem?_set_ne (fun e => hz e.symm)
  have c1 := ownL_frame (f' := ownT ti0 E0.tp (H.set id { b with live := false }) 5) (fun t x a h hi => own_frame 5 t x a h fun z hz => hset z (fun e => hnid (e ▸ List.mem_append_left _ (hi z hz)))) h5
  have c2 := ownL_frame (f' := ownT ti0 E0.tp (H.set id { b with live := false }) 5) (fun t x a h hi => own_frame 5 t x a h fun z hz => hset z (fun e => hnid (e ▸ List.mem_append_right _ (List.mem_append_left _ (hi z hz))))) q5
  have c3 := q6.frame (H' := H.set id { b with live := false }) fun z hz => hset z (fun e => hnid (e ▸ List.mem_append_right _ (List.mem_append_right _ (List.mem_append_left _ hz))))
  have hJlt : ∀ z ∈ J', z < H.length := fun z hz => own_lt 6 ty _ _ h1 z (List.mem_cons_of_mem _ hz)
  refine g_congr (b := KH (.sl (H.set id { b with live := false }).length 0 (k + m) j.size) (H.set id { b with live := false } ++ [⟨cx ++ raw, true, true⟩])) ?_ (h _ _ rfl (fin _ cx J' (by simp) (.inr trivial) c1 c2 c3 (List.nodup_cons.1 hn2).2 (fun z hz => by rw [List.length_set]; exact hJlt z hz) (rd_live h4).1) ⟨_, cx, raw, rfl, by rw [List.getElem?_append_right (Nat.le_refl _), Nat.sub_self]; rfl, q2, (rd_live h4).1⟩)
  have hl0 : lenA (.sl id off k j.size) = some k := rfl
  simp only [pApp, hl0, Option.bind_some, q1, q2, hc, hk]
  rw [if_pos hb, if_pos q3]
  rfl
theorem g_app {sz bytes k m ty : Nat} {cty : List Nat} {x y : AV} {ca cb : List AV} (hs : Sep H L) (hty : ∃ i j, ti0 ty = some i ∧ ti0 i.elem = some j ∧ j.size = sz ∧ j.cty = cty) (hx : Pk L (.own x ty (.ro k ca)) L1) (hy : Src H L1 sz cty y m cb L2) (hok : okLW (okW ti0 E0.tp 5) (List.replicate m cty).flatten cb) (hb : (k + m) * bytes ≤ 140737488355328)
  (h : ∀ x' H', isLeaf x' = true → Sep H' (.own x' ty (.ro (k + m) (ca ++ cb)) :: L2) → Gd G (KH x' H')) : Gd G (pApp sz bytes x y H fun x H => KH x H) := g_appX hs hty hx hy hok hb fun x' H' h1 h2 _ => h x' H' h1 h2
theorem tree_gd {G : Option AV → Prop} {o : Option AV} (h : Gd G o) : G o := h
theorem ret_tup {ty : Nat} {tys : List Nat} {raw cells : List AV} (hs : Sep H L) (hts : E0.tp ty = some tys) (hr : OwnR L raw tys cells L') (hok : okLW (okW ti0 E0.tp 7) tys cells) : ownTree ti0 E0.tp ty H (.tup raw) = some (.tup cells) := by
 obtain ⟨I, h1, h2⟩ := hs
 obtain ⟨J, R, g1, g2, g3⟩ := hr.sound h1 7 hok
 have hn := (List.nodup_append.1 (g3.nodup_iff.1 h2)).1
 rw [ownTree, ownT_tup, hts, Option.bind_some, g1, Option.bind_some, Option.bind_some, if_pos hn]
theorem ret_agg {ty : Nat} {cty : List Nat} {raw cells : List AV} (hs : Sep H L) (hty : ∃ i, ti0 ty = some i ∧ i.cty = cty) (hr : OwnR L raw cty cells L') (hok : okLW (okW ti0 E0.tp 7) cty cells) : ownTree ti0 E0.tp ty H (.agg raw) = some (.agg cells) := by
 obtain ⟨i, e1, rfl⟩ := hty
 obtain ⟨I, h1, h2⟩ := hs
 obtain ⟨J, R, g1, g2, g3⟩ := hr.sound h1 7 hok
 have hn := (List.nodup_append.1 (g3.nodup_iff.1 h2)).1
 rw [ownTree, ownT_agg, e1, Option.bind_some, g1, Option.bind_some, Option.bind_some, if_pos hn]
theorem ret_own {ty : Nat} {x t : AV} (hs : Sep H L) (hp : Pk L (.own x ty t) L') : ownTree ti0 E0.tp ty H x = some t := by
 obtain ⟨_, h1, I, h2, h3⟩ := hs.own hp
 rw [ownTree, own_dep 6 8 ty x t I h2 (okW_le h1 (by decide)), Option.bind_some, if_pos h3]
theorem g_ret {G : Option AV → Prop} {ty : Nat} {x t : AV} (e : ownTree ti0 E0.tp ty H x = some t) (h : G (some t)) : Gd G (ownTree ti0 E0.tp ty H x) := by
 rw [e]
 exact h
end
end Go.Proofs.Ytejjggnchdldoaa.Abs
set_option linter.unusedVariables false
set_option maxRecDepth 100000
namespace Go.Proofs.Ytejjggnchdldoaa.Abs
open Go
variable {β : Type}
theorem okAg {d ty : Nat} {cty : List Nat} {cs : List AV} (hty : ∃ i, ti0 ty = some i ∧ i.cty = cty) (h : okLW (okW ti0 E0.tp d) cty cs) : okW ti0 E0.tp (d + 1) ty (.agg cs) := by
 obtain ⟨i, hi, rfl⟩ := hty
 exact ⟨i, hi, h⟩
theorem okNl {d ty : Nat} (h : ∃ i j, ti0 ty = some i ∧ ti0 i.elem = some j) : okW ti0 E0.tp (d + 1) ty (.ro 0 []) := by
 obtain ⟨i, j, h1, h2⟩ := h
 exact ⟨i, j, h1, h2, by simp, by simp [okLW]⟩
theorem Gd.both {G : Option β → Prop} {a b : Option β} (h1 : Gd G a) (h2 : a = b) : Gd G (pBoth a b) := by
 rw [pBoth_eq rfl h2.symm]
 exact h1
theorem g_neg {G : Option β → Prop} {K : AV → Option β} {a : Int} (h0 : -9223372036854775808 ≤ -a) (h1 : -a ≤ 9223372036854775807) (h : Gd G (K (.sc (.int .i64 (-a))))) : Gd G (pUn .neg (.sc (.int .i64 a)) fun t => K t) := by
 refine g_congr ?_ h
 show K (.sc (.int .i64 (IntKind.i64.wrap (0 - a)))) = _
 rw [wrap64 _ (by omega) (by omega), Int.zero_sub]
theorem okB6 (s : ByteArray) : okW ti0 E0.tp 6 34 (bytesC s) := okW_bytes (d := 4) tyByteS s
theorem okB5 (s : ByteArray) : okW ti0 E0.tp 5 34 (bytesC s) := okW_bytes (d := 3) tyByteS s
theorem okI6 (l : List Int) : okW ti0 E0.tp 6 41 (intsC l) := okW_flat (d := 4) (fun z : Int => .int .i64 z) tyIntS l
theorem okI5 (l : List Int) : okW ti0 E0.tp 5 41 (intsC l) := okW_flat (d := 3) (fun z : Int => .int .i64 z) tyIntS l
theorem okS6 (l : List ByteArray) : okW ti0 E0.tp 6 93 (strsC l) := okW_flat (d := 4) (fun z : ByteArray => .string z) tyStringS l
theorem okS5 (l : List ByteArray) : okW ti0 E0.tp 5 93 (strsC l) := okW_flat (d := 3) (fun z : ByteArray => .string z) tyStringS l
end Go.Proofs.Ytejjggnchdldoaa.Abs
