/- What the proof needs, part 3: a sound evaluator over trees, the program's functions on it, and what they come to. -/
import Derived.Test.YtejjggnchdldoaaGreatDoorMb
import Derived.Shelf.Strings.IndexAnyAll
import Derived.Shelf.Small.Utf8
import Derived.Lib.TrimUEq
import Derived.Lib.QuoteLoop
import Derived.Laws.RangeAny
import Derived.Laws.Runes
import Derived.WalkKit
import Derived.WalkMore
import Derived.Below
import Derived.LoopTactic
import Derived.Shelf.RegionOpenPlain
import Derived.Test.YtejjggnchdldoaaGreatDoorChecked
import Derived.Shelf.Unicode.ValidAny
import Derived.Shelf.Strings.Split
import Derived.Shelf.Vars
import Derived.Lib.ValidLaws
set_option linter.unusedVariables false
set_option linter.unusedSimpArgs false
set_option maxRecDepth 100000
namespace Go.Proofs.YtejjggnchdldoaaGreatDoor.Abs
open Go
variable {β : Type}
noncomputable def f165_l0 (p : Pr β) (n : Nat)  (k : AV → Heap → Option β) : Nat → AV → AV → AV → AV → Heap → Option β
 | 0, _, _, _, _, _ => none
 | m + 1, t0, t1, t12, t13, H => p.bin .lss t13 t12 fun t14 =>
   p.cond t14
   (p.iadr 2 t0 t13 fun t18 =>
   p.load true 2 t18 H fun t19 =>
   p.iadr 2 t1 t13 fun t22 =>
   p.load true 2 t22 H fun t23 =>
   p.binA .neq [1, 0] t19 t23 fun t24 =>
   p.cond t24
   (k (.sc (.bool false)) H)
   (p.bin .add t13 (.sc (.int .i64 1)) fun t25 =>
   f165_l0 p n  k m t0 t1 t12 t25 H))
   (k (.sc (.bool true)) H)
noncomputable def f165 (p : Pr β) (n : Nat) (a0 a1 : AV) (H : Heap) (k : AV → Heap → Option β) : Option β :=
 p.len a0 fun t7 =>
 p.len a1 fun t9 =>
 p.bin .neq t7 t9 fun t10 =>
 p.cond t10
 (k (.sc (.bool false)) H)
 (p.len a0 fun t12 =>
 f165_l0 p n  k n a0 a1 t12 (.sc (.int .i64 0)) H)
noncomputable def f165_L0 (p : Pr β) (n : Nat)  (k : AV → Heap → Option β) (m : Nat) (tm : Tm) (H : Heap) : Option β :=
 iterC 26 (fun tm H k => evalCode ti0 p o165 26 n (cd c165 [1, 1, 0, 1, 0, 0]) tm H k) (blkK 0 (seqK (fun tm H => evalCode ti0 p o165 26 n (cd c165 [1, 1, 1]) tm H (endK ti0 p Go.Proofs.Tryz.f165.results.toList k)) (endK ti0 p Go.Proofs.Tryz.f165.results.toList k))) m tm H
theorem f165_L0_step (p : Pr β) (n : Nat)  (k : AV → Heap → Option β) (m0 : Nat) (t : Nat → AV) (H : Heap) : f165_L0 p n  k (m0 + 1) (tf 26 0 t) H =
 p.bin .lss (t 13) (t 12) fun t14 =>
 p.cond t14
 (p.iadr 2 (t 0) (t 13) fun t18 =>
 p.load true 2 t18 H fun t19 =>
 p.iadr 2 (t 1) (t 13) fun t22 =>
 p.load true 2 t22 H fun t23 =>
 p.binA .neq [1, 0] t19 t23 fun t24 =>
 p.cond t24
 (k (.sc (.bool false)) H)
 (p.bin .add (t 13) (.sc (.int .i64 1)) fun t25 =>
 f165_L0 p n  k m0 (tf 26 0 (ud [(5, (t 13)), (13, t25), (14, t14), (15, (t 13)), (16, (t 0)), (17, (t 13)), (18, t18), (19, t19), (20, (t 1)), (21, (t 13)), (22, t22), (23, t23), (24, t24), (25, t25)] t)) H))
 (k (.sc (.bool true)) H) := by kernel_rfl
theorem f165_l0_eq (p : Pr β) (n : Nat)  (k : AV → Heap → Option β)   (m0 : Nat) : ∀ (t : Nat → AV) (H : Heap), f165_L0 p n  k m0 (tf 26 0 t) H = f165_l0 p n  k m0 (t 0) (t 1) (t 12) (t 13) H := by
 induction m0 with
 | zero => intros; rfl
 | succ m0 ih =>
  intro t H
  rw [f165_L0_step]
  simp only [ih]
  kernel_rfl
theorem f165_raw (p : Pr β) (n : Nat) (a0 a1 : AV) (H : Heap) (k : AV → Heap → Option β) : evalBody ti0 p n ⟨c165, 26, Go.Proofs.Tryz.f165.results.toList, o165⟩ [a0, a1] H k =
 p.len a0 fun t7 =>
 p.len a1 fun t9 =>
 p.bin .neq t7 t9 fun t10 =>
 p.cond t10
 (k (.sc (.bool false)) H)
 (p.len a0 fun t12 =>
 f165_L0 p n  k n (tf 26 0 (ud [(0, a0), (1, a1), (4, (.sc (.bool false))), (6, a0), (7, t7), (8, a1), (9, t9), (10, t10), (11, a0), (12, t12), (13, (.sc (.int .i64 0)))] ut)) H) := by kernel_rfl
theorem f165_body (p : Pr β) (n : Nat) (a0 a1 : AV) (H : Heap) (k : AV → Heap → Option β) : evalBody ti0 p n ⟨c165, 26, Go.Proofs.Tryz.f165.results.toList, o165⟩ [a0, a1] H k = f165 p n a0 a1 H k := by
 rw [f165_raw]
 simp only [f165_l0_eq]
 kernel_rfl
noncomputable def f166_l0 (p : Pr β) (n : Nat)  (k : AV → Heap → Option β) : Nat → AV → AV → AV → AV → Heap → Option β
 | 0, _, _, _, _, _ => none
 | m + 1, t0, t1, t12, t13, H => p.bin .lss t13 t12 fun t14 =>
   p.cond t14
   (p.iadr 1 t0 t13 fun t18 =>
   p.load false 1 t18 H fun t19 =>
   p.iadr 1 t1 t13 fun t22 =>
   p.load false 1 t22 H fun t23 =>
   p.bin .neq t19 t23 fun t24 =>
   p.cond t24
   (k (.sc (.bool false)) H)
   (p.bin .add t13 (.sc (.int .i64 1)) fun t25 =>
   f166_l0 p n  k m t0 t1 t12 t25 H))
   (k (.sc (.bool true)) H)
noncomputable def f166 (p : Pr β) (n : Nat) (a0 a1 : AV) (H : Heap) (k : AV → Heap → Option β) : Option β :=
 p.len a0 fun t7 =>
 p.len a1 fun t9 =>
 p.bin .neq t7 t9 fun t10 =>
 p.cond t10
 (k (.sc (.bool false)) H)
 (p.len a0 fun t12 =>
 f166_l0 p n  k n a0 a1 t12 (.sc (.int .i64 0)) H)
noncomputable def f166_L0 (p : Pr β) (n : Nat)  (k : AV → Heap → Option β) (m : Nat) (tm : Tm) (H : Heap) : Option β :=
 iterC 26 (fun tm H k => evalCode ti0 p o166 26 n (cd c166 [1, 1, 0, 1, 0, 0]) tm H k) (blkK 0 (seqK (fun tm H => evalCode ti0 p o166 26 n (cd c166 [1, 1, 1]) tm H (endK ti0 p Go.Proofs.Tryz.f166.results.toList k)) (endK ti0 p Go.Proofs.Tryz.f166.results.toList k))) m tm H
theorem f166_L0_step (p : Pr β) (n : Nat)  (k : AV → Heap → Option β) (m0 : Nat) (t : Nat → AV) (H : Heap) : f166_L0 p n  k (m0 + 1) (tf 26 0 t) H =
 p.bin .lss (t 13) (t 12) fun t14 =>
 p.cond t14
 (p.iadr 1 (t 0) (t 13) fun t18 =>
 p.load false 1 t18 H fun t19 =>
 p.iadr 1 (t 1) (t 13) fun t22 =>
 p.load false 1 t22 H fun t23 =>
 p.bin .neq t19 t23 fun t24 =>
 p.cond t24
 (k (.sc (.bool false)) H)
 (p.bin .add (t 13) (.sc (.int .i64 1)) fun t25 =>
 f166_L0 p n  k m0 (tf 26 0 (ud [(5, (t 13)), (13, t25), (14, t14), (15, (t 13)), (16, (t 0)), (17, (t 13)), (18, t18), (19, t19), (20, (t 1)), (21, (t 13)), (22, t22), (23, t23), (24, t24), (25, t25)] t)) H))
 (k (.sc (.bool true)) H) := by kernel_rfl
theorem f166_l0_eq (p : Pr β) (n : Nat)  (k : AV → Heap → Option β)   (m0 : Nat) : ∀ (t : Nat → AV) (H : Heap), f166_L0 p n  k m0 (tf 26 0 t) H = f166_l0 p n  k m0 (t 0) (t 1) (t 12) (t 13) H := by
 induction m0 with
 | zero => intros; rfl
 | succ m0 ih =>
  intro t H
  rw [f166_L0_step]
  simp only [ih]
  kernel_rfl
theorem f166_raw (p : Pr β) (n : Nat) (a0 a1 : AV) (H : Heap) (k : AV → Heap → Option β) : evalBody ti0 p n ⟨c166, 26, Go.Proofs.Tryz.f166.results.toList, o166⟩ [a0, a1] H k =
 p.len a0 fun t7 =>
 p.len a1 fun t9 =>
 p.bin .neq t7 t9 fun t10 =>
 p.cond t10
 (k (.sc (.bool false)) H)
 (p.len a0 fun t12 =>
 f166_L0 p n  k n (tf 26 0 (ud [(0, a0), (1, a1), (4, (.sc (.bool false))), (6, a0), (7, t7), (8, a1), (9, t9), (10, t10), (11, a0), (12, t12), (13, (.sc (.int .i64 0)))] ut)) H) := by kernel_rfl
theorem f166_body (p : Pr β) (n : Nat) (a0 a1 : AV) (H : Heap) (k : AV → Heap → Option β) : evalBody ti0 p n ⟨c166, 26, Go.Proofs.Tryz.f166.results.toList, o166⟩ [a0, a1] H k = f166 p n a0 a1 H k := by
 rw [f166_raw]
 simp only [f166_l0_eq]
 kernel_rfl
noncomputable def f167_l0 (p : Pr β) (n : Nat)  (k : AV → Heap → Option β) : Nat → AV → AV → AV → AV → Heap → Option β
 | 0, _, _, _, _, _ => none
 | m + 1, t0, t1, t12, t13, H => p.bin .lss t13 t12 fun t14 =>
   p.cond t14
   (p.iadr 1 t0 t13 fun t18 =>
   p.load false 1 t18 H fun t19 =>
   p.iadr 1 t1 t13 fun t22 =>
   p.load false 1 t22 H fun t23 =>
   p.bin .neq t19 t23 fun t24 =>
   p.cond t24
   (k (.sc (.bool false)) H)
   (p.bin .add t13 (.sc (.int .i64 1)) fun t25 =>
   f167_l0 p n  k m t0 t1 t12 t25 H))
   (k (.sc (.bool true)) H)
noncomputable def f167 (p : Pr β) (n : Nat) (a0 a1 : AV) (H : Heap) (k : AV → Heap → Option β) : Option β :=
 p.len a0 fun t7 =>
 p.len a1 fun t9 =>
 p.bin .neq t7 t9 fun t10 =>
 p.cond t10
 (k (.sc (.bool false)) H)
 (p.len a0 fun t12 =>
 f167_l0 p n  k n a0 a1 t12 (.sc (.int .i64 0)) H)
noncomputable def f167_L0 (p : Pr β) (n : Nat)  (k : AV → Heap → Option β) (m : Nat) (tm : Tm) (H : Heap) : Option β :=
 iterC 26 (fun tm H k => evalCode ti0 p o167 26 n (cd c167 [1, 1, 0, 1, 0, 0]) tm H k) (blkK 0 (seqK (fun tm H => evalCode ti0 p o167 26 n (cd c167 [1, 1, 1]) tm H (endK ti0 p Go.Proofs.Tryz.f167.results.toList k)) (endK ti0 p Go.Proofs.Tryz.f167.results.toList k))) m tm H
theorem f167_L0_step (p : Pr β) (n : Nat)  (k : AV → Heap → Option β) (m0 : Nat) (t : Nat → AV) (H : Heap) : f167_L0 p n  k (m0 + 1) (tf 26 0 t) H =
 p.bin .lss (t 13) (t 12) fun t14 =>
 p.cond t14
 (p.iadr 1 (t 0) (t 13) fun t18 =>
 p.load false 1 t18 H fun t19 =>
 p.iadr 1 (t 1) (t 13) fun t22 =>
 p.load false 1 t22 H fun t23 =>
 p.bin .neq t19 t23 fun t24 =>
 p.cond t24
 (k (.sc (.bool false)) H)
 (p.bin .add (t 13) (.sc (.int .i64 1)) fun t25 =>
 f167_L0 p n  k m0 (tf 26 0 (ud [(5, (t 13)), (13, t25), (14, t14), (15, (t 13)), (16, (t 0)), (17, (t 13)), (18, t18), (19, t19), (20, (t 1)), (21, (t 13)), (22, t22), (23, t23), (24, t24), (25, t25)] t)) H))
 (k (.sc (.bool true)) H) := by kernel_rfl
theorem f167_l0_eq (p : Pr β) (n : Nat)  (k : AV → Heap → Option β)   (m0 : Nat) : ∀ (t : Nat → AV) (H : Heap), f167_L0 p n  k m0 (tf 26 0 t) H = f167_l0 p n  k m0 (t 0) (t 1) (t 12) (t 13) H := by
 induction m0 with
 | zero => intros; rfl
 | succ m0 ih =>
  intro t H
  rw [f167_L0_step]
  simp only [ih]
  kernel_rfl
theorem f167_raw (p : Pr β) (n : Nat) (a0 a1 : AV) (H : Heap) (k : AV → Heap → Option β) : evalBody ti0 p n ⟨c167, 26, Go.Proofs.Tryz.f167.results.toList, o167⟩ [a0, a1] H k =
 p.len a0 fun t7 =>
 p.len a1 fun t9 =>
 p.bin .neq t7 t9 fun t10 =>
 p.cond t10
 (k (.sc (.bool false)) H)
 (p.len a0 fun t12 =>
 f167_L0 p n  k n (tf 26 0 (ud [(0, a0), (1, a1), (4, (.sc (.bool false))), (6, a0), (7, t7), (8, a1), (9, t9), (10, t10), (11, a0), (12, t12), (13, (.sc (.int .i64 0)))] ut)) H) := by kernel_rfl
theorem f167_body (p : Pr β) (n : Nat) (a0 a1 : AV) (H : Heap) (k : AV → Heap → Option β) : evalBody ti0 p n ⟨c167, 26, Go.Proofs.Tryz.f167.results.toList, o167⟩ [a0, a1] H k = f167 p n a0 a1 H k := by
 rw [f167_raw]
 simp only [f167_l0_eq]
 kernel_rfl
noncomputable def f151 (p : Pr β) (n : Nat) (a0 a1 : AV) (H : Heap) (k : AV → Heap → Option β) : Option β :=
 p.box a0 H fun t2 H =>
 p.box a1 H fun t3 H =>
 p.fadr 0 t2 fun t9 =>
 p.load false 1 t9 H fun t10 =>
 p.fadr 0 t3 fun t11 =>
 p.load false 1 t11 H fun t12 =>
 p.bin .eql t10 t12 fun t13 =>
 p.guard t13 true H (fun k' => p.fadr 1 t2 fun t' => k' t' H) fun t15 H =>
 p.guard t13 true H (fun k' => p.load false 1 t15 H fun t' => k' t' H) fun t16 H =>
 p.guard t13 true H (fun k' => p.fadr 1 t3 fun t' => k' t' H) fun t17 H =>
 p.guard t13 true H (fun k' => p.load false 1 t17 H fun t' => k' t' H) fun t18 H =>
 p.guard t13 true H (fun k' => p.binB .eql t16 t18 fun t' => k' t' H) fun t19 H =>
 p.pick t13 t19 (.sc (.bool false)) fun t20 =>
 p.guard t20 true H (fun k' => p.fadr 2 t2 fun t' => k' t' H) fun t22 H =>
 p.guard t20 true H (fun k' => p.load false 1 t22 H fun t' => k' t' H) fun t23 H =>
 p.guard t20 true H (fun k' => p.fadr 2 t3 fun t' => k' t' H) fun t24 H =>
 p.guard t20 true H (fun k' => p.load false 1 t24 H fun t' => k' t' H) fun t25 H =>
 p.guard t20 true H (fun k' => p.bin .eql t23 t25 fun t' => k' t' H) fun t26 H =>
 p.pick t20 t26 (.sc (.bool false)) fun t27 =>
 p.guard t27 true H (fun k' => p.fadr 3 t2 fun t' => k' t' H) fun t29 H =>
 p.guard t27 true H (fun k' => p.load false 1 t29 H fun t' => k' t' H) fun t30 H =>
 p.guard t27 true H (fun k' => p.fadr 3 t3 fun t' => k' t' H) fun t31 H =>
 p.guard t27 true H (fun k' => p.load false 1 t31 H fun t' => k' t' H) fun t32 H =>
 p.guard t27 true H (fun k' => p.binB .eql t30 t32 fun t' => k' t' H) fun t33 H =>
 p.pick t27 t33 (.sc (.bool false)) fun t34 =>
 p.guard t34 true H (fun k' => p.fadr 4 t2 fun t' => k' t' H) fun t36 H =>
 p.guard t34 true H (fun k' => p.load false 1 t36 H fun t' => k' t' H) fun t37 H =>
 p.guard t34 true H (fun k' => p.fadr 4 t3 fun t' => k' t' H) fun t38 H =>
 p.guard t34 true H (fun k' => p.load false 1 t38 H fun t' => k' t' H) fun t39 H =>
 p.guard t34 true H (fun k' => p.bin .eql t37 t39 fun t' => k' t' H) fun t40 H =>
 p.pick t34 t40 (.sc (.bool false)) fun t41 =>
 p.guard t41 true H (fun k' => p.fadr 5 t2 fun t' => k' t' H) fun t43 H =>
 p.guard t41 true H (fun k' => p.load false 1 t43 H fun t' => k' t' H) fun t44 H =>
 p.guard t41 true H (fun k' => p.fadr 5 t3 fun t' => k' t' H) fun t45 H =>
 p.guard t41 true H (fun k' => p.load false 1 t45 H fun t' => k' t' H) fun t46 H =>
 p.guard t41 true H (fun k' => p.bin .eql t44 t46 fun t' => k' t' H) fun t47 H =>
 p.pick t41 t47 (.sc (.bool false)) fun t48 =>
 p.guard t48 true H (fun k' => p.fadr 6 t2 fun t' => k' t' H) fun t50 H =>
 p.guard t48 true H (fun k' => p.load false 1 t50 H fun t' => k' t' H) fun t51 H =>
 p.guard t48 true H (fun k' => p.fadr 6 t3 fun t' => k' t' H) fun t52 H =>
 p.guard t48 true H (fun k' => p.load false 1 t52 H fun t' => k' t' H) fun t53 H =>
 p.guard t48 true H (fun k' => p.call 4 (.fn 164 [] []) [t51, t53] H fun t' H => k' t' H) fun t54 H =>
 p.pick t48 t54 (.sc (.bool false)) fun t55 =>
 p.fadr 7 t2 fun t56 =>
 p.load false 1 t56 H fun t57 =>
 p.fadr 7 t3 fun t58 =>
 p.load false 1 t58 H fun t59 =>
 p.bin .eql t57 t59 fun t60 =>
 p.guard t60 true H (fun k' => p.fadr 8 t2 fun t' => k' t' H) fun t62 H =>
 p.guard t60 true H (fun k' => p.load false 1 t62 H fun t' => k' t' H) fun t63 H =>
 p.guard t60 true H (fun k' => p.fadr 8 t3 fun t' => k' t' H) fun t64 H =>
 p.guard t60 true H (fun k' => p.load false 1 t64 H fun t' => k' t' H) fun t65 H =>
 p.guard t60 true H (fun k' => p.bin .eql t63 t65 fun t' => k' t' H) fun t66 H =>
 p.pick t60 t66 (.sc (.bool false)) fun t67 =>
 p.guard t67 true H (fun k' => p.fadr 9 t2 fun t' => k' t' H) fun t69 H =>
 p.guard t67 true H (fun k' => p.load false 1 t69 H fun t' => k' t' H) fun t70 H =>
 p.guard t67 true H (fun k' => p.fadr 9 t3 fun t' => k' t' H) fun t71 H =>
 p.guard t67 true H (fun k' => p.load false 1 t71 H fun t' => k' t' H) fun t72 H =>
 p.guard t67 true H (fun k' => p.binB .eql t70 t72 fun t' => k' t' H) fun t73 H =>
 p.pick t67 t73 (.sc (.bool false)) fun t74 =>
 p.guard t74 true H (fun k' => p.fadr 10 t2 fun t' => k' t' H) fun t76 H =>
 p.guard t74 true H (fun k' => p.load false 1 t76 H fun t' => k' t' H) fun t77 H =>
 p.guard t74 true H (fun k' => p.fadr 10 t3 fun t' => k' t' H) fun t78 H =>
 p.guard t74 true H (fun k' => p.load false 1 t78 H fun t' => k' t' H) fun t79 H =>
 p.guard t74 true H (fun k' => p.bin .eql t77 t79 fun t' => k' t' H) fun t80 H =>
 p.pick t74 t80 (.sc (.bool false)) fun t81 =>
 p.guard t81 true H (fun k' => p.fadr 16 t2 fun t' => k' t' H) fun t83 H =>
 p.guard t81 true H (fun k' => p.load false 1 t83 H fun t' => k' t' H) fun t84 H =>
 p.guard t81 true H (fun k' => p.fadr 16 t3 fun t' => k' t' H) fun t85 H =>
 p.guard t81 true H (fun k' => p.load false 1 t85 H fun t' => k' t' H) fun t86 H =>
 p.guard t81 true H (fun k' => p.binB .eql t84 t86 fun t' => k' t' H) fun t87 H =>
 p.pick t81 t87 (.sc (.bool false)) fun t88 =>
 p.guard t88 true H (fun k' => p.fadr 17 t2 fun t' => k' t' H) fun t90 H =>
 p.guard t88 true H (fun k' => p.load false 1 t90 H fun t' => k' t' H) fun t91 H =>
 p.guard t88 true H (fun k' => p.fadr 17 t3 fun t' => k' t' H) fun t92 H =>
 p.guard t88 true H (fun k' => p.load false 1 t92 H fun t' => k' t' H) fun t93 H =>
 p.guard t88 true H (fun k' => p.bin .eql t91 t93 fun t' => k' t' H) fun t94 H =>
 p.pick t88 t94 (.sc (.bool false)) fun t95 =>
 p.guard t95 true H (fun k' => p.fadr 18 t2 fun t' => k' t' H) fun t97 H =>
 p.guard t95 true H (fun k' => p.load false 1 t97 H fun t' => k' t' H) fun t98 H =>
 p.guard t95 true H (fun k' => p.fadr 18 t3 fun t' => k' t' H) fun t99 H =>
 p.guard t95 true H (fun k' => p.load false 1 t99 H fun t' => k' t' H) fun t100 H =>
 p.guard t95 true H (fun k' => p.binB .eql t98 t100 fun t' => k' t' H) fun t101 H =>
 p.pick t95 t101 (.sc (.bool false)) fun t102 =>
 p.guard t102 true H (fun k' => p.fadr 19 t2 fun t' => k' t' H) fun t104 H =>
 p.guard t102 true H (fun k' => p.load false 1 t104 H fun t' => k' t' H) fun t105 H =>
 p.guard t102 true H (fun k' => p.fadr 19 t3 fun t' => k' t' H) fun t106 H =>
 p.guard t102 true H (fun k' => p.load false 1 t106 H fun t' => k' t' H) fun t107 H =>
 p.guard t102 true H (fun k' => p.call 4 (.fn 164 [] []) [t105, t107] H fun t' H => k' t' H) fun t108 H =>
 p.pick t102 t108 (.sc (.bool false)) fun t109 =>
 p.fadr 11 t2 fun t110 =>
 p.load false 1 t110 H fun t111 =>
 p.fadr 11 t3 fun t112 =>
 p.load false 1 t112 H fun t113 =>
 p.binB .eql t111 t113 fun t114 =>
 p.guard t114 true H (fun k' => p.fadr 12 t2 fun t' => k' t' H) fun t116 H =>
 p.guard t114 true H (fun k' => p.load false 1 t116 H fun t' => k' t' H) fun t117 H =>
 p.guard t114 true H (fun k' => p.fadr 12 t3 fun t' => k' t' H) fun t118 H =>
 p.guard t114 true H (fun k' => p.load false 1 t118 H fun t' => k' t' H) fun t119 H =>
 p.guard t114 true H (fun k' => p.bin .eql t117 t119 fun t' => k' t' H) fun t120 H =>
 p.pick t114 t120 (.sc (.bool false)) fun t121 =>
 p.guard t121 true H (fun k' => p.fadr 13 t2 fun t' => k' t' H) fun t123 H =>
 p.guard t121 true H (fun k' => p.load false 1 t123 H fun t' => k' t' H) fun t124 H =>
 p.guard t121 true H (fun k' => p.fadr 13 t3 fun t' => k' t' H) fun t125 H =>
 p.guard t121 true H (fun k' => p.load false 1 t125 H fun t' => k' t' H) fun t126 H =>
 p.guard t121 true H (fun k' => p.call 4 (.fn 164 [] []) [t124, t126] H fun t' H => k' t' H) fun t127 H =>
 p.pick t121 t127 (.sc (.bool false)) fun t128 =>
 p.guard t128 true H (fun k' => p.fadr 14 t2 fun t' => k' t' H) fun t130 H =>
 p.guard t128 true H (fun k' => p.load false 1 t130 H fun t' => k' t' H) fun t131 H =>
 p.guard t128 true H (fun k' => p.fadr 14 t3 fun t' => k' t' H) fun t132 H =>
 p.guard t128 true H (fun k' => p.load false 1 t132 H fun t' => k' t' H) fun t133 H =>
 p.guard t128 true H (fun k' => p.bin .eql t131 t133 fun t' => k' t' H) fun t134 H =>
 p.pick t128 t134 (.sc (.bool false)) fun t135 =>
 p.guard t135 true H (fun k' => p.fadr 15 t2 fun t' => k' t' H) fun t137 H =>
 p.guard t135 true H (fun k' => p.load false 1 t137 H fun t' => k' t' H) fun t138 H =>
 p.guard t135 true H (fun k' => p.fadr 15 t3 fun t' => k' t' H) fun t139 H =>
 p.guard t135 true H (fun k' => p.load false 1 t139 H fun t' => k' t' H) fun t140 H =>
 p.guard t135 true H (fun k' => p.binB .eql t138 t140 fun t' => k' t' H) fun t141 H =>
 p.pick t135 t141 (.sc (.bool false)) fun t142 =>
 p.fadr 22 t2 fun t143 =>
 p.load false 1 t143 H fun t144 =>
 p.fadr 22 t3 fun t145 =>
 p.load false 1 t145 H fun t146 =>
 p.call 4 (.fn 165 [] []) [t144, t146] H fun t147 H =>
 p.guard t147 true H (fun k' => p.fadr 23 t2 fun t' => k' t' H) fun t149 H =>
 p.guard t147 true H (fun k' => p.load false 1 t149 H fun t' => k' t' H) fun t150 H =>
 p.guard t147 true H (fun k' => p.fadr 23 t3 fun t' => k' t' H) fun t151 H =>
 p.guard t147 true H (fun k' => p.load false 1 t151 H fun t' => k' t' H) fun t152 H =>
 p.guard t147 true H (fun k' => p.call 4 (.fn 166 [] []) [t150, t152] H fun t' H => k' t' H) fun t153 H =>
 p.pick t147 t153 (.sc (.bool false)) fun t154 =>
 p.guard t154 true H (fun k' => p.fadr 24 t2 fun t' => k' t' H) fun t156 H =>
 p.guard t154 true H (fun k' => p.load false 1 t156 H fun t' => k' t' H) fun t157 H =>
 p.guard t154 true H (fun k' => p.fadr 24 t3 fun t' => k' t' H) fun t158 H =>
 p.guard t154 true H (fun k' => p.load false 1 t158 H fun t' => k' t' H) fun t159 H =>
 p.guard t154 true H (fun k' => p.call 4 (.fn 167 [] []) [t157, t159] H fun t' H => k' t' H) fun t160 H =>
 p.pick t154 t160 (.sc (.bool false)) fun t161 =>
 p.guard t55 true H (fun k' => k' t109 H) fun t164 H =>
 p.pick t55 t164 (.sc (.bool false)) fun t165 =>
 p.guard t165 true H (fun k' => k' t142 H) fun t167 H =>
 p.pick t165 t167 (.sc (.bool false)) fun t168 =>
 p.guard t168 true H (fun k' => k' t161 H) fun t170 H =>
 p.pick t168 t170 (.sc (.bool false)) fun t171 =>
 p.guard t171 true H (fun k' => p.fadr 20 t2 fun t' => k' t' H) fun t173 H =>
 p.guard t171 true H (fun k' => p.load false 1 t173 H fun t' => k' t' H) fun t174 H =>
 p.guard t171 true H (fun k' => p.fadr 20 t3 fun t' => k' t' H) fun t175 H =>
 p.guard t171 true H (fun k' => p.load false 1 t175 H fun t' => k' t' H) fun t176 H =>
 p.guard t171 true H (fun k' => p.bin .eql t174 t176 fun t' => k' t' H) fun t177 H =>
 p.pick t171 t177 (.sc (.bool false)) fun t178 =>
 p.guard t178 true H (fun k' => p.fadr 21 t2 fun t' => k' t' H) fun t180 H =>
 p.guard t178 true H (fun k' => p.load false 1 t180 H fun t' => k' t' H) fun t181 H =>
 p.guard t178 true H (fun k' => p.fadr 21 t3 fun t' => k' t' H) fun t182 H =>
 p.guard t178 true H (fun k' => p.load false 1 t182 H fun t' => k' t' H) fun t183 H =>
 p.guard t178 true H (fun k' => p.binB .eql t181 t183 fun t' => k' t' H) fun t184 H =>
 p.pick t178 t184 (.sc (.bool false)) fun t185 =>
 k t185 H
theorem f151_body (p : Pr β) (n : Nat) (a0 a1 : AV) (H : Heap) (k : AV → Heap → Option β) : evalBody ti0 p n ⟨c151, 186, Go.Proofs.Tryz.f151.results.toList, o151⟩ [a0, a1] H k = f151 p n a0 a1 H k := by kernel_rfl
noncomputable def f153 (p : Pr β) (n : Nat) (a0 : AV) (H : Heap) (k : AV → Heap → Option β) : Option β :=
 p.box a0 H fun t1 H =>
 p.fadr 11 t1 fun t4 =>
 p.load false 1 t4 H fun t5 =>
 p.un .not t5 fun t6 =>
 p.guard t6 false H (fun k' => p.fadr 12 t1 fun t' => k' t' H) fun t8 H =>
 p.guard t6 false H (fun k' => p.load false 1 t8 H fun t' => k' t' H) fun t9 H =>
 p.guard t6 false H (fun k' => p.call 4 (.fn 148 [] []) [t9] H fun t' H => k' t' H) fun t10 H =>
 p.guard t6 false H (fun k' => k' t10 H) fun t11 H =>
 p.guard t11 true H (fun k' => p.fadr 13 t1 fun t' => k' t' H) fun t12 H =>
 p.guard t11 true H (fun k' => p.load false 1 t12 H fun t' => k' t' H) fun t13 H =>
 p.guard t11 true H (fun k' => p.len t13 fun t' => k' t' H) fun t14 H =>
 p.guard t11 true H (fun k' => p.bin .leq t14 (.sc (.int .i64 40)) fun t' => k' t' H) fun t15 H =>
 p.guard t6 false H (fun k' => p.pick t11 t15 (.sc (.bool false)) fun t' => k' t' H) fun t16 H =>
 p.guard t6 false H (fun k' => k' t16 H) fun t17 H =>
 p.guard t17 true H (fun k' => p.fadr 14 t1 fun t' => k' t' H) fun t18 H =>
 p.guard t17 true H (fun k' => p.load false 1 t18 H fun t' => k' t' H) fun t19 H =>
 p.guard t17 true H (fun k' => p.call 4 (.fn 149 [] []) [t19] H fun t' H => k' t' H) fun t20 H =>
 p.guard t6 false H (fun k' => p.pick t17 t20 (.sc (.bool false)) fun t' => k' t' H) fun t21 H =>
 p.pick t6 (.sc (.bool true)) t21 fun t22 =>
 p.fadr 8 t1 fun t23 =>
 p.load false 1 t23 H fun t24 =>
 p.call 4 (.fn 114 [] []) [t24, (.sc (.int .i64 0)), (.sc (.int .i64 255))] H fun t25 H =>
 p.guard t25 true H (fun k' => p.fadr 7 t1 fun t' => k' t' H) fun t27 H =>
 p.guard t25 true H (fun k' => p.load false 1 t27 H fun t' => k' t' H) fun t28 H =>
 p.guard t25 true H (fun k' => p.call 4 (.fn 143 [] []) [t28] H fun t' H => k' t' H) fun t29 H =>
 p.pick t25 t29 (.sc (.bool false)) fun t30 =>
 p.guard t30 true H (fun k' => p.fadr 10 t1 fun t' => k' t' H) fun t32 H =>
 p.guard t30 true H (fun k' => p.load false 1 t32 H fun t' => k' t' H) fun t33 H =>
 p.guard t30 true H (fun k' => p.call 4 (.fn 125 [] []) [t33] H fun t' H => k' t' H) fun t34 H =>
 p.pick t30 t34 (.sc (.bool false)) fun t35 =>
 p.guard t35 true H (fun k' => k' t22 H) fun t37 H =>
 p.pick t35 t37 (.sc (.bool false)) fun t38 =>
 p.guard t38 true H (fun k' => p.fadr 17 t1 fun t' => k' t' H) fun t40 H =>
 p.guard t38 true H (fun k' => p.load false 1 t40 H fun t' => k' t' H) fun t41 H =>
 p.guard t38 true H (fun k' => p.call 4 (.fn 143 [] []) [t41] H fun t' H => k' t' H) fun t42 H =>
 p.pick t38 t42 (.sc (.bool false)) fun t43 =>
 p.guard t43 true H (fun k' => p.fadr 19 t1 fun t' => k' t' H) fun t45 H =>
 p.guard t43 true H (fun k' => p.load false 1 t45 H fun t' => k' t' H) fun t46 H =>
 p.guard t43 true H (fun k' => p.len t46 fun t' => k' t' H) fun t47 H =>
 p.guard t43 true H (fun k' => p.bin .leq t47 (.sc (.int .i64 60)) fun t' => k' t' H) fun t48 H =>
 p.pick t43 t48 (.sc (.bool false)) fun t49 =>
 k t49 H
theorem f153_body (p : Pr β) (n : Nat) (a0 : AV) (H : Heap) (k : AV → Heap → Option β) : evalBody ti0 p n ⟨c153, 50, Go.Proofs.Tryz.f153.results.toList, o153⟩ [a0] H k = f153 p n a0 H k := by kernel_rfl
noncomputable def f173 (p : Pr β) (n : Nat) (a0 a1 : AV) (H : Heap) (k : AV → Heap → Option β) : Option β :=
 p.call 4 (.fn 162 [] []) [a0, (.sc (.string ⟨#[43, 35]⟩))] H fun t6 H =>
 p.un .not t6 fun t7 =>
 p.guard t7 false H (fun k' => k' a0 H) fun t9 H =>
 p.guard t7 false H (fun k' => p.bin .eql t9 (.sc (.string ⟨#[43]⟩)) fun t' => k' t' H) fun t10 H =>
 p.pick t7 (.sc (.bool true)) t10 fun t11 =>
 p.guard t11 false H (fun k' => k' a0 H) fun t13 H =>
 p.guard t11 false H (fun k' => p.bin .eql t13 (.sc (.string ⟨#[35]⟩)) fun t' => k' t' H) fun t14 H =>
 p.guard t11 false H (fun k' => k' t14 H) fun t15 H =>
 p.guard t15 true H (fun k' => k' a1 H) fun t16 H =>
 p.guard t11 false H (fun k' => p.pick t15 t16 (.sc (.bool false)) fun t' => k' t' H) fun t17 H =>
 p.pick t11 (.sc (.bool true)) t17 fun t18 =>
 k t18 H
theorem f173_body (p : Pr β) (n : Nat) (a0 a1 : AV) (H : Heap) (k : AV → Heap → Option β) : evalBody ti0 p n ⟨c173, 19, Go.Proofs.Tryz.f173.results.toList, o173⟩ [a0, a1] H k = f173 p n a0 a1 H k := by kernel_rfl
noncomputable def f168_l0 (p : Pr β) (n : Nat)  (k : AV → Heap → Option β) : Nat → AV → AV → AV → AV → AV → Heap → Option β
 | 0, _, _, _, _, _, _ => none
 | m + 1, t0, t3, t8, t9, t10, H => p.bin .lss t10 t9 fun t11 =>
   p.cond t11
   (p.iadr 1 t8 t10 fun t13 =>
   p.load false 1 t13 H fun t14 =>
   p.len t3 fun t18 =>
   p.bin .sub t18 (.sc (.int .i64 1)) fun t19 =>
   p.bin .eql t10 t19 fun t20 =>
   p.call 4 (.fn 173 [] []) [t14, t20] H fun t21 H =>
   p.un .not t21 fun t22 =>
   p.cond t22
   (k (.sc (.bool false)) H)
   (p.bin .add t10 (.sc (.int .i64 1)) fun t23 =>
   f168_l0 p n  k m t0 t3 t8 t9 t23 H))
   (p.call 4 (.fn 143 [] []) [t0] H fun t25 H =>
   p.guard t25 true H (fun k' => k' t0 H) fun t27 H =>
   p.guard t25 true H (fun k' => p.bin .neq t27 (.sc (.string ⟨#[]⟩)) fun t' => k' t' H) fun t28 H =>
   p.pick t25 t28 (.sc (.bool false)) fun t29 =>
   p.guard t29 true H (fun k' => k' t3 H) fun t31 H =>
   p.guard t29 true H (fun k' => p.len t31 fun t' => k' t' H) fun t32 H =>
   p.guard t29 true H (fun k' => p.bin .leq t32 (.sc (.int .i64 6)) fun t' => k' t' H) fun t33 H =>
   p.pick t29 t33 (.sc (.bool false)) fun t34 =>
   k t34 H)
noncomputable def f168 (p : Pr β) (n : Nat) (a0 : AV) (H : Heap) (k : AV → Heap → Option β) : Option β :=
 p.call 64 (.fn 163 [] []) [a0] H fun t7 H =>
 p.len t7 fun t9 =>
 f168_l0 p n  k n a0 t7 t7 t9 (.sc (.int .i64 0)) H
noncomputable def f168_L0 (p : Pr β) (n : Nat)  (k : AV → Heap → Option β) (m : Nat) (tm : Tm) (H : Heap) : Option β :=
 iterC 35 (fun tm H k => evalCode ti0 p o168 35 n (cd c168 [1, 1, 0, 1, 0, 0]) tm H k) (blkK 0 (seqK (fun tm H => evalCode ti0 p o168 35 n (cd c168 [1, 1, 1]) tm H (endK ti0 p Go.Proofs.Tryz.f168.results.toList k)) (endK ti0 p Go.Proofs.Tryz.f168.results.toList k))) m tm H
theorem f168_L0_step (p : Pr β) (n : Nat)  (k : AV → Heap → Option β) (m0 : Nat) (t : Nat → AV) (H : Heap) : f168_L0 p n  k (m0 + 1) (tf 35 0 t) H =
 p.bin .lss (t 10) (t 9) fun t11 =>
 p.cond t11
 (p.iadr 1 (t 8) (t 10) fun t13 =>
 p.load false 1 t13 H fun t14 =>
 p.len (t 3) fun t18 =>
 p.bin .sub t18 (.sc (.int .i64 1)) fun t19 =>
 p.bin .eql (t 10) t19 fun t20 =>
 p.call 4 (.fn 173 [] []) [t14, t20] H fun t21 H =>
 p.un .not t21 fun t22 =>
 p.cond t22
 (k (.sc (.bool false)) H)
 (p.bin .add (t 10) (.sc (.int .i64 1)) fun t23 =>
 f168_L0 p n  k m0 (tf 35 0 (ud [(4, (t 10)), (5, t14), (10, t23), (11, t11), (12, (t 10)), (13, t13), (14, t14), (15, t14), (16, (t 10)), (17, (t 3)), (18, t18), (19, t19), (20, t20), (21, t21), (22, t22), (23, t23)] t)) H))
 (p.call 4 (.fn 143 [] []) [(t 0)] H fun t25 H =>
 p.guard t25 true H (fun k' => k' (t 0) H) fun t27 H =>
 p.guard t25 true H (fun k' => p.bin .neq t27 (.sc (.string ⟨#[]⟩)) fun t' => k' t' H) fun t28 H =>
 p.pick t25 t28 (.sc (.bool false)) fun t29 =>
 p.guard t29 true H (fun k' => k' (t 3) H) fun t31 H =>
 p.guard t29 true H (fun k' => p.len t31 fun t' => k' t' H) fun t32 H =>
 p.guard t29 true H (fun k' => p.bin .leq t32 (.sc (.int .i64 6)) fun t' => k' t' H) fun t33 H =>
 p.pick t29 t33 (.sc (.bool false)) fun t34 =>
 k t34 H) := by kernel_rfl
theorem f168_l0_eq (p : Pr β) (n : Nat)  (k : AV → Heap → Option β)   (m0 : Nat) : ∀ (t : Nat → AV) (H : Heap), f168_L0 p n  k m0 (tf 35 0 t) H = f168_l0 p n  k m0 (t 0) (t 3) (t 8) (t 9) (t 10) H := by
 induction m0 with
 | zero => intros; rfl
 | succ m0 ih =>
  intro t H
  rw [f168_L0_step]
  simp only [ih]
  kernel_rfl
theorem f168_raw (p : Pr β) (n : Nat) (a0 : AV) (H : Heap) (k : AV → Heap → Option β) : evalBody ti0 p n ⟨c168, 35, Go.Proofs.Tryz.f168.results.toList, o168⟩ [a0] H k =
 p.call 64 (.fn 163 [] []) [a0] H fun t7 H =>
 p.len t7 fun t9 =>
 f168_L0 p n  k n (tf 35 0 (ud [(0, a0), (2, (.sc (.bool false))), (3, t7), (6, a0), (7, t7), (8, t7), (9, t9), (10, (.sc (.int .i64 0)))] ut)) H := by kernel_rfl
theorem f168_body (p : Pr β) (n : Nat) (a0 : AV) (H : Heap) (k : AV → Heap → Option β) : evalBody ti0 p n ⟨c168, 35, Go.Proofs.Tryz.f168.results.toList, o168⟩ [a0] H k = f168 p n a0 H k := by
 rw [f168_raw]
 simp only [f168_l0_eq]
 kernel_rfl
noncomputable def f154_l2 (p : Pr β) (n : Nat)  (k : AV → Heap → Option β) : Nat → AV → AV → AV → AV → Heap → Option β
 | 0, _, _, _, _, _ => none
 | m + 1, t1, t39, t40, t41, H => p.bin .lss t41 t40 fun t42 =>
   p.cond t42
   (p.iadr 1 t39 t41 fun t43 =>
   p.load false 1 t43 H fun t44 =>
   p.call 4 (.fn 149 [] []) [t44] H fun t46 H =>
   p.un .not t46 fun t47 =>
   p.guard t47 true H (fun k' => k' t44 H) fun t49 H =>
   p.guard t47 true H (fun k' => p.bin .neq t49 (.sc (.int .i64 128)) fun t' => k' t' H) fun t50 H =>
   p.pick t47 t50 (.sc (.bool false)) fun t51 =>
   p.cond t51
   (k (.sc (.bool false)) H)
   (p.bin .add t41 (.sc (.int .i64 1)) fun t52 =>
   f154_l2 p n  k m t1 t39 t40 t52 H))
   (p.fadr 22 t1 fun t53 =>
   p.load false 1 t53 H fun t54 =>
   p.len t54 fun t55 =>
   p.fadr 23 t1 fun t56 =>
   p.load false 1 t56 H fun t57 =>
   p.len t57 fun t58 =>
   p.bin .add t55 t58 fun t59 =>
   p.fadr 24 t1 fun t60 =>
   p.load false 1 t60 H fun t61 =>
   p.len t61 fun t62 =>
   p.bin .add t59 t62 fun t63 =>
   p.call 4 (.fn 114 [] []) [t63, (.sc (.int .i64 1)), (.sc (.int .i64 4))] H fun t64 H =>
   k t64 H)
noncomputable def f154_l1 (p : Pr β) (n : Nat)  (k : AV → Heap → Option β) : Nat → AV → AV → AV → AV → Heap → Option β
 | 0, _, _, _, _, _ => none
 | m + 1, t1, t28, t29, t30, H => p.bin .lss t30 t29 fun t31 =>
   p.cond t31
   (p.iadr 1 t28 t30 fun t32 =>
   p.load false 1 t32 H fun t33 =>
   p.call 4 (.fn 168 [] []) [t33] H fun t35 H =>
   p.un .not t35 fun t36 =>
   p.cond t36
   (k (.sc (.bool false)) H)
   (p.bin .add t30 (.sc (.int .i64 1)) fun t37 =>
   f154_l1 p n  k m t1 t28 t29 t37 H))
   (p.fadr 24 t1 fun t38 =>
   p.load false 1 t38 H fun t39 =>
   p.len t39 fun t40 =>
   f154_l2 p n  k n t1 t39 t40 (.sc (.int .i64 0)) H)
noncomputable def f154_l0 (p : Pr β) (n : Nat)  (k : AV → Heap → Option β) : Nat → AV → AV → AV → AV → Heap → Option β
 | 0, _, _, _, _, _ => none
 | m + 1, t1, t10, t11, t12, H => p.bin .lss t12 t11 fun t13 =>
   p.cond t13
   (p.iadr 2 t10 t12 fun t14 =>
   p.load true 2 t14 H fun t15 =>
   p.new [(.sc (.string ⟨#[]⟩)), (.sc (.int .i64 0))] H fun t4 H =>
   p.store 2 t4 t15 H fun H =>
   p.fadr 0 t4 fun t16 =>
   p.load false 1 t16 H fun t17 =>
   p.call 4 (.fn 168 [] []) [t17] H fun t18 H =>
   p.un .not t18 fun t19 =>
   p.guard t19 false H (fun k' => p.fadr 1 t4 fun t' => k' t' H) fun t21 H =>
   p.guard t19 false H (fun k' => p.load false 1 t21 H fun t' => k' t' H) fun t22 H =>
   p.guard t19 false H (fun k' => p.call 4 (.fn 149 [] []) [t22] H fun t' H => k' t' H) fun t23 H =>
   p.guard t19 false H (fun k' => p.un .not t23 fun t' => k' t' H) fun t24 H =>
   p.pick t19 (.sc (.bool true)) t24 fun t25 =>
   p.cond t25
   (k (.sc (.bool false)) H)
   (p.bin .add t12 (.sc (.int .i64 1)) fun t26 =>
   f154_l0 p n  k m t1 t10 t11 t26 H))
   (p.fadr 23 t1 fun t27 =>
   p.load false 1 t27 H fun t28 =>
   p.len t28 fun t29 =>
   f154_l1 p n  k n t1 t28 t29 (.sc (.int .i64 0)) H)
noncomputable def f154 (p : Pr β) (n : Nat) (a0 : AV) (H : Heap) (k : AV → Heap → Option β) : Option β :=
 p.box a0 H fun t1 H =>
 p.fadr 22 t1 fun t9 =>
 p.load false 1 t9 H fun t10 =>
 p.len t10 fun t11 =>
 f154_l0 p n  k n t1 t10 t11 (.sc (.int .i64 0)) H
noncomputable def f154_L2 (p : Pr β) (n : Nat)  (k : AV → Heap → Option β) (m : Nat) (tm : Tm) (H : Heap) : Option β :=
 iterC 65 (fun tm H k => evalCode ti0 p o154 65 n (cd c154 [1, 1, 1, 0, 1, 0, 0]) tm H k) (blkK 4 (seqK (fun tm H => evalCode ti0 p o154 65 n (cd c154 [1, 1, 1, 1]) tm H (endK ti0 p Go.Proofs.Tryz.f154.results.toList k)) (endK ti0 p Go.Proofs.Tryz.f154.results.toList k))) m tm H
noncomputable def f154_L1 (p : Pr β) (n : Nat)  (k : AV → Heap → Option β) (m : Nat) (tm : Tm) (H : Heap) : Option β :=
 iterC 65 (fun tm H k => evalCode ti0 p o154 65 n (cd c154 [1, 1, 0, 1, 0, 0]) tm H k) (blkK 2 (seqK (fun tm H => evalCode ti0 p o154 65 n (cd c154 [1, 1, 1]) tm H (endK ti0 p Go.Proofs.Tryz.f154.results.toList k)) (endK ti0 p Go.Proofs.Tryz.f154.results.toList k))) m tm H
noncomputable def f154_L0 (p : Pr β) (n : Nat)  (k : AV → Heap → Option β) (m : Nat) (tm : Tm) (H : Heap) : Option β :=
 iterC 65 (fun tm H k => evalCode ti0 p o154 65 n (cd c154 [1, 0, 1, 0, 0]) tm H k) (blkK 0 (seqK (fun tm H => evalCode ti0 p o154 65 n (cd c154 [1, 1]) tm H (endK ti0 p Go.Proofs.Tryz.f154.results.toList k)) (endK ti0 p Go.Proofs.Tryz.f154.results.toList k))) m tm H
theorem f154_L2_step (p : Pr β) (n : Nat)  (k : AV → Heap → Option β) (m2 : Nat) (t : Nat → AV) (H : Heap) : f154_L2 p n  k (m2 + 1) (tf 65 0 t) H =
 p.bin .lss (t 41) (t 40) fun t42 =>
 p.cond t42
 (p.iadr 1 (t 39) (t 41) fun t43 =>
 p.load false 1 t43 H fun t44 =>
 p.call 4 (.fn 149 [] []) [t44] H fun t46 H =>
 p.un .not t46 fun t47 =>
 p.guard t47 true H (fun k' => k' t44 H) fun t49 H =>
 p.guard t47 true H (fun k' => p.bin .neq t49 (.sc (.int .i64 128)) fun t' => k' t' H) fun t50 H =>
 p.pick t47 t50 (.sc (.bool false)) fun t51 =>
 p.cond t51
 (k (.sc (.bool false)) H)
 (p.bin .add (t 41) (.sc (.int .i64 1)) fun t52 =>
 f154_L2 p n  k m2 (tf 65 0 (ud [(8, t44), (41, t52), (42, t42), (43, t43), (44, t44), (45, t44), (46, t46), (47, t47), (48, t47), (49, t49), (50, t50), (51, t51), (52, t52)] t)) H))
 (p.fadr 22 (t 1) fun t53 =>
 p.load false 1 t53 H fun t54 =>
 p.len t54 fun t55 =>
 p.fadr 23 (t 1) fun t56 =>
 p.load false 1 t56 H fun t57 =>
 p.len t57 fun t58 =>
 p.bin .add t55 t58 fun t59 =>
 p.fadr 24 (t 1) fun t60 =>
 p.load false 1 t60 H fun t61 =>
 p.len t61 fun t62 =>
 p.bin .add t59 t62 fun t63 =>
 p.call 4 (.fn 114 [] []) [t63, (.sc (.int .i64 1)), (.sc (.int .i64 4))] H fun t64 H =>
 k t64 H) := by kernel_rfl
theorem f154_l2_eq (p : Pr β) (n : Nat)  (k : AV → Heap → Option β)   (m2 : Nat) : ∀ (t : Nat → AV) (H : Heap), f154_L2 p n  k m2 (tf 65 0 t) H = f154_l2 p n  k m2 (t 1) (t 39) (t 40) (t 41) H := by
 induction m2 with
 | zero => intros; rfl
 | succ m2 ih =>
  intro t H
  rw [f154_L2_step]
  simp only [ih]
  kernel_rfl
theorem f154_L1_step (p : Pr β) (n : Nat)  (k : AV → Heap → Option β) (m1 : Nat) (t : Nat → AV) (H : Heap) : f154_L1 p n  k (m1 + 1) (tf 65 0 t) H =
 p.bin .lss (t 30) (t 29) fun t31 =>
 p.cond t31
 (p.iadr 1 (t 28) (t 30) fun t32 =>
 p.load false 1 t32 H fun t33 =>
 p.call 4 (.fn 168 [] []) [t33] H fun t35 H =>
 p.un .not t35 fun t36 =>
 p.cond t36
 (k (.sc (.bool false)) H)
 (p.bin .add (t 30) (.sc (.int .i64 1)) fun t37 =>
 f154_L1 p n  k m1 (tf 65 0 (ud [(6, t33), (30, t37), (31, t31), (32, t32), (33, t33), (34, t33), (35, t35), (36, t36), (37, t37)] t)) H))
 (p.fadr 24 (t 1) fun t38 =>
 p.load false 1 t38 H fun t39 =>
 p.len t39 fun t40 =>
 f154_L2 p n  k n (tf 65 0 (ud [(31, t31), (38, t38), (39, t39), (40, t40), (41, (.sc (.int .i64 0)))] t)) H) := by kernel_rfl
theorem f154_l1_eq (p : Pr β) (n : Nat)  (k : AV → Heap → Option β)   (m1 : Nat) : ∀ (t : Nat → AV) (H : Heap), f154_L1 p n  k m1 (tf 65 0 t) H = f154_l1 p n  k m1 (t 1) (t 28) (t 29) (t 30) H := by
 induction m1 with
 | zero => intros; rfl
 | succ m1 ih =>
  intro t H
  rw [f154_L1_step]
  simp only [ih, f154_l2_eq p n  k  ]
  kernel_rfl
theorem f154_L0_step (p : Pr β) (n : Nat)  (k : AV → Heap → Option β) (m0 : Nat) (t : Nat → AV) (H : Heap) : f154_L0 p n  k (m0 + 1) (tf 65 0 t) H =
 p.bin .lss (t 12) (t 11) fun t13 =>
 p.cond t13
 (p.iadr 2 (t 10) (t 12) fun t14 =>
 p.load true 2 t14 H fun t15 =>
 p.new [(.sc (.string ⟨#[]⟩)), (.sc (.int .i64 0))] H fun t4 H =>
 p.store 2 t4 t15 H fun H =>
 p.fadr 0 t4 fun t16 =>
 p.load false 1 t16 H fun t17 =>
 p.call 4 (.fn 168 [] []) [t17] H fun t18 H =>
 p.un .not t18 fun t19 =>
 p.guard t19 false H (fun k' => p.fadr 1 t4 fun t' => k' t' H) fun t21 H =>
 p.guard t19 false H (fun k' => p.load false 1 t21 H fun t' => k' t' H) fun t22 H =>
 p.guard t19 false H (fun k' => p.call 4 (.fn 149 [] []) [t22] H fun t' H => k' t' H) fun t23 H =>
 p.guard t19 false H (fun k' => p.un .not t23 fun t' => k' t' H) fun t24 H =>
 p.pick t19 (.sc (.bool true)) t24 fun t25 =>
 p.cond t25
 (k (.sc (.bool false)) H)
 (p.bin .add (t 12) (.sc (.int .i64 1)) fun t26 =>
 f154_L0 p n  k m0 (tf 65 0 (ud [(4, t4), (12, t26), (13, t13), (14, t14), (15, t15), (16, t16), (17, t17), (18, t18), (19, t19), (20, t19), (21, t21), (22, t22), (23, t23), (24, t24), (25, t25), (26, t26)] t)) H))
 (p.fadr 23 (t 1) fun t27 =>
 p.load false 1 t27 H fun t28 =>
 p.len t28 fun t29 =>
 f154_L1 p n  k n (tf 65 0 (ud [(13, t13), (27, t27), (28, t28), (29, t29), (30, (.sc (.int .i64 0)))] t)) H) := by kernel_rfl
theorem f154_l0_eq (p : Pr β) (n : Nat)  (k : AV → Heap → Option β)   (m0 : Nat) : ∀ (t : Nat → AV) (H : Heap), f154_L0 p n  k m0 (tf 65 0 t) H = f154_l0 p n  k m0 (t 1) (t 10) (t 11) (t 12) H := by
 induction m0 with
 | zero => intros; rfl
 | succ m0 ih =>
  intro t H
  rw [f154_L0_step]
  simp only [ih, f154_l2_eq p n  k  , f154_l1_eq p n  k  ]
  kernel_rfl
theorem f154_raw (p : Pr β) (n : Nat) (a0 : AV) (H : Heap) (k : AV → Heap → Option β) : evalBody ti0 p n ⟨c154, 65, Go.Proofs.Tryz.f154.results.toList, o154⟩ [a0] H k =
 p.box a0 H fun t1 H =>
 p.fadr 22 t1 fun t9 =>
 p.load false 1 t9 H fun t10 =>
 p.len t10 fun t11 =>
 f154_L0 p n  k n (tf 65 0 (ud [(0, a0), (1, t1), (2, (.sc (.bool false))), (9, t9), (10, t10), (11, t11), (12, (.sc (.int .i64 0)))] ut)) H := by kernel_rfl
theorem f154_body (p : Pr β) (n : Nat) (a0 : AV) (H : Heap) (k : AV → Heap → Option β) : evalBody ti0 p n ⟨c154, 65, Go.Proofs.Tryz.f154.results.toList, o154⟩ [a0] H k = f154 p n a0 H k := by
 rw [f154_raw]
 simp only [f154_l2_eq, f154_l1_eq, f154_l0_eq]
 kernel_rfl
noncomputable def f127 (p : Pr β) (n : Nat) (a0 : AV) (H : Heap) (k : AV → Heap → Option β) : Option β :=
 p.box a0 H fun t1 H =>
 p.fadr 0 t1 fun t3 =>
 p.load false 1 t3 H fun t4 =>
 p.call 4 (.fn 114 [] []) [t4, (.sc (.int .i64 1)), (.sc (.int .i64 14))] H fun t5 H =>
 p.un .not t5 fun t6 =>
 p.guard t6 false H (fun k' => p.load true 25 t1 H fun t' => k' t' H) fun t9 H =>
 p.both
 (p.guard t6 false H (fun k' => p.load true 25 t1 H fun t' => k' t' H) fun t8 H =>
 p.guard t6 false H (fun k' => p.call 66 (.fn 152 [] []) [t9] H fun t' H => k' t' H) fun t10 H =>
 p.guard t6 false H (fun k' => p.call 4 (.fn 151 [] []) [t8, t10] H fun t' H => k' t' H) fun t11 H =>
 p.guard t6 false H (fun k' => p.un .not t11 fun t' => k' t' H) fun t12 H =>
 p.pick t6 (.sc (.bool true)) t12 fun t13 =>
 p.cond t13
 (k (.sc (.bool false)) H)
 (p.fadr 0 t1 fun t14 =>
 p.load false 1 t14 H fun t15 =>
 p.bin .eql t15 (.sc (.int .i64 1)) fun t17 =>
 p.cond t17
 (p.load true 25 t1 H fun t18 =>
 p.call 4 (.fn 153 [] []) [t18] H fun t19 H =>
 k t19 H)
 (p.bin .eql t15 (.sc (.int .i64 2)) fun t21 =>
 p.cond t21
 (p.fadr 20 t1 fun t22 =>
 p.load false 1 t22 H fun t23 =>
 p.call 4 (.fn 114 [] []) [t23, (.sc (.int .i64 0)), (.sc (.int .i64 5))] H fun t24 H =>
 p.guard t24 true H (fun k' => p.fadr 21 t1 fun t' => k' t' H) fun t26 H =>
 p.guard t24 true H (fun k' => p.load false 1 t26 H fun t' => k' t' H) fun t27 H =>
 p.guard t24 true H (fun k' => p.un .not t27 fun t' => k' t' H) fun t28 H =>
 p.guard t24 true H (fun k' => k' t28 H) fun t29 H =>
 p.guard t29 false H (fun k' => p.fadr 20 t1 fun t' => k' t' H) fun t30 H =>
 p.guard t29 false H (fun k' => p.load false 1 t30 H fun t' => k' t' H) fun t31 H =>
 p.guard t29 false H (fun k' => p.bin .eql t31 (.sc (.int .i64 0)) fun t' => k' t' H) fun t32 H =>
 p.guard t24 true H (fun k' => p.pick t29 (.sc (.bool true)) t32 fun t' => k' t' H) fun t33 H =>
 p.pick t24 t33 (.sc (.bool false)) fun t34 =>
 k t34 H)
 (p.bin .eql t15 (.sc (.int .i64 3)) fun t36 =>
 p.cond t36
 (p.fadr 2 t1 fun t37 =>
 p.load false 1 t37 H fun t38 =>
 p.call 4 (.fn 149 [] []) [t38] H fun t39 H =>
 p.guard t39 true H (fun k' => p.fadr 5 t1 fun t' => k' t' H) fun t41 H =>
 p.guard t39 true H (fun k' => p.load false 1 t41 H fun t' => k' t' H) fun t42 H =>
 p.guard t39 true H (fun k' => p.call 4 (.fn 148 [] []) [t42] H fun t' H => k' t' H) fun t43 H =>
 p.pick t39 t43 (.sc (.bool false)) fun t44 =>
 p.guard t44 true H (fun k' => p.fadr 6 t1 fun t' => k' t' H) fun t46 H =>
 p.guard t44 true H (fun k' => p.load false 1 t46 H fun t' => k' t' H) fun t47 H =>
 p.guard t44 true H (fun k' => p.len t47 fun t' => k' t' H) fun t48 H =>
 p.guard t44 true H (fun k' => p.bin .leq t48 (.sc (.int .i64 40)) fun t' => k' t' H) fun t49 H =>
 p.pick t44 t49 (.sc (.bool false)) fun t50 =>
 p.guard t50 true H (fun k' => p.fadr 2 t1 fun t' => k' t' H) fun t52 H =>
 p.guard t50 true H (fun k' => p.load false 1 t52 H fun t' => k' t' H) fun t53 H =>
 p.guard t50 true H (fun k' => p.bin .eql t53 (.sc (.int .i64 0)) fun t' => k' t' H) fun t54 H =>
 p.guard t50 true H (fun k' => k' t54 H) fun t55 H =>
 p.guard t55 false H (fun k' => p.fadr 4 t1 fun t' => k' t' H) fun t56 H =>
 p.guard t55 false H (fun k' => p.load false 1 t56 H fun t' => k' t' H) fun t57 H =>
 p.guard t55 false H (fun k' => p.call 4 (.fn 123 [] []) [t57] H fun t' H => k' t' H) fun t58 H =>
 p.guard t50 true H (fun k' => p.pick t55 (.sc (.bool true)) t58 fun t' => k' t' H) fun t59 H =>
 p.pick t50 t59 (.sc (.bool false)) fun t60 =>
 k t60 H)
 (p.bin .eql t15 (.sc (.int .i64 4)) fun t62 =>
 letJ (fun (t1 t15 t61 : AV) (H : Heap) => p.cond t61
 (p.fadr 4 t1 fun t67 =>
 p.load false 1 t67 H fun t68 =>
 p.call 4 (.fn 123 [] []) [t68] H fun t69 H =>
 k t69 H)
 (p.bin .eql t15 (.sc (.int .i64 8)) fun t71 =>
 letJ (fun (t1 t70 : AV) (H : Heap) => p.cond t70
 (p.fadr 4 t1 fun t74 =>
 p.load false 1 t74 H fun t75 =>
 p.call 4 (.fn 123 [] []) [t75] H fun t76 H =>
 p.guard t76 true H (fun k' => p.load true 25 t1 H fun t' => k' t' H) fun t78 H =>
 p.guard t76 true H (fun k' => p.call 4 (.fn 154 [] []) [t78] H fun t' H => k' t' H) fun t79 H =>
 p.pick t76 t79 (.sc (.bool false)) fun t80 =>
 k t80 H)
 (k (.sc (.bool true)) H)) fun j2 =>
 p.cond t71
 (j2 t1 t71 H)
 (p.bin .eql t15 (.sc (.int .i64 9)) fun t72 =>
 p.cond t72
 (j2 t1 t72 H)
 (p.bin .eql t15 (.sc (.int .i64 10)) fun t73 =>
 j2 t1 t73 H)))) fun j1 =>
 p.cond t62
 (j1 t1 t15 t62 H)
 (p.bin .eql t15 (.sc (.int .i64 5)) fun t63 =>
 p.cond t63
 (j1 t1 t15 t63 H)
 (p.bin .eql t15 (.sc (.int .i64 6)) fun t64 =>
 p.cond t64
 (j1 t1 t15 t64 H)
 (p.bin .eql t15 (.sc (.int .i64 7)) fun t65 =>
 p.cond t65
 (j1 t1 t15 t65 H)
 (p.bin .eql t15 (.sc (.int .i64 11)) fun t66 =>
 j1 t1 t15 t66 H)))))))))
 (p.guard t6 false H (fun k' => p.call 66 (.fn 152 [] []) [t9] H fun t' H => k' t' H) fun t10 H =>
 p.guard t6 false H (fun k' => p.load true 25 t1 H fun t' => k' t' H) fun t8 H =>
 p.guard t6 false H (fun k' => p.call 4 (.fn 151 [] []) [t8, t10] H fun t' H => k' t' H) fun t11 H =>
 p.guard t6 false H (fun k' => p.un .not t11 fun t' => k' t' H) fun t12 H =>
 p.pick t6 (.sc (.bool true)) t12 fun t13 =>
 p.cond t13
 (k (.sc (.bool false)) H)
 (p.fadr 0 t1 fun t14 =>
 p.load false 1 t14 H fun t15 =>
 p.bin .eql t15 (.sc (.int .i64 1)) fun t17 =>
 p.cond t17
 (p.load true 25 t1 H fun t18 =>
 p.call 4 (.fn 153 [] []) [t18] H fun t19 H =>
 k t19 H)
 (p.bin .eql t15 (.sc (.int .i64 2)) fun t21 =>
 p.cond t21
 (p.fadr 20 t1 fun t22 =>
 p.load false 1 t22 H fun t23 =>
 p.call 4 (.fn 114 [] []) [t23, (.sc (.int .i64 0)), (.sc (.int .i64 5))] H fun t24 H =>
 p.guard t24 true H (fun k' => p.fadr 21 t1 fun t' => k' t' H) fun t26 H =>
 p.guard t24 true H (fun k' => p.load false 1 t26 H fun t' => k' t' H) fun t27 H =>
 p.guard t24 true H (fun k' => p.un .not t27 fun t' => k' t' H) fun t28 H =>
 p.guard t24 true H (fun k' => k' t28 H) fun t29 H =>
 p.guard t29 false H (fun k' => p.fadr 20 t1 fun t' => k' t' H) fun t30 H =>
 p.guard t29 false H (fun k' => p.load false 1 t30 H fun t' => k' t' H) fun t31 H =>
 p.guard t29 false H (fun k' => p.bin .eql t31 (.sc (.int .i64 0)) fun t' => k' t' H) fun t32 H =>
 p.guard t24 true H (fun k' => p.pick t29 (.sc (.bool true)) t32 fun t' => k' t' H) fun t33 H =>
 p.pick t24 t33 (.sc (.bool false)) fun t34 =>
 k t34 H)
 (p.bin .eql t15 (.sc (.int .i64 3)) fun t36 =>
 p.cond t36
 (p.fadr 2 t1 fun t37 =>
 p.load false 1 t37 H fun t38 =>
 p.call 4 (.fn 149 [] []) [t38] H fun t39 H =>
 p.guard t39 true H (fun k' => p.fadr 5 t1 fun t' => k' t' H) fun t41 H =>
 p.guard t39 true H (fun k' => p.load false 1 t41 H fun t' => k' t' H) fun t42 H =>
 p.guard t39 true H (fun k' => p.call 4 (.fn 148 [] []) [t42] H fun t' H => k' t' H) fun t43 H =>
 p.pick t39 t43 (.sc (.bool false)) fun t44 =>
 p.guard t44 true H (fun k' => p.fadr 6 t1 fun t' => k' t' H) fun t46 H =>
 p.guard t44 true H (fun k' => p.load false 1 t46 H fun t' => k' t' H) fun t47 H =>
 p.guard t44 true H (fun k' => p.len t47 fun t' => k' t' H) fun t48 H =>
 p.guard t44 true H (fun k' => p.bin .leq t48 (.sc (.int .i64 40)) fun t' => k' t' H) fun t49 H =>
 p.pick t44 t49 (.sc (.bool false)) fun t50 =>
 p.guard t50 true H (fun k' => p.fadr 2 t1 fun t' => k' t' H) fun t52 H =>
 p.guard t50 true H (fun k' => p.load false 1 t52 H fun t' => k' t' H) fun t53 H =>
 p.guard t50 true H (fun k' => p.bin .eql t53 (.sc (.int .i64 0)) fun t' => k' t' H) fun t54 H =>
 p.guard t50 true H (fun k' => k' t54 H) fun t55 H =>
 p.guard t55 false H (fun k' => p.fadr 4 t1 fun t' => k' t' H) fun t56 H =>
 p.guard t55 false H (fun k' => p.load false 1 t56 H fun t' => k' t' H) fun t57 H =>
 p.guard t55 false H (fun k' => p.call 4 (.fn 123 [] []) [t57] H fun t' H => k' t' H) fun t58 H =>
 p.guard t50 true H (fun k' => p.pick t55 (.sc (.bool true)) t58 fun t' => k' t' H) fun t59 H =>
 p.pick t50 t59 (.sc (.bool false)) fun t60 =>
 k t60 H)
 (p.bin .eql t15 (.sc (.int .i64 4)) fun t62 =>
 letJ (fun (t1 t15 t61 : AV) (H : Heap) => p.cond t61
 (p.fadr 4 t1 fun t67 =>
 p.load false 1 t67 H fun t68 =>
 p.call 4 (.fn 123 [] []) [t68] H fun t69 H =>
 k t69 H)
 (p.bin .eql t15 (.sc (.int .i64 8)) fun t71 =>
 letJ (fun (t1 t70 : AV) (H : Heap) => p.cond t70
 (p.fadr 4 t1 fun t74 =>
 p.load false 1 t74 H fun t75 =>
 p.call 4 (.fn 123 [] []) [t75] H fun t76 H =>
 p.guard t76 true H (fun k' => p.load true 25 t1 H fun t' => k' t' H) fun t78 H =>
 p.guard t76 true H (fun k' => p.call 4 (.fn 154 [] []) [t78] H fun t' H => k' t' H) fun t79 H =>
 p.pick t76 t79 (.sc (.bool false)) fun t80 =>
 k t80 H)
 (k (.sc (.bool true)) H)) fun j4 =>
 p.cond t71
 (j4 t1 t71 H)
 (p.bin .eql t15 (.sc (.int .i64 9)) fun t72 =>
 p.cond t72
 (j4 t1 t72 H)
 (p.bin .eql t15 (.sc (.int .i64 10)) fun t73 =>
 j4 t1 t73 H)))) fun j3 =>
 p.cond t62
 (j3 t1 t15 t62 H)
 (p.bin .eql t15 (.sc (.int .i64 5)) fun t63 =>
 p.cond t63
 (j3 t1 t15 t63 H)
 (p.bin .eql t15 (.sc (.int .i64 6)) fun t64 =>
 p.cond t64
 (j3 t1 t15 t64 H)
 (p.bin .eql t15 (.sc (.int .i64 7)) fun t65 =>
 p.cond t65
 (j3 t1 t15 t65 H)
 (p.bin .eql t15 (.sc (.int .i64 11)) fun t66 =>
 j3 t1 t15 t66 H)))))))))
theorem f127_body (p : Pr β) (n : Nat) (a0 : AV) (H : Heap) (k : AV → Heap → Option β) : evalBody ti0 p n ⟨c127, 81, Go.Proofs.Tryz.f127.results.toList, o127⟩ [a0] H k = f127 p n a0 H k := by kernel_rfl
noncomputable def f73 (p : Pr β) (n : Nat) (a0 a1 : AV) (H : Heap) (k : AV → Heap → Option β) : Option β :=
 p.new [(.sc (.int .i64 0)), (.sc (.bool false)), (.sc (.int .i64 0)), (.sc (.bool false)), (.sc (.int .i64 0)), (.sc (.string ⟨#[]⟩)), .nl, (.sc (.string ⟨#[]⟩)), (.sc (.int .i64 0)), (.sc (.bool false)), (.sc (.int .i64 0)), (.sc (.bool false)), (.sc (.string ⟨#[]⟩)), .nl, (.sc (.int .i64 0)), (.sc (.bool false)), (.sc (.bool false)), (.sc (.string ⟨#[]⟩)), (.sc (.bool false)), .nl, (.sc (.int .i64 0)), (.sc (.bool false)), .nl, .nl, .nl] H fun t4 H =>
 p.fill [(.sc (.int .i64 0)), (.sc (.bool false)), (.sc (.int .i64 0)), (.sc (.bool false)), (.sc (.int .i64 0)), (.sc (.string ⟨#[]⟩)), .nl, (.sc (.string ⟨#[]⟩)), (.sc (.int .i64 0)), (.sc (.bool false)), (.sc (.int .i64 0)), (.sc (.bool false)), (.sc (.string ⟨#[]⟩)), .nl, (.sc (.int .i64 0)), (.sc (.bool false)), (.sc (.bool false)), (.sc (.string ⟨#[]⟩)), (.sc (.bool false)), .nl, (.sc (.int .i64 0)), (.sc (.bool false)), .nl, .nl, .nl] [(0, 1, a0), (4, 1, a1)] fun ct8 =>
 p.new [(.sc (.int .i64 0)), (.sc (.bool false)), (.sc (.int .i64 0)), (.sc (.bool false)), (.sc (.int .i64 0)), (.sc (.string ⟨#[]⟩)), .nl, (.sc (.string ⟨#[]⟩)), (.sc (.int .i64 0)), (.sc (.bool false)), (.sc (.int .i64 0)), (.sc (.bool false)), (.sc (.string ⟨#[]⟩)), .nl, (.sc (.int .i64 0)), (.sc (.bool false)), (.sc (.bool false)), (.sc (.string ⟨#[]⟩)), (.sc (.bool false)), .nl, (.sc (.int .i64 0)), (.sc (.bool false)), .nl, .nl, .nl] H fun t5 H =>
 p.store 25 t5 (.agg ct8) H fun H =>
 p.call 4 (.fn 114 [] []) [a0, (.sc (.int .i64 4)), (.sc (.int .i64 7))] H fun t10 H =>
 p.un .not t10 fun t11 =>
 p.guard t11 true H (fun k' => k' a0 H) fun t13 H =>
 p.guard t11 true H (fun k' => p.bin .neq t13 (.sc (.int .i64 11)) fun t' => k' t' H) fun t14 H =>
 p.pick t11 t14 (.sc (.bool false)) fun t15 =>
 p.guard t15 false H (fun k' => p.load true 25 t5 H fun t' => k' t' H) fun t17 H =>
 p.guard t15 false H (fun k' => p.call 4 (.fn 127 [] []) [t17] H fun t' H => k' t' H) fun t18 H =>
 p.guard t15 false H (fun k' => p.un .not t18 fun t' => k' t' H) fun t19 H =>
 p.pick t15 (.sc (.bool true)) t19 fun t20 =>
 p.cond t20
 (p.fill [(.sc (.int .i64 0)), (.sc (.bool false)), (.sc (.int .i64 0)), (.sc (.bool false)), (.sc (.int .i64 0)), (.sc (.string ⟨#[]⟩)), .nl, (.sc (.string ⟨#[]⟩)), (.sc (.int .i64 0)), (.sc (.bool false)), (.sc (.int .i64 0)), (.sc (.bool false)), (.sc (.string ⟨#[]⟩)), .nl, (.sc (.int .i64 0)), (.sc (.bool false)), (.sc (.bool false)), (.sc (.string ⟨#[]⟩)), (.sc (.bool false)), .nl, (.sc (.int .i64 0)), (.sc (.bool false)), .nl, .nl, .nl] [] fun ct21 =>
 p.store 25 t4 (.agg ct21) H fun H =>
 p.load true 25 t4 H fun r0 =>
 k r0 H)
 (p.load true 25 t5 H fun t22 =>
 p.store 25 t4 t22 H fun H =>
 p.load true 25 t4 H fun r0 =>
 k r0 H)
theorem f73_body (p : Pr β) (n : Nat) (a0 a1 : AV) (H : Heap) (k : AV → Heap → Option β) : evalBody ti0 p n ⟨c73, 23, Go.Proofs.Tryz.f73.results.toList, o73⟩ [a0, a1] H k = f73 p n a0 a1 H k := by kernel_rfl
noncomputable def f128_l0 (p : Pr β) (n : Nat)  (k : AV → Heap → Option β) : Nat → AV → AV → AV → AV → Heap → Option β
 | 0, _, _, _, _, _ => none
 | m + 1, t3, t7, t8, t9, H => p.bin .lss t9 t8 fun t10 =>
   p.cond t10
   (p.iadr 1 t7 t9 fun t11 =>
   p.load false 1 t11 H fun t12 =>
   p.app 1 1 t3 t12 H fun t15 H =>
   p.bin .add t9 (.sc (.int .i64 1)) fun t16 =>
   f128_l0 p n  k m t15 t7 t8 t16 H)
   (k t3 H)
noncomputable def f128 (p : Pr β) (n : Nat) (a0 : AV) (H : Heap) (k : AV → Heap → Option β) : Option β :=
 p.len a0 fun t8 =>
 f128_l0 p n  k n .nl a0 t8 (.sc (.int .i64 0)) H
noncomputable def f128_L0 (p : Pr β) (n : Nat)  (k : AV → Heap → Option β) (m : Nat) (tm : Tm) (H : Heap) : Option β :=
 iterC 18 (fun tm H k => evalCode ti0 p o128 18 n (cd c128 [1, 1, 0, 1, 0, 0]) tm H k) (blkK 0 (seqK (fun tm H => evalCode ti0 p o128 18 n (cd c128 [1, 1, 1]) tm H (endK ti0 p Go.Proofs.Tryz.f128.results.toList k)) (endK ti0 p Go.Proofs.Tryz.f128.results.toList k))) m tm H
theorem f128_L0_step (p : Pr β) (n : Nat)  (k : AV → Heap → Option β) (m0 : Nat) (t : Nat → AV) (H : Heap) : f128_L0 p n  k (m0 + 1) (tf 18 0 t) H =
 p.bin .lss (t 9) (t 8) fun t10 =>
 p.cond t10
 (p.iadr 1 (t 7) (t 9) fun t11 =>
 p.load false 1 t11 H fun t12 =>
 p.app 1 1 (t 3) t12 H fun t15 H =>
 p.bin .add (t 9) (.sc (.int .i64 1)) fun t16 =>
 f128_L0 p n  k m0 (tf 18 0 (ud [(3, t15), (5, t12), (9, t16), (10, t10), (11, t11), (12, t12), (13, (t 3)), (14, t12), (15, t15), (16, t16)] t)) H)
 (k (t 3) H) := by kernel_rfl
theorem f128_l0_eq (p : Pr β) (n : Nat)  (k : AV → Heap → Option β)   (m0 : Nat) : ∀ (t : Nat → AV) (H : Heap), f128_L0 p n  k m0 (tf 18 0 t) H = f128_l0 p n  k m0 (t 3) (t 7) (t 8) (t 9) H := by
 induction m0 with
 | zero => intros; rfl
 | succ m0 ih =>
  intro t H
  rw [f128_L0_step]
  simp only [ih]
  kernel_rfl
theorem f128_raw (p : Pr β) (n : Nat) (a0 : AV) (H : Heap) (k : AV → Heap → Option β) : evalBody ti0 p n ⟨c128, 18, Go.Proofs.Tryz.f128.results.toList, o128⟩ [a0] H k =
 p.len a0 fun t8 =>
 f128_L0 p n  k n (tf 18 0 (ud [(0, a0), (2, .nl), (3, .nl), (6, .nl), (7, a0), (8, t8), (9, (.sc (.int .i64 0)))] ut)) H := by kernel_rfl
theorem f128_body (p : Pr β) (n : Nat) (a0 : AV) (H : Heap) (k : AV → Heap → Option β) : evalBody ti0 p n ⟨c128, 18, Go.Proofs.Tryz.f128.results.toList, o128⟩ [a0] H k = f128 p n a0 H k := by
 rw [f128_raw]
 simp only [f128_l0_eq]
 kernel_rfl
noncomputable def f74 (p : Pr β) (n : Nat) (a0 a1 a2 : AV) (H : Heap) (k : AV → Heap → Option β) : Option β :=
 p.box a0 H fun t3 H =>
 p.new [(.sc (.int .i64 0)), (.sc (.bool false)), (.sc (.int .i64 0)), (.sc (.bool false)), (.sc (.int .i64 0)), (.sc (.string ⟨#[]⟩)), .nl, (.sc (.string ⟨#[]⟩)), (.sc (.int .i64 0)), (.sc (.bool false)), (.sc (.int .i64 0)), (.sc (.bool false)), (.sc (.string ⟨#[]⟩)), .nl, (.sc (.int .i64 0)), (.sc (.bool false)), (.sc (.bool false)), (.sc (.string ⟨#[]⟩)), (.sc (.bool false)), .nl, (.sc (.int .i64 0)), (.sc (.bool false)), .nl, .nl, .nl] H fun t6 H =>
 p.fadr 2 t3 fun t8 =>
 p.load false 1 t8 H fun t9 =>
 p.fadr 3 t3 fun t10 =>
 p.load false 1 t10 H fun t11 =>
 p.fadr 0 t3 fun t13 =>
 p.load false 1 t13 H fun t14 =>
 p.fadr 1 t3 fun t15 =>
 p.load false 1 t15 H fun t16 =>
 p.fill [.nl] [(0, 1, t16)] fun ct17 => p.newSl 1 1 ct17 true H fun t17 H =>
 p.call 43 (.fn 128 [] []) [t17] H fun t18 H =>
 p.fill [(.sc (.int .i64 0)), (.sc (.bool false)), (.sc (.int .i64 0)), (.sc (.bool false)), (.sc (.int .i64 0)), (.sc (.string ⟨#[]⟩)), .nl, (.sc (.string ⟨#[]⟩)), (.sc (.int .i64 0)), (.sc (.bool false)), (.sc (.int .i64 0)), (.sc (.bool false)), (.sc (.string ⟨#[]⟩)), .nl, (.sc (.int .i64 0)), (.sc (.bool false)), (.sc (.bool false)), (.sc (.string ⟨#[]⟩)), (.sc (.bool false)), .nl, (.sc (.int .i64 0)), (.sc (.bool false)), .nl, .nl, .nl] [(0, 1, (.sc (.int .i64 3))), (1, 1, a2), (2, 1, t9), (3, 1, t11), (4, 1, a1), (5, 1, t14), (6, 1, t18)] fun ct19 =>
 p.store 25 t6 (.agg ct19) H fun H =>
 p.load true 25 t6 H fun r0 =>
 k r0 H
theorem f74_body (p : Pr β) (n : Nat) (a0 a1 a2 : AV) (H : Heap) (k : AV → Heap → Option β) : evalBody ti0 p n ⟨c74, 20, Go.Proofs.Tryz.f74.results.toList, o74⟩ [a0, a1, a2] H k = f74 p n a0 a1 a2 H k := by kernel_rfl
noncomputable def f28_l0 (p : Pr β) (n : Nat)  (k : AV → Heap → Option β) : Nat → AV → AV → AV → AV → Heap → Option β
 | 0, _, _, _, _, _ => none
 | m + 1, t3, t12, t13, t14, H => p.bin .lss t14 t13 fun t15 =>
   p.cond t15
   (p.iadr 6 t12 t14 fun t16 =>
   p.load true 6 t16 H fun t17 =>
   p.new [(.sc (.int .i64 0)), (.sc (.string ⟨#[]⟩)), .nl, (.sc (.int .i64 0)), (.sc (.bool false)), (.sc (.int .i64 0))] H fun t5 H =>
   p.store 6 t5 t17 H fun H =>
   p.fadr 5 t5 fun t18 =>
   p.load false 1 t18 H fun t19 =>
   p.bin .eql t19 (.sc (.int .i64 3)) fun t20 =>
   p.cond t20
   (p.fadr 0 t5 fun t22 =>
   p.load false 1 t22 H fun t23 =>
   p.call 66 (.fn 73 [] []) [(.sc (.int .i64 6)), t23] H fun t24 H =>
   p.fill [(.sc (.int .i64 0)), (.sc (.bool false)), (.sc (.int .i64 0)), (.sc (.bool false)), (.sc (.int .i64 0)), (.sc (.string ⟨#[]⟩)), .nl, (.sc (.string ⟨#[]⟩)), (.sc (.int .i64 0)), (.sc (.bool false)), (.sc (.int .i64 0)), (.sc (.bool false)), (.sc (.string ⟨#[]⟩)), .nl, (.sc (.int .i64 0)), (.sc (.bool false)), (.sc (.bool false)), (.sc (.string ⟨#[]⟩)), (.sc (.bool false)), .nl, (.sc (.int .i64 0)), (.sc (.bool false)), .nl, .nl, .nl] [(0, 25, t24)] fun ct25 => p.newSl 1 25 ct25 true H fun t25 H =>
   p.app 25 320 t3 t25 H fun t26 H =>
   p.bin .add t14 (.sc (.int .i64 1)) fun t35 =>
   f28_l0 p n  k m t26 t12 t13 t35 H)
   (p.fadr 1 t5 fun t28 =>
   p.load true 4 t28 H fun t29 =>
   p.fadr 0 t5 fun t30 =>
   p.load false 1 t30 H fun t31 =>
   p.call 66 (.fn 74 [] []) [t29, t31, (.sc (.bool true))] H fun t32 H =>
   p.fill [(.sc (.int .i64 0)), (.sc (.bool false)), (.sc (.int .i64 0)), (.sc (.bool false)), (.sc (.int .i64 0)), (.sc (.string ⟨#[]⟩)), .nl, (.sc (.string ⟨#[]⟩)), (.sc (.int .i64 0)), (.sc (.bool false)), (.sc (.int .i64 0)), (.sc (.bool false)), (.sc (.string ⟨#[]⟩)), .nl, (.sc (.int .i64 0)), (.sc (.bool false)), (.sc (.bool false)), (.sc (.string ⟨#[]⟩)), (.sc (.bool false)), .nl, (.sc (.int .i64 0)), (.sc (.bool false)), .nl, .nl, .nl] [(0, 25, t32)] fun ct33 => p.newSl 1 25 ct33 true H fun t33 H =>
   p.app 25 320 t3 t33 H fun t34 H =>
   p.bin .add t14 (.sc (.int .i64 1)) fun t35 =>
   f28_l0 p n  k m t34 t12 t13 t35 H))
   (k t3 H)
noncomputable def f28 (p : Pr β) (n : Nat) (a0 : AV) (H : Heap) (k : AV → Heap → Option β) : Option β :=
 p.box a0 H fun t1 H =>
 p.load true 3 t1 H fun t7 =>
 p.call 4 (.fn 72 [] []) [t7] H fun t8 H =>
 p.un .not t8 fun t9 =>
 p.cond t9
 (k .nl H)
 (p.fadr 1 t1 fun t11 =>
 p.load false 1 t11 H fun t12 =>
 p.len t12 fun t13 =>
 f28_l0 p n  k n .nl t12 t13 (.sc (.int .i64 0)) H)
noncomputable def f28_L0 (p : Pr β) (n : Nat)  (k : AV → Heap → Option β) (m : Nat) (tm : Tm) (H : Heap) : Option β :=
 iterC 37 (fun tm H k => evalCode ti0 p o28 37 n (cd c28 [1, 1, 1, 0, 1, 0, 0]) tm H k) (blkK 0 (seqK (fun tm H => evalCode ti0 p o28 37 n (cd c28 [1, 1, 1, 1]) tm H (endK ti0 p Go.Proofs.Tryz.f28.results.toList k)) (endK ti0 p Go.Proofs.Tryz.f28.results.toList k))) m tm H
theorem f28_L0_step (p : Pr β) (n : Nat)  (k : AV → Heap → Option β) (m0 : Nat) (t : Nat → AV) (H : Heap) : f28_L0 p n  k (m0 + 1) (tf 37 0 t) H =
 p.bin .lss (t 14) (t 13) fun t15 =>
 p.cond t15
 (p.iadr 6 (t 12) (t 14) fun t16 =>
 p.load true 6 t16 H fun t17 =>
 p.new [(.sc (.int .i64 0)), (.sc (.string ⟨#[]⟩)), .nl, (.sc (.int .i64 0)), (.sc (.bool false)), (.sc (.int .i64 0))] H fun t5 H =>
 p.store 6 t5 t17 H fun H =>
 p.fadr 5 t5 fun t18 =>
 p.load false 1 t18 H fun t19 =>
 p.bin .eql t19 (.sc (.int .i64 3)) fun t20 =>
 p.cond t20
 (p.fadr 0 t5 fun t22 =>
 p.load false 1 t22 H fun t23 =>
 p.call 66 (.fn 73 [] []) [(.sc (.int .i64 6)), t23] H fun t24 H =>
 p.fill [(.sc (.int .i64 0)), (.sc (.bool false)), (.sc (.int .i64 0)), (.sc (.bool false)), (.sc (.int .i64 0)), (.sc (.string ⟨#[]⟩)), .nl, (.sc (.string ⟨#[]⟩)), (.sc (.int .i64 0)), (.sc (.bool false)), (.sc (.int .i64 0)), (.sc (.bool false)), (.sc (.string ⟨#[]⟩)), .nl, (.sc (.int .i64 0)), (.sc (.bool false)), (.sc (.bool false)), (.sc (.string ⟨#[]⟩)), (.sc (.bool false)), .nl, (.sc (.int .i64 0)), (.sc (.bool false)), .nl, .nl, .nl] [(0, 25, t24)] fun ct25 => p.newSl 1 25 ct25 true H fun t25 H =>
 p.app 25 320 (t 3) t25 H fun t26 H =>
 p.bin .add (t 14) (.sc (.int .i64 1)) fun t35 =>
 f28_L0 p n  k m0 (tf 37 0 (ud [(3, t26), (5, t5), (14, t35), (15, t15), (16, t16), (17, t17), (18, t18), (19, t19), (20, t20), (21, (t 3)), (22, t22), (23, t23), (24, t24), (25, t25), (26, t26), (35, t35)] t)) H)
 (p.fadr 1 t5 fun t28 =>
 p.load true 4 t28 H fun t29 =>
 p.fadr 0 t5 fun t30 =>
 p.load false 1 t30 H fun t31 =>
 p.call 66 (.fn 74 [] []) [t29, t31, (.sc (.bool true))] H fun t32 H =>
 p.fill [(.sc (.int .i64 0)), (.sc (.bool false)), (.sc (.int .i64 0)), (.sc (.bool false)), (.sc (.int .i64 0)), (.sc (.string ⟨#[]⟩)), .nl, (.sc (.string ⟨#[]⟩)), (.sc (.int .i64 0)), (.sc (.bool false)), (.sc (.int .i64 0)), (.sc (.bool false)), (.sc (.string ⟨#[]⟩)), .nl, (.sc (.int .i64 0)), (.sc (.bool false)), (.sc (.bool false)), (.sc (.string ⟨#[]⟩)), (.sc (.bool false)), .nl, (.sc (.int .i64 0)), (.sc (.bool false)), .nl, .nl, .nl] [(0, 25, t32)] fun ct33 => p.newSl 1 25 ct33 true H fun t33 H =>
 p.app 25 320 (t 3) t33 H fun t34 H =>
 p.bin .add (t 14) (.sc (.int .i64 1)) fun t35 =>
 f28_L0 p n  k m0 (tf 37 0 (ud [(3, t34), (5, t5), (14, t35), (15, t15), (16, t16), (17, t17), (18, t18), (19, t19), (20, t20), (27, (t 3)), (28, t28), (29, t29), (30, t30), (31, t31), (32, t32), (33, t33), (34, t34), (35, t35)] t)) H))
 (k (t 3) H) := by kernel_rfl
theorem f28_l0_eq (p : Pr β) (n : Nat)  (k : AV → Heap → Option β)   (m0 : Nat) : ∀ (t : Nat → AV) (H : Heap), f28_L0 p n  k m0 (tf 37 0 t) H = f28_l0 p n  k m0 (t 3) (t 12) (t 13) (t 14) H := by
 induction m0 with
 | zero => intros; rfl
 | succ m0 ih =>
  intro t H
  rw [f28_L0_step]
  simp only [ih]
  kernel_rfl
theorem f28_raw (p : Pr β) (n : Nat) (a0 : AV) (H : Heap) (k : AV → Heap → Option β) : evalBody ti0 p n ⟨c28, 37, Go.Proofs.Tryz.f28.results.toList, o28⟩ [a0] H k =
 p.box a0 H fun t1 H =>
 p.load true 3 t1 H fun t7 =>
 p.call 4 (.fn 72 [] []) [t7] H fun t8 H =>
 p.un .not t8 fun t9 =>
 p.cond t9
 (k .nl H)
 (p.fadr 1 t1 fun t11 =>
 p.load false 1 t11 H fun t12 =>
 p.len t12 fun t13 =>
 f28_L0 p n  k n (tf 37 0 (ud [(0, a0), (1, t1), (2, .nl), (3, .nl), (6, .nl), (7, t7), (8, t8), (9, t9), (11, t11), (12, t12), (13, t13), (14, (.sc (.int .i64 0)))] ut)) H) := by kernel_rfl
theorem f28_body (p : Pr β) (n : Nat) (a0 : AV) (H : Heap) (k : AV → Heap → Option β) : evalBody ti0 p n ⟨c28, 37, Go.Proofs.Tryz.f28.results.toList, o28⟩ [a0] H k = f28 p n a0 H k := by
 rw [f28_raw]
 simp only [f28_l0_eq]
 kernel_rfl
noncomputable def f63_l0 (p : Pr β) (n : Nat)  (k : AV → Heap → Option β) : Nat → AV → AV → AV → Heap → Option β
 | 0, _, _, _, _ => none
 | m + 1, t0, t1, t5, H => p.len t0 fun t13 =>
   p.bin .lss t5 t13 fun t14 =>
   p.cond t14
   (p.iadr 1 t0 t5 fun t19 =>
   p.load false 1 t19 H fun t20 =>
   p.iadr 1 t1 t5 fun t23 =>
   p.load false 1 t23 H fun t24 =>
   p.bin .neq t20 t24 fun t25 =>
   p.cond t25
   (k (.sc (.bool false)) H)
   (p.bin .add t5 (.sc (.int .i64 1)) fun t16 =>
   f63_l0 p n  k m t0 t1 t16 H))
   (k (.sc (.bool true)) H)
noncomputable def f63 (p : Pr β) (n : Nat) (a0 a1 : AV) (H : Heap) (k : AV → Heap → Option β) : Option β :=
 p.len a0 fun t7 =>
 p.len a1 fun t9 =>
 p.bin .neq t7 t9 fun t10 =>
 p.cond t10
 (k (.sc (.bool false)) H)
 (f63_l0 p n  k n a0 a1 (.sc (.int .i64 0)) H)
noncomputable def f63_L0 (p : Pr β) (n : Nat)  (k : AV → Heap → Option β) (m : Nat) (tm : Tm) (H : Heap) : Option β :=
 iterC 26 (fun tm H k => evalCode ti0 p o63 26 n (cd c63 [1, 1, 0, 1, 0, 0]) tm H k) (blkK 0 (seqK (fun tm H => evalCode ti0 p o63 26 n (cd c63 [1, 1, 1]) tm H (endK ti0 p Go.Proofs.Tryz.f63.results.toList k)) (endK ti0 p Go.Proofs.Tryz.f63.results.toList k))) m tm H
theorem f63_L0_step (p : Pr β) (n : Nat)  (k : AV → Heap → Option β) (m0 : Nat) (t : Nat → AV) (H : Heap) : f63_L0 p n  k (m0 + 1) (tf 26 0 t) H =
 p.len (t 0) fun t13 =>
 p.bin .lss (t 5) t13 fun t14 =>
 p.cond t14
 (p.iadr 1 (t 0) (t 5) fun t19 =>
 p.load false 1 t19 H fun t20 =>
 p.iadr 1 (t 1) (t 5) fun t23 =>
 p.load false 1 t23 H fun t24 =>
 p.bin .neq t20 t24 fun t25 =>
 p.cond t25
 (k (.sc (.bool false)) H)
 (p.bin .add (t 5) (.sc (.int .i64 1)) fun t16 =>
 f63_L0 p n  k m0 (tf 26 0 (ud [(5, t16), (11, (t 5)), (12, (t 0)), (13, t13), (14, t14), (15, (t 5)), (16, t16), (17, (t 0)), (18, (t 5)), (19, t19), (20, t20), (21, (t 1)), (22, (t 5)), (23, t23), (24, t24), (25, t25)] t)) H))
 (k (.sc (.bool true)) H) := by kernel_rfl
theorem f63_l0_eq (p : Pr β) (n : Nat)  (k : AV → Heap → Option β)   (m0 : Nat) : ∀ (t : Nat → AV) (H : Heap), f63_L0 p n  k m0 (tf 26 0 t) H = f63_l0 p n  k m0 (t 0) (t 1) (t 5) H := by
 induction m0 with
 | zero => intros; rfl
 | succ m0 ih =>
  intro t H
  rw [f63_L0_step]
  simp only [ih]
  kernel_rfl
theorem f63_raw (p : Pr β) (n : Nat) (a0 a1 : AV) (H : Heap) (k : AV → Heap → Option β) : evalBody ti0 p n ⟨c63, 26, Go.Proofs.Tryz.f63.results.toList, o63⟩ [a0, a1] H k =
 p.len a0 fun t7 =>
 p.len a1 fun t9 =>
 p.bin .neq t7 t9 fun t10 =>
 p.cond t10
 (k (.sc (.bool false)) H)
 (f63_L0 p n  k n (tf 26 0 (ud [(0, a0), (1, a1), (4, (.sc (.bool false))), (5, (.sc (.int .i64 0))), (6, a0), (7, t7), (8, a1), (9, t9), (10, t10)] ut)) H) := by kernel_rfl
theorem f63_body (p : Pr β) (n : Nat) (a0 a1 : AV) (H : Heap) (k : AV → Heap → Option β) : evalBody ti0 p n ⟨c63, 26, Go.Proofs.Tryz.f63.results.toList, o63⟩ [a0, a1] H k = f63 p n a0 a1 H k := by
 rw [f63_raw]
 simp only [f63_l0_eq]
 kernel_rfl
noncomputable def f135 (p : Pr β) (n : Nat) (a0 a1 : AV) (H : Heap) (k : AV → Heap → Option β) : Option β :=
 p.box a0 H fun t2 H =>
 p.box a1 H fun t3 H =>
 p.fadr 0 t2 fun t5 =>
 p.load false 1 t5 H fun t6 =>
 p.fadr 0 t3 fun t7 =>
 p.load false 1 t7 H fun t8 =>
 p.bin .neq t6 t8 fun t9 =>
 p.cond t9
 (k (.sc (.bool false)) H)
 (p.fadr 1 t2 fun t10 =>
 p.load false 1 t10 H fun t11 =>
 p.fadr 1 t3 fun t12 =>
 p.load false 1 t12 H fun t13 =>
 p.bin .neq t11 t13 fun t14 =>
 p.cond t14
 (k (.sc (.bool false)) H)
 (k (.sc (.bool true)) H))
theorem f135_body (p : Pr β) (n : Nat) (a0 a1 : AV) (H : Heap) (k : AV → Heap → Option β) : evalBody ti0 p n ⟨c135, 15, Go.Proofs.Tryz.f135.results.toList, o135⟩ [a0, a1] H k = f135 p n a0 a1 H k := by kernel_rfl
noncomputable def f93_l0 (p : Pr β) (n : Nat)  (k : AV → Heap → Option β) : Nat → AV → AV → AV → Heap → Option β
 | 0, _, _, _, _ => none
 | m + 1, t0, t1, t5, H => p.len t0 fun t13 =>
   p.bin .lss t5 t13 fun t14 =>
   p.cond t14
   (p.iadr 2 t0 t5 fun t19 =>
   p.load true 2 t19 H fun t20 =>
   p.iadr 2 t1 t5 fun t23 =>
   p.load true 2 t23 H fun t24 =>
   p.call 4 (.fn 135 [] []) [t20, t24] H fun t25 H =>
   p.un .not t25 fun t26 =>
   p.cond t26
   (k (.sc (.bool false)) H)
   (p.bin .add t5 (.sc (.int .i64 1)) fun t16 =>
   f93_l0 p n  k m t0 t1 t16 H))
   (k (.sc (.bool true)) H)
noncomputable def f93 (p : Pr β) (n : Nat) (a0 a1 : AV) (H : Heap) (k : AV → Heap → Option β) : Option β :=
 p.len a0 fun t7 =>
 p.len a1 fun t9 =>
 p.bin .neq t7 t9 fun t10 =>
 p.cond t10
 (k (.sc (.bool false)) H)
 (f93_l0 p n  k n a0 a1 (.sc (.int .i64 0)) H)
noncomputable def f93_L0 (p : Pr β) (n : Nat)  (k : AV → Heap → Option β) (m : Nat) (tm : Tm) (H : Heap) : Option β :=
 iterC 27 (fun tm H k => evalCode ti0 p o93 27 n (cd c93 [1, 1, 0, 1, 0, 0]) tm H k) (blkK 0 (seqK (fun tm H => evalCode ti0 p o93 27 n (cd c93 [1, 1, 1]) tm H (endK ti0 p Go.Proofs.Tryz.f93.results.toList k)) (endK ti0 p Go.Proofs.Tryz.f93.results.toList k))) m tm H
theorem f93_L0_step (p : Pr β) (n : Nat)  (k : AV → Heap → Option β) (m0 : Nat) (t : Nat → AV) (H : Heap) : f93_L0 p n  k (m0 + 1) (tf 27 0 t) H =
 p.len (t 0) fun t13 =>
 p.bin .lss (t 5) t13 fun t14 =>
 p.cond t14
 (p.iadr 2 (t 0) (t 5) fun t19 =>
 p.load true 2 t19 H fun t20 =>
 p.iadr 2 (t 1) (t 5) fun t23 =>
 p.load true 2 t23 H fun t24 =>
 p.call 4 (.fn 135 [] []) [t20, t24] H fun t25 H =>
 p.un .not t25 fun t26 =>
 p.cond t26
 (k (.sc (.bool false)) H)
 (p.bin .add (t 5) (.sc (.int .i64 1)) fun t16 =>
 f93_L0 p n  k m0 (tf 27 0 (ud [(5, t16), (11, (t 5)), (12, (t 0)), (13, t13), (14, t14), (15, (t 5)), (16, t16), (17, (t 0)), (18, (t 5)), (19, t19), (20, t20), (21, (t 1)), (22, (t 5)), (23, t23), (24, t24), (25, t25), (26, t26)] t)) H))
 (k (.sc (.bool true)) H) := by kernel_rfl
theorem f93_l0_eq (p : Pr β) (n : Nat)  (k : AV → Heap → Option β)   (m0 : Nat) : ∀ (t : Nat → AV) (H : Heap), f93_L0 p n  k m0 (tf 27 0 t) H = f93_l0 p n  k m0 (t 0) (t 1) (t 5) H := by
 induction m0 with
 | zero => intros; rfl
 | succ m0 ih =>
  intro t H
  rw [f93_L0_step]
  simp only [ih]
  kernel_rfl
theorem f93_raw (p : Pr β) (n : Nat) (a0 a1 : AV) (H : Heap) (k : AV → Heap → Option β) : evalBody ti0 p n ⟨c93, 27, Go.Proofs.Tryz.f93.results.toList, o93⟩ [a0, a1] H k =
 p.len a0 fun t7 =>
 p.len a1 fun t9 =>
 p.bin .neq t7 t9 fun t10 =>
 p.cond t10
 (k (.sc (.bool false)) H)
 (f93_L0 p n  k n (tf 27 0 (ud [(0, a0), (1, a1), (4, (.sc (.bool false))), (5, (.sc (.int .i64 0))), (6, a0), (7, t7), (8, a1), (9, t9), (10, t10)] ut)) H) := by kernel_rfl
theorem f93_body (p : Pr β) (n : Nat) (a0 a1 : AV) (H : Heap) (k : AV → Heap → Option β) : evalBody ti0 p n ⟨c93, 27, Go.Proofs.Tryz.f93.results.toList, o93⟩ [a0, a1] H k = f93 p n a0 a1 H k := by
 rw [f93_raw]
 simp only [f93_l0_eq]
 kernel_rfl
noncomputable def f94_l0 (p : Pr β) (n : Nat)  (k : AV → Heap → Option β) : Nat → AV → AV → AV → Heap → Option β
 | 0, _, _, _, _ => none
 | m + 1, t0, t1, t5, H => p.len t0 fun t13 =>
   p.bin .lss t5 t13 fun t14 =>
   p.cond t14
   (p.iadr 1 t0 t5 fun t19 =>
   p.load false 1 t19 H fun t20 =>
   p.iadr 1 t1 t5 fun t23 =>
   p.load false 1 t23 H fun t24 =>
   p.bin .neq t20 t24 fun t25 =>
   p.cond t25
   (k (.sc (.bool false)) H)
   (p.bin .add t5 (.sc (.int .i64 1)) fun t16 =>
   f94_l0 p n  k m t0 t1 t16 H))
   (k (.sc (.bool true)) H)
noncomputable def f94 (p : Pr β) (n : Nat) (a0 a1 : AV) (H : Heap) (k : AV → Heap → Option β) : Option β :=
 p.len a0 fun t7 =>
 p.len a1 fun t9 =>
 p.bin .neq t7 t9 fun t10 =>
 p.cond t10
 (k (.sc (.bool false)) H)
 (f94_l0 p n  k n a0 a1 (.sc (.int .i64 0)) H)
noncomputable def f94_L0 (p : Pr β) (n : Nat)  (k : AV → Heap → Option β) (m : Nat) (tm : Tm) (H : Heap) : Option β :=
 iterC 26 (fun tm H k => evalCode ti0 p o94 26 n (cd c94 [1, 1, 0, 1, 0, 0]) tm H k) (blkK 0 (seqK (fun tm H => evalCode ti0 p o94 26 n (cd c94 [1, 1, 1]) tm H (endK ti0 p Go.Proofs.Tryz.f94.results.toList k)) (endK ti0 p Go.Proofs.Tryz.f94.results.toList k))) m tm H
theorem f94_L0_step (p : Pr β) (n : Nat)  (k : AV → Heap → Option β) (m0 : Nat) (t : Nat → AV) (H : Heap) : f94_L0 p n  k (m0 + 1) (tf 26 0 t) H =
 p.len (t 0) fun t13 =>
 p.bin .lss (t 5) t13 fun t14 =>
 p.cond t14
 (p.iadr 1 (t 0) (t 5) fun t19 =>
 p.load false 1 t19 H fun t20 =>
 p.iadr 1 (t 1) (t 5) fun t23 =>
 p.load false 1 t23 H fun t24 =>
 p.bin .neq t20 t24 fun t25 =>
 p.cond t25
 (k (.sc (.bool false)) H)
 (p.bin .add (t 5) (.sc (.int .i64 1)) fun t16 =>
 f94_L0 p n  k m0 (tf 26 0 (ud [(5, t16), (11, (t 5)), (12, (t 0)), (13, t13), (14, t14), (15, (t 5)), (16, t16), (17, (t 0)), (18, (t 5)), (19, t19), (20, t20), (21, (t 1)), (22, (t 5)), (23, t23), (24, t24), (25, t25)] t)) H))
 (k (.sc (.bool true)) H) := by kernel_rfl
theorem f94_l0_eq (p : Pr β) (n : Nat)  (k : AV → Heap → Option β)   (m0 : Nat) : ∀ (t : Nat → AV) (H : Heap), f94_L0 p n  k m0 (tf 26 0 t) H = f94_l0 p n  k m0 (t 0) (t 1) (t 5) H := by
 induction m0 with
 | zero => intros; rfl
 | succ m0 ih =>
  intro t H
  rw [f94_L0_step]
  simp only [ih]
  kernel_rfl
theorem f94_raw (p : Pr β) (n : Nat) (a0 a1 : AV) (H : Heap) (k : AV → Heap → Option β) : evalBody ti0 p n ⟨c94, 26, Go.Proofs.Tryz.f94.results.toList, o94⟩ [a0, a1] H k =
 p.len a0 fun t7 =>
 p.len a1 fun t9 =>
 p.bin .neq t7 t9 fun t10 =>
 p.cond t10
 (k (.sc (.bool false)) H)
 (f94_L0 p n  k n (tf 26 0 (ud [(0, a0), (1, a1), (4, (.sc (.bool false))), (5, (.sc (.int .i64 0))), (6, a0), (7, t7), (8, a1), (9, t9), (10, t10)] ut)) H) := by kernel_rfl
theorem f94_body (p : Pr β) (n : Nat) (a0 a1 : AV) (H : Heap) (k : AV → Heap → Option β) : evalBody ti0 p n ⟨c94, 26, Go.Proofs.Tryz.f94.results.toList, o94⟩ [a0, a1] H k = f94 p n a0 a1 H k := by
 rw [f94_raw]
 simp only [f94_l0_eq]
 kernel_rfl
noncomputable def f55_l0 (p : Pr β) (n : Nat)  (k : AV → Heap → Option β) : Nat → AV → AV → AV → Heap → Option β
 | 0, _, _, _, _ => none
 | m + 1, t0, t1, t5, H => p.len t0 fun t13 =>
   p.bin .lss t5 t13 fun t14 =>
   p.cond t14
   (p.iadr 1 t0 t5 fun t19 =>
   p.load false 1 t19 H fun t20 =>
   p.iadr 1 t1 t5 fun t23 =>
   p.load false 1 t23 H fun t24 =>
   p.bin .neq t20 t24 fun t25 =>
   p.cond t25
   (k (.sc (.bool false)) H)
   (p.bin .add t5 (.sc (.int .i64 1)) fun t16 =>
   f55_l0 p n  k m t0 t1 t16 H))
   (k (.sc (.bool true)) H)
noncomputable def f55 (p : Pr β) (n : Nat) (a0 a1 : AV) (H : Heap) (k : AV → Heap → Option β) : Option β :=
 p.len a0 fun t7 =>
 p.len a1 fun t9 =>
 p.bin .neq t7 t9 fun t10 =>
 p.cond t10
 (k (.sc (.bool false)) H)
 (f55_l0 p n  k n a0 a1 (.sc (.int .i64 0)) H)
noncomputable def f55_L0 (p : Pr β) (n : Nat)  (k : AV → Heap → Option β) (m : Nat) (tm : Tm) (H : Heap) : Option β :=
 iterC 26 (fun tm H k => evalCode ti0 p o55 26 n (cd c55 [1, 1, 0, 1, 0, 0]) tm H k) (blkK 0 (seqK (fun tm H => evalCode ti0 p o55 26 n (cd c55 [1, 1, 1]) tm H (endK ti0 p Go.Proofs.Tryz.f55.results.toList k)) (endK ti0 p Go.Proofs.Tryz.f55.results.toList k))) m tm H
theorem f55_L0_step (p : Pr β) (n : Nat)  (k : AV → Heap → Option β) (m0 : Nat) (t : Nat → AV) (H : Heap) : f55_L0 p n  k (m0 + 1) (tf 26 0 t) H =
 p.len (t 0) fun t13 =>
 p.bin .lss (t 5) t13 fun t14 =>
 p.cond t14
 (p.iadr 1 (t 0) (t 5) fun t19 =>
 p.load false 1 t19 H fun t20 =>
 p.iadr 1 (t 1) (t 5) fun t23 =>
 p.load false 1 t23 H fun t24 =>
 p.bin .neq t20 t24 fun t25 =>
 p.cond t25
 (k (.sc (.bool false)) H)
 (p.bin .add (t 5) (.sc (.int .i64 1)) fun t16 =>
 f55_L0 p n  k m0 (tf 26 0 (ud [(5, t16), (11, (t 5)), (12, (t 0)), (13, t13), (14, t14), (15, (t 5)), (16, t16), (17, (t 0)), (18, (t 5)), (19, t19), (20, t20), (21, (t 1)), (22, (t 5)), (23, t23), (24, t24), (25, t25)] t)) H))
 (k (.sc (.bool true)) H) := by kernel_rfl
theorem f55_l0_eq (p : Pr β) (n : Nat)  (k : AV → Heap → Option β)   (m0 : Nat) : ∀ (t : Nat → AV) (H : Heap), f55_L0 p n  k m0 (tf 26 0 t) H = f55_l0 p n  k m0 (t 0) (t 1) (t 5) H := by
 induction m0 with
 | zero => intros; rfl
 | succ m0 ih =>
  intro t H
  rw [f55_L0_step]
  simp only [ih]
  kernel_rfl
theorem f55_raw (p : Pr β) (n : Nat) (a0 a1 : AV) (H : Heap) (k : AV → Heap → Option β) : evalBody ti0 p n ⟨c55, 26, Go.Proofs.Tryz.f55.results.toList, o55⟩ [a0, a1] H k =
 p.len a0 fun t7 =>
 p.len a1 fun t9 =>
 p.bin .neq t7 t9 fun t10 =>
 p.cond t10
 (k (.sc (.bool false)) H)
 (f55_L0 p n  k n (tf 26 0 (ud [(0, a0), (1, a1), (4, (.sc (.bool false))), (5, (.sc (.int .i64 0))), (6, a0), (7, t7), (8, a1), (9, t9), (10, t10)] ut)) H) := by kernel_rfl
theorem f55_body (p : Pr β) (n : Nat) (a0 a1 : AV) (H : Heap) (k : AV → Heap → Option β) : evalBody ti0 p n ⟨c55, 26, Go.Proofs.Tryz.f55.results.toList, o55⟩ [a0, a1] H k = f55 p n a0 a1 H k := by
 rw [f55_raw]
 simp only [f55_l0_eq]
 kernel_rfl
noncomputable def f36 (p : Pr β) (n : Nat) (a0 a1 : AV) (H : Heap) (k : AV → Heap → Option β) : Option β :=
 p.box a0 H fun t2 H =>
 p.box a1 H fun t3 H =>
 p.fadr 0 t2 fun t5 =>
 p.load false 1 t5 H fun t6 =>
 p.fadr 0 t3 fun t7 =>
 p.load false 1 t7 H fun t8 =>
 p.bin .neq t6 t8 fun t9 =>
 p.cond t9
 (k (.sc (.bool false)) H)
 (p.fadr 1 t2 fun t10 =>
 p.load false 1 t10 H fun t11 =>
 p.fadr 1 t3 fun t12 =>
 p.load false 1 t12 H fun t13 =>
 p.binB .neq t11 t13 fun t14 =>
 p.cond t14
 (k (.sc (.bool false)) H)
 (p.fadr 2 t2 fun t15 =>
 p.load false 1 t15 H fun t16 =>
 p.fadr 2 t3 fun t17 =>
 p.load false 1 t17 H fun t18 =>
 p.bin .neq t16 t18 fun t19 =>
 p.cond t19
 (k (.sc (.bool false)) H)
 (p.fadr 3 t2 fun t20 =>
 p.load false 1 t20 H fun t21 =>
 p.fadr 3 t3 fun t22 =>
 p.load false 1 t22 H fun t23 =>
 p.binB .neq t21 t23 fun t24 =>
 p.cond t24
 (k (.sc (.bool false)) H)
 (p.fadr 4 t2 fun t25 =>
 p.load false 1 t25 H fun t26 =>
 p.fadr 4 t3 fun t27 =>
 p.load false 1 t27 H fun t28 =>
 p.bin .neq t26 t28 fun t29 =>
 p.cond t29
 (k (.sc (.bool false)) H)
 (p.fadr 5 t2 fun t30 =>
 p.load false 1 t30 H fun t31 =>
 p.fadr 5 t3 fun t32 =>
 p.load false 1 t32 H fun t33 =>
 p.bin .neq t31 t33 fun t34 =>
 p.cond t34
 (k (.sc (.bool false)) H)
 (p.fadr 6 t2 fun t35 =>
 p.load false 1 t35 H fun t36 =>
 p.fadr 6 t3 fun t37 =>
 p.load false 1 t37 H fun t38 =>
 p.call 4 (.fn 63 [] []) [t36, t38] H fun t39 H =>
 p.un .not t39 fun t40 =>
 p.cond t40
 (k (.sc (.bool false)) H)
 (p.fadr 7 t2 fun t41 =>
 p.load false 1 t41 H fun t42 =>
 p.fadr 7 t3 fun t43 =>
 p.load false 1 t43 H fun t44 =>
 p.bin .neq t42 t44 fun t45 =>
 p.cond t45
 (k (.sc (.bool false)) H)
 (p.fadr 8 t2 fun t46 =>
 p.load false 1 t46 H fun t47 =>
 p.fadr 8 t3 fun t48 =>
 p.load false 1 t48 H fun t49 =>
 p.bin .neq t47 t49 fun t50 =>
 p.cond t50
 (k (.sc (.bool false)) H)
 (p.fadr 9 t2 fun t51 =>
 p.load false 1 t51 H fun t52 =>
 p.fadr 9 t3 fun t53 =>
 p.load false 1 t53 H fun t54 =>
 p.binB .neq t52 t54 fun t55 =>
 p.cond t55
 (k (.sc (.bool false)) H)
 (p.fadr 10 t2 fun t56 =>
 p.load false 1 t56 H fun t57 =>
 p.fadr 10 t3 fun t58 =>
 p.load false 1 t58 H fun t59 =>
 p.bin .neq t57 t59 fun t60 =>
 p.cond t60
 (k (.sc (.bool false)) H)
 (p.fadr 11 t2 fun t61 =>
 p.load false 1 t61 H fun t62 =>
 p.fadr 11 t3 fun t63 =>
 p.load false 1 t63 H fun t64 =>
 p.binB .neq t62 t64 fun t65 =>
 p.cond t65
 (k (.sc (.bool false)) H)
 (p.fadr 12 t2 fun t66 =>
 p.load false 1 t66 H fun t67 =>
 p.fadr 12 t3 fun t68 =>
 p.load false 1 t68 H fun t69 =>
 p.bin .neq t67 t69 fun t70 =>
 p.cond t70
 (k (.sc (.bool false)) H)
 (p.fadr 13 t2 fun t71 =>
 p.load false 1 t71 H fun t72 =>
 p.fadr 13 t3 fun t73 =>
 p.load false 1 t73 H fun t74 =>
 p.call 4 (.fn 63 [] []) [t72, t74] H fun t75 H =>
 p.un .not t75 fun t76 =>
 p.cond t76
 (k (.sc (.bool false)) H)
 (p.fadr 14 t2 fun t77 =>
 p.load false 1 t77 H fun t78 =>
 p.fadr 14 t3 fun t79 =>
 p.load false 1 t79 H fun t80 =>
 p.bin .neq t78 t80 fun t81 =>
 p.cond t81
 (k (.sc (.bool false)) H)
 (p.fadr 15 t2 fun t82 =>
 p.load false 1 t82 H fun t83 =>
 p.fadr 15 t3 fun t84 =>
 p.load false 1 t84 H fun t85 =>
 p.binB .neq t83 t85 fun t86 =>
 p.cond t86
 (k (.sc (.bool false)) H)
 (p.fadr 16 t2 fun t87 =>
 p.load false 1 t87 H fun t88 =>
 p.fadr 16 t3 fun t89 =>
 p.load false 1 t89 H fun t90 =>
 p.binB .neq t88 t90 fun t91 =>
 p.cond t91
 (k (.sc (.bool false)) H)
 (p.fadr 17 t2 fun t92 =>
 p.load false 1 t92 H fun t93 =>
 p.fadr 17 t3 fun t94 =>
 p.load false 1 t94 H fun t95 =>
 p.bin .neq t93 t95 fun t96 =>
 p.cond t96
 (k (.sc (.bool false)) H)
 (p.fadr 18 t2 fun t97 =>
 p.load false 1 t97 H fun t98 =>
 p.fadr 18 t3 fun t99 =>
 p.load false 1 t99 H fun t100 =>
 p.binB .neq t98 t100 fun t101 =>
 p.cond t101
 (k (.sc (.bool false)) H)
 (p.fadr 19 t2 fun t102 =>
 p.load false 1 t102 H fun t103 =>
 p.fadr 19 t3 fun t104 =>
 p.load false 1 t104 H fun t105 =>
 p.call 4 (.fn 63 [] []) [t103, t105] H fun t106 H =>
 p.un .not t106 fun t107 =>
 p.cond t107
 (k (.sc (.bool false)) H)
 (p.fadr 20 t2 fun t108 =>
 p.load false 1 t108 H fun t109 =>
 p.fadr 20 t3 fun t110 =>
 p.load false 1 t110 H fun t111 =>
 p.bin .neq t109 t111 fun t112 =>
 p.cond t112
 (k (.sc (.bool false)) H)
 (p.fadr 21 t2 fun t113 =>
 p.load false 1 t113 H fun t114 =>
 p.fadr 21 t3 fun t115 =>
 p.load false 1 t115 H fun t116 =>
 p.binB .neq t114 t116 fun t117 =>
 p.cond t117
 (k (.sc (.bool false)) H)
 (p.fadr 22 t2 fun t118 =>
 p.load false 1 t118 H fun t119 =>
 p.fadr 22 t3 fun t120 =>
 p.load false 1 t120 H fun t121 =>
 p.call 4 (.fn 93 [] []) [t119, t121] H fun t122 H =>
 p.un .not t122 fun t123 =>
 p.cond t123
 (k (.sc (.bool false)) H)
 (p.fadr 23 t2 fun t124 =>
 p.load false 1 t124 H fun t125 =>
 p.fadr 23 t3 fun t126 =>
 p.load false 1 t126 H fun t127 =>
 p.call 4 (.fn 94 [] []) [t125, t127] H fun t128 H =>
 p.un .not t128 fun t129 =>
 p.cond t129
 (k (.sc (.bool false)) H)
 (p.fadr 24 t2 fun t130 =>
 p.load false 1 t130 H fun t131 =>
 p.fadr 24 t3 fun t132 =>
 p.load false 1 t132 H fun t133 =>
 p.call 4 (.fn 55 [] []) [t131, t133] H fun t134 H =>
 p.un .not t134 fun t135 =>
 p.cond t135
 (k (.sc (.bool false)) H)
 (k (.sc (.bool true)) H)))))))))))))))))))))))))
theorem f36_body (p : Pr β) (n : Nat) (a0 a1 : AV) (H : Heap) (k : AV → Heap → Option β) : evalBody ti0 p n ⟨c36, 136, Go.Proofs.Tryz.f36.results.toList, o36⟩ [a0, a1] H k = f36 p n a0 a1 H k := by kernel_rfl
noncomputable def f29_l0 (p : Pr β) (n : Nat)  (k : AV → Heap → Option β) : Nat → AV → AV → AV → Heap → Option β
 | 0, _, _, _, _ => none
 | m + 1, t0, t1, t5, H => p.len t0 fun t13 =>
   p.bin .lss t5 t13 fun t14 =>
   p.cond t14
   (p.iadr 25 t0 t5 fun t19 =>
   p.load true 25 t19 H fun t20 =>
   p.iadr 25 t1 t5 fun t23 =>
   p.load true 25 t23 H fun t24 =>
   p.call 4 (.fn 36 [] []) [t20, t24] H fun t25 H =>
   p.un .not t25 fun t26 =>
   p.cond t26
   (k (.sc (.bool false)) H)
   (p.bin .add t5 (.sc (.int .i64 1)) fun t16 =>
   f29_l0 p n  k m t0 t1 t16 H))
   (k (.sc (.bool true)) H)
noncomputable def f29 (p : Pr β) (n : Nat) (a0 a1 : AV) (H : Heap) (k : AV → Heap → Option β) : Option β :=
 p.len a0 fun t7 =>
 p.len a1 fun t9 =>
 p.bin .neq t7 t9 fun t10 =>
 p.cond t10
 (k (.sc (.bool false)) H)
 (f29_l0 p n  k n a0 a1 (.sc (.int .i64 0)) H)
noncomputable def f29_L0 (p : Pr β) (n : Nat)  (k : AV → Heap → Option β) (m : Nat) (tm : Tm) (H : Heap) : Option β :=
 iterC 27 (fun tm H k => evalCode ti0 p o29 27 n (cd c29 [1, 1, 0, 1, 0, 0]) tm H k) (blkK 0 (seqK (fun tm H => evalCode ti0 p o29 27 n (cd c29 [1, 1, 1]) tm H (endK ti0 p Go.Proofs.Tryz.f29.results.toList k)) (endK ti0 p Go.Proofs.Tryz.f29.results.toList k))) m tm H
theorem f29_L0_step (p : Pr β) (n : Nat)  (k : AV → Heap → Option β) (m0 : Nat) (t : Nat → AV) (H : Heap) : f29_L0 p n  k (m0 + 1) (tf 27 0 t) H =
 p.len (t 0) fun t13 =>
 p.bin .lss (t 5) t13 fun t14 =>
 p.cond t14
 (p.iadr 25 (t 0) (t 5) fun t19 =>
 p.load true 25 t19 H fun t20 =>
 p.iadr 25 (t 1) (t 5) fun t23 =>
 p.load true 25 t23 H fun t24 =>
 p.call 4 (.fn 36 [] []) [t20, t24] H fun t25 H =>
 p.un .not t25 fun t26 =>
 p.cond t26
 (k (.sc (.bool false)) H)
 (p.bin .add (t 5) (.sc (.int .i64 1)) fun t16 =>
 f29_L0 p n  k m0 (tf 27 0 (ud [(5, t16), (11, (t 5)), (12, (t 0)), (13, t13), (14, t14), (15, (t 5)), (16, t16), (17, (t 0)), (18, (t 5)), (19, t19), (20, t20), (21, (t 1)), (22, (t 5)), (23, t23), (24, t24), (25, t25), (26, t26)] t)) H))
 (k (.sc (.bool true)) H) := by kernel_rfl
theorem f29_l0_eq (p : Pr β) (n : Nat)  (k : AV → Heap → Option β)   (m0 : Nat) : ∀ (t : Nat → AV) (H : Heap), f29_L0 p n  k m0 (tf 27 0 t) H = f29_l0 p n  k m0 (t 0) (t 1) (t 5) H := by
 induction m0 with
 | zero => intros; rfl
 | succ m0 ih =>
  intro t H
  rw [f29_L0_step]
  simp only [ih]
  kernel_rfl
theorem f29_raw (p : Pr β) (n : Nat) (a0 a1 : AV) (H : Heap) (k : AV → Heap → Option β) : evalBody ti0 p n ⟨c29, 27, Go.Proofs.Tryz.f29.results.toList, o29⟩ [a0, a1] H k =
 p.len a0 fun t7 =>
 p.len a1 fun t9 =>
 p.bin .neq t7 t9 fun t10 =>
 p.cond t10
 (k (.sc (.bool false)) H)
 (f29_L0 p n  k n (tf 27 0 (ud [(0, a0), (1, a1), (4, (.sc (.bool false))), (5, (.sc (.int .i64 0))), (6, a0), (7, t7), (8, a1), (9, t9), (10, t10)] ut)) H) := by kernel_rfl
theorem f29_body (p : Pr β) (n : Nat) (a0 a1 : AV) (H : Heap) (k : AV → Heap → Option β) : evalBody ti0 p n ⟨c29, 27, Go.Proofs.Tryz.f29.results.toList, o29⟩ [a0, a1] H k = f29 p n a0 a1 H k := by
 rw [f29_raw]
 simp only [f29_l0_eq]
 kernel_rfl
noncomputable def f23 (p : Pr β) (n : Nat) (a0 a1 : AV) (H : Heap) (k : AV → Heap → Option β) : Option β :=
 p.box a0 H fun t2 H =>
 p.box a1 H fun t3 H =>
 p.fadr 0 t2 fun t5 =>
 p.load false 1 t5 H fun t6 =>
 p.fadr 0 t3 fun t7 =>
 p.load false 1 t7 H fun t8 =>
 p.bin .neq t6 t8 fun t9 =>
 p.cond t9
 (k (.sc (.bool false)) H)
 (p.fadr 1 t2 fun t10 =>
 p.load false 1 t10 H fun t11 =>
 p.fadr 1 t3 fun t12 =>
 p.load false 1 t12 H fun t13 =>
 p.call 4 (.fn 63 [] []) [t11, t13] H fun t14 H =>
 p.un .not t14 fun t15 =>
 p.cond t15
 (k (.sc (.bool false)) H)
 (p.fadr 2 t2 fun t16 =>
 p.load false 1 t16 H fun t17 =>
 p.fadr 2 t3 fun t18 =>
 p.load false 1 t18 H fun t19 =>
 p.bin .neq t17 t19 fun t20 =>
 p.cond t20
 (k (.sc (.bool false)) H)
 (p.fadr 3 t2 fun t21 =>
 p.load false 1 t21 H fun t22 =>
 p.fadr 3 t3 fun t23 =>
 p.load false 1 t23 H fun t24 =>
 p.binB .neq t22 t24 fun t25 =>
 p.cond t25
 (k (.sc (.bool false)) H)
 (k (.sc (.bool true)) H))))
theorem f23_body (p : Pr β) (n : Nat) (a0 a1 : AV) (H : Heap) (k : AV → Heap → Option β) : evalBody ti0 p n ⟨c23, 26, Go.Proofs.Tryz.f23.results.toList, o23⟩ [a0, a1] H k = f23 p n a0 a1 H k := by kernel_rfl
noncomputable def f129 (p : Pr β) (n : Nat) (a0 a1 : AV) (H : Heap) (k : AV → Heap → Option β) : Option β :=
 p.box a0 H fun t2 H =>
 p.box a1 H fun t3 H =>
 p.fadr 0 t2 fun t5 =>
 p.load false 1 t5 H fun t6 =>
 p.fadr 0 t3 fun t7 =>
 p.load false 1 t7 H fun t8 =>
 p.bin .neq t6 t8 fun t9 =>
 p.cond t9
 (k (.sc (.bool false)) H)
 (p.fadr 1 t2 fun t10 =>
 p.load true 4 t10 H fun t11 =>
 p.fadr 1 t3 fun t12 =>
 p.load true 4 t12 H fun t13 =>
 p.call 4 (.fn 23 [] []) [t11, t13] H fun t14 H =>
 p.un .not t14 fun t15 =>
 p.cond t15
 (k (.sc (.bool false)) H)
 (p.fadr 5 t2 fun t16 =>
 p.load false 1 t16 H fun t17 =>
 p.fadr 5 t3 fun t18 =>
 p.load false 1 t18 H fun t19 =>
 p.bin .neq t17 t19 fun t20 =>
 p.cond t20
 (k (.sc (.bool false)) H)
 (k (.sc (.bool true)) H)))
theorem f129_body (p : Pr β) (n : Nat) (a0 a1 : AV) (H : Heap) (k : AV → Heap → Option β) : evalBody ti0 p n ⟨c129, 21, Go.Proofs.Tryz.f129.results.toList, o129⟩ [a0, a1] H k = f129 p n a0 a1 H k := by kernel_rfl
noncomputable def f75_l0 (p : Pr β) (n : Nat)  (k : AV → Heap → Option β) : Nat → AV → AV → AV → Heap → Option β
 | 0, _, _, _, _ => none
 | m + 1, t0, t1, t5, H => p.len t0 fun t13 =>
   p.bin .lss t5 t13 fun t14 =>
   p.cond t14
   (p.iadr 6 t0 t5 fun t19 =>
   p.load true 6 t19 H fun t20 =>
   p.iadr 6 t1 t5 fun t23 =>
   p.load true 6 t23 H fun t24 =>
   p.call 4 (.fn 129 [] []) [t20, t24] H fun t25 H =>
   p.un .not t25 fun t26 =>
   p.cond t26
   (k (.sc (.bool false)) H)
   (p.bin .add t5 (.sc (.int .i64 1)) fun t16 =>
   f75_l0 p n  k m t0 t1 t16 H))
   (k (.sc (.bool true)) H)
noncomputable def f75 (p : Pr β) (n : Nat) (a0 a1 : AV) (H : Heap) (k : AV → Heap → Option β) : Option β :=
 p.len a0 fun t7 =>
 p.len a1 fun t9 =>
 p.bin .neq t7 t9 fun t10 =>
 p.cond t10
 (k (.sc (.bool false)) H)
 (f75_l0 p n  k n a0 a1 (.sc (.int .i64 0)) H)
noncomputable def f75_L0 (p : Pr β) (n : Nat)  (k : AV → Heap → Option β) (m : Nat) (tm : Tm) (H : Heap) : Option β :=
 iterC 27 (fun tm H k => evalCode ti0 p o75 27 n (cd c75 [1, 1, 0, 1, 0, 0]) tm H k) (blkK 0 (seqK (fun tm H => evalCode ti0 p o75 27 n (cd c75 [1, 1, 1]) tm H (endK ti0 p Go.Proofs.Tryz.f75.results.toList k)) (endK ti0 p Go.Proofs.Tryz.f75.results.toList k))) m tm H
theorem f75_L0_step (p : Pr β) (n : Nat)  (k : AV → Heap → Option β) (m0 : Nat) (t : Nat → AV) (H : Heap) : f75_L0 p n  k (m0 + 1) (tf 27 0 t) H =
 p.len (t 0) fun t13 =>
 p.bin .lss (t 5) t13 fun t14 =>
 p.cond t14
 (p.iadr 6 (t 0) (t 5) fun t19 =>
 p.load true 6 t19 H fun t20 =>
 p.iadr 6 (t 1) (t 5) fun t23 =>
 p.load true 6 t23 H fun t24 =>
 p.call 4 (.fn 129 [] []) [t20, t24] H fun t25 H =>
 p.un .not t25 fun t26 =>
 p.cond t26
 (k (.sc (.bool false)) H)
 (p.bin .add (t 5) (.sc (.int .i64 1)) fun t16 =>
 f75_L0 p n  k m0 (tf 27 0 (ud [(5, t16), (11, (t 5)), (12, (t 0)), (13, t13), (14, t14), (15, (t 5)), (16, t16), (17, (t 0)), (18, (t 5)), (19, t19), (20, t20), (21, (t 1)), (22, (t 5)), (23, t23), (24, t24), (25, t25), (26, t26)] t)) H))
 (k (.sc (.bool true)) H) := by kernel_rfl
theorem f75_l0_eq (p : Pr β) (n : Nat)  (k : AV → Heap → Option β)   (m0 : Nat) : ∀ (t : Nat → AV) (H : Heap), f75_L0 p n  k m0 (tf 27 0 t) H = f75_l0 p n  k m0 (t 0) (t 1) (t 5) H := by
 induction m0 with
 | zero => intros; rfl
 | succ m0 ih =>
  intro t H
  rw [f75_L0_step]
  simp only [ih]
  kernel_rfl
theorem f75_raw (p : Pr β) (n : Nat) (a0 a1 : AV) (H : Heap) (k : AV → Heap → Option β) : evalBody ti0 p n ⟨c75, 27, Go.Proofs.Tryz.f75.results.toList, o75⟩ [a0, a1] H k =
 p.len a0 fun t7 =>
 p.len a1 fun t9 =>
 p.bin .neq t7 t9 fun t10 =>
 p.cond t10
 (k (.sc (.bool false)) H)
 (f75_L0 p n  k n (tf 27 0 (ud [(0, a0), (1, a1), (4, (.sc (.bool false))), (5, (.sc (.int .i64 0))), (6, a0), (7, t7), (8, a1), (9, t9), (10, t10)] ut)) H) := by kernel_rfl
theorem f75_body (p : Pr β) (n : Nat) (a0 a1 : AV) (H : Heap) (k : AV → Heap → Option β) : evalBody ti0 p n ⟨c75, 27, Go.Proofs.Tryz.f75.results.toList, o75⟩ [a0, a1] H k = f75 p n a0 a1 H k := by
 rw [f75_raw]
 simp only [f75_l0_eq]
 kernel_rfl
noncomputable def f76_l0 (p : Pr β) (n : Nat)  (k : AV → Heap → Option β) : Nat → AV → AV → AV → Heap → Option β
 | 0, _, _, _, _ => none
 | m + 1, t0, t1, t5, H => p.len t0 fun t13 =>
   p.bin .lss t5 t13 fun t14 =>
   p.cond t14
   (p.iadr 4 t0 t5 fun t19 =>
   p.load true 4 t19 H fun t20 =>
   p.iadr 4 t1 t5 fun t23 =>
   p.load true 4 t23 H fun t24 =>
   p.call 4 (.fn 23 [] []) [t20, t24] H fun t25 H =>
   p.un .not t25 fun t26 =>
   p.cond t26
   (k (.sc (.bool false)) H)
   (p.bin .add t5 (.sc (.int .i64 1)) fun t16 =>
   f76_l0 p n  k m t0 t1 t16 H))
   (k (.sc (.bool true)) H)
noncomputable def f76 (p : Pr β) (n : Nat) (a0 a1 : AV) (H : Heap) (k : AV → Heap → Option β) : Option β :=
 p.len a0 fun t7 =>
 p.len a1 fun t9 =>
 p.bin .neq t7 t9 fun t10 =>
 p.cond t10
 (k (.sc (.bool false)) H)
 (f76_l0 p n  k n a0 a1 (.sc (.int .i64 0)) H)
noncomputable def f76_L0 (p : Pr β) (n : Nat)  (k : AV → Heap → Option β) (m : Nat) (tm : Tm) (H : Heap) : Option β :=
 iterC 27 (fun tm H k => evalCode ti0 p o76 27 n (cd c76 [1, 1, 0, 1, 0, 0]) tm H k) (blkK 0 (seqK (fun tm H => evalCode ti0 p o76 27 n (cd c76 [1, 1, 1]) tm H (endK ti0 p Go.Proofs.Tryz.f76.results.toList k)) (endK ti0 p Go.Proofs.Tryz.f76.results.toList k))) m tm H
theorem f76_L0_step (p : Pr β) (n : Nat)  (k : AV → Heap → Option β) (m0 : Nat) (t : Nat → AV) (H : Heap) : f76_L0 p n  k (m0 + 1) (tf 27 0 t) H =
 p.len (t 0) fun t13 =>
 p.bin .lss (t 5) t13 fun t14 =>
 p.cond t14
 (p.iadr 4 (t 0) (t 5) fun t19 =>
 p.load true 4 t19 H fun t20 =>
 p.iadr 4 (t 1) (t 5) fun t23 =>
 p.load true 4 t23 H fun t24 =>
 p.call 4 (.fn 23 [] []) [t20, t24] H fun t25 H =>
 p.un .not t25 fun t26 =>
 p.cond t26
 (k (.sc (.bool false)) H)
 (p.bin .add (t 5) (.sc (.int .i64 1)) fun t16 =>
 f76_L0 p n  k m0 (tf 27 0 (ud [(5, t16), (11, (t 5)), (12, (t 0)), (13, t13), (14, t14), (15, (t 5)), (16, t16), (17, (t 0)), (18, (t 5)), (19, t19), (20, t20), (21, (t 1)), (22, (t 5)), (23, t23), (24, t24), (25, t25), (26, t26)] t)) H))
 (k (.sc (.bool true)) H) := by kernel_rfl
theorem f76_l0_eq (p : Pr β) (n : Nat)  (k : AV → Heap → Option β)   (m0 : Nat) : ∀ (t : Nat → AV) (H : Heap), f76_L0 p n  k m0 (tf 27 0 t) H = f76_l0 p n  k m0 (t 0) (t 1) (t 5) H := by
 induction m0 with
 | zero => intros; rfl
 | succ m0 ih =>
  intro t H
  rw [f76_L0_step]
  simp only [ih]
  kernel_rfl
theorem f76_raw (p : Pr β) (n : Nat) (a0 a1 : AV) (H : Heap) (k : AV → Heap → Option β) : evalBody ti0 p n ⟨c76, 27, Go.Proofs.Tryz.f76.results.toList, o76⟩ [a0, a1] H k =
 p.len a0 fun t7 =>
 p.len a1 fun t9 =>
 p.bin .neq t7 t9 fun t10 =>
 p.cond t10
 (k (.sc (.bool false)) H)
 (f76_L0 p n  k n (tf 27 0 (ud [(0, a0), (1, a1), (4, (.sc (.bool false))), (5, (.sc (.int .i64 0))), (6, a0), (7, t7), (8, a1), (9, t9), (10, t10)] ut)) H) := by kernel_rfl
theorem f76_body (p : Pr β) (n : Nat) (a0 a1 : AV) (H : Heap) (k : AV → Heap → Option β) : evalBody ti0 p n ⟨c76, 27, Go.Proofs.Tryz.f76.results.toList, o76⟩ [a0, a1] H k = f76 p n a0 a1 H k := by
 rw [f76_raw]
 simp only [f76_l0_eq]
 kernel_rfl
noncomputable def f30 (p : Pr β) (n : Nat) (a0 a1 : AV) (H : Heap) (k : AV → Heap → Option β) : Option β :=
 p.box a0 H fun t2 H =>
 p.box a1 H fun t3 H =>
 p.fadr 0 t2 fun t5 =>
 p.load false 1 t5 H fun t6 =>
 p.fadr 0 t3 fun t7 =>
 p.load false 1 t7 H fun t8 =>
 p.bin .neq t6 t8 fun t9 =>
 p.cond t9
 (k (.sc (.bool false)) H)
 (p.fadr 1 t2 fun t10 =>
 p.load false 1 t10 H fun t11 =>
 p.fadr 1 t3 fun t12 =>
 p.load false 1 t12 H fun t13 =>
 p.call 4 (.fn 75 [] []) [t11, t13] H fun t14 H =>
 p.un .not t14 fun t15 =>
 p.cond t15
 (k (.sc (.bool false)) H)
 (p.fadr 2 t2 fun t16 =>
 p.load false 1 t16 H fun t17 =>
 p.fadr 2 t3 fun t18 =>
 p.load false 1 t18 H fun t19 =>
 p.call 4 (.fn 76 [] []) [t17, t19] H fun t20 H =>
 p.un .not t20 fun t21 =>
 p.cond t21
 (k (.sc (.bool false)) H)
 (k (.sc (.bool true)) H)))
theorem f30_body (p : Pr β) (n : Nat) (a0 a1 : AV) (H : Heap) (k : AV → Heap → Option β) : evalBody ti0 p n ⟨c30, 22, Go.Proofs.Tryz.f30.results.toList, o30⟩ [a0, a1] H k = f30 p n a0 a1 H k := by kernel_rfl
noncomputable def f79_l0 (p : Pr β) (n : Nat)  (k : AV → Heap → Option β) : Nat → AV → AV → Heap → Option β
 | 0, _, _, _ => none
 | m + 1, t0, t3, H => p.bin .gtr t0 (.sc (.int .i64 0)) fun t7 =>
   p.cond t7
   (p.bin .rem t0 (.sc (.int .i64 10)) fun t9 =>
   p.bin .add (.sc (.int .i64 48)) t9 fun t10 =>
   p.cvI .u8 t10 fun t11 =>
   p.fill [(.sc (.int .u8 0))] [(0, 1, t11)] fun ct12 => p.newSl 1 1 ct12 true H fun t12 H =>
   p.cvBS t12 H fun t13 =>
   p.bin .add t13 t3 fun t15 =>
   p.bin .quo t0 (.sc (.int .i64 10)) fun t17 =>
   f79_l0 p n  k m t17 t15 H)
   (p.bin .add (.sc (.string ⟨#[109]⟩)) t3 fun t19 =>
   k t19 H)
noncomputable def f79 (p : Pr β) (n : Nat) (a0 : AV) (H : Heap) (k : AV → Heap → Option β) : Option β :=
 p.bin .leq a0 (.sc (.int .i64 0)) fun t5 =>
 p.cond t5
 (k (.sc (.string ⟨#[109, 48]⟩)) H)
 (f79_l0 p n  k n a0 (.sc (.string ⟨#[]⟩)) H)
noncomputable def f79_L0 (p : Pr β) (n : Nat)  (k : AV → Heap → Option β) (m : Nat) (tm : Tm) (H : Heap) : Option β :=
 iterC 20 (fun tm H k => evalCode ti0 p o79 20 n (cd c79 [1, 1, 1, 0, 0, 0]) tm H k) (blkK 0 (seqK (fun tm H => evalCode ti0 p o79 20 n (cd c79 [1, 1, 1, 1]) tm H (endK ti0 p Go.Proofs.Tryz.f79.results.toList k)) (endK ti0 p Go.Proofs.Tryz.f79.results.toList k))) m tm H
theorem f79_L0_step (p : Pr β) (n : Nat)  (k : AV → Heap → Option β) (m0 : Nat) (t : Nat → AV) (H : Heap) : f79_L0 p n  k (m0 + 1) (tf 20 0 t) H =
 p.bin .gtr (t 0) (.sc (.int .i64 0)) fun t7 =>
 p.cond t7
 (p.bin .rem (t 0) (.sc (.int .i64 10)) fun t9 =>
 p.bin .add (.sc (.int .i64 48)) t9 fun t10 =>
 p.cvI .u8 t10 fun t11 =>
 p.fill [(.sc (.int .u8 0))] [(0, 1, t11)] fun ct12 => p.newSl 1 1 ct12 true H fun t12 H =>
 p.cvBS t12 H fun t13 =>
 p.bin .add t13 (t 3) fun t15 =>
 p.bin .quo (t 0) (.sc (.int .i64 10)) fun t17 =>
 f79_L0 p n  k m0 (tf 20 0 (ud [(0, t17), (3, t15), (6, (t 0)), (7, t7), (8, (t 0)), (9, t9), (10, t10), (11, t11), (12, t12), (13, t13), (14, (t 3)), (15, t15), (16, (t 0)), (17, t17)] t)) H)
 (p.bin .add (.sc (.string ⟨#[109]⟩)) (t 3) fun t19 =>
 k t19 H) := by kernel_rfl
theorem f79_l0_eq (p : Pr β) (n : Nat)  (k : AV → Heap → Option β)   (m0 : Nat) : ∀ (t : Nat → AV) (H : Heap), f79_L0 p n  k m0 (tf 20 0 t) H = f79_l0 p n  k m0 (t 0) (t 3) H := by
 induction m0 with
 | zero => intros; rfl
 | succ m0 ih =>
  intro t H
  rw [f79_L0_step]
  simp only [ih]
  kernel_rfl
theorem f79_raw (p : Pr β) (n : Nat) (a0 : AV) (H : Heap) (k : AV → Heap → Option β) : evalBody ti0 p n ⟨c79, 20, Go.Proofs.Tryz.f79.results.toList, o79⟩ [a0] H k =
 p.bin .leq a0 (.sc (.int .i64 0)) fun t5 =>
 p.cond t5
 (k (.sc (.string ⟨#[109, 48]⟩)) H)
 (f79_L0 p n  k n (tf 20 0 (ud [(0, a0), (2, (.sc (.string ⟨#[]⟩))), (3, (.sc (.string ⟨#[]⟩))), (4, a0), (5, t5)] ut)) H) := by kernel_rfl
theorem f79_body (p : Pr β) (n : Nat) (a0 : AV) (H : Heap) (k : AV → Heap → Option β) : evalBody ti0 p n ⟨c79, 20, Go.Proofs.Tryz.f79.results.toList, o79⟩ [a0] H k = f79 p n a0 H k := by
 rw [f79_raw]
 simp only [f79_l0_eq]
 kernel_rfl
noncomputable def f64_l0 (p : Pr β) (n : Nat)  (k : AV → Heap → Option β) : Nat → AV → AV → AV → Heap → Option β
 | 0, _, _, _, _ => none
 | m + 1, t0, t1, t5, H => p.len t0 fun t8 =>
   p.bin .lss t5 t8 fun t9 =>
   p.cond t9
   (p.cvI .u8 t1 fun t15 =>
   p.iadr 1 t0 t5 fun t16 =>
   p.store 1 t16 t15 H fun H =>
   p.bin .add t1 (.sc (.int .i64 1)) fun t18 =>
   p.bin .add t5 (.sc (.int .i64 1)) fun t11 =>
   f64_l0 p n  k m t0 t18 t11 H)
   (k t1 H)
noncomputable def f64 (p : Pr β) (n : Nat) (a0 a1 : AV) (H : Heap) (k : AV → Heap → Option β) : Option β :=
 f64_l0 p n  k n a0 a1 (.sc (.int .i64 0)) H
noncomputable def f64_L0 (p : Pr β) (n : Nat)  (k : AV → Heap → Option β) (m : Nat) (tm : Tm) (H : Heap) : Option β :=
 iterC 20 (fun tm H k => evalCode ti0 p o64 20 n (cd c64 [1, 0, 1, 0, 0]) tm H k) (blkK 0 (seqK (fun tm H => evalCode ti0 p o64 20 n (cd c64 [1, 1]) tm H (endK ti0 p Go.Proofs.Tryz.f64.results.toList k)) (endK ti0 p Go.Proofs.Tryz.f64.results.toList k))) m tm H
theorem f64_L0_step (p : Pr β) (n : Nat)  (k : AV → Heap → Option β) (m0 : Nat) (t : Nat → AV) (H : Heap) : f64_L0 p n  k (m0 + 1) (tf 20 0 t) H =
 p.len (t 0) fun t8 =>
 p.bin .lss (t 5) t8 fun t9 =>
 p.cond t9
 (p.cvI .u8 (t 1) fun t15 =>
 p.iadr 1 (t 0) (t 5) fun t16 =>
 p.store 1 t16 t15 H fun H =>
 p.bin .add (t 1) (.sc (.int .i64 1)) fun t18 =>
 p.bin .add (t 5) (.sc (.int .i64 1)) fun t11 =>
 f64_L0 p n  k m0 (tf 20 0 (ud [(1, t18), (5, t11), (6, (t 5)), (7, (t 0)), (8, t8), (9, t9), (10, (t 5)), (11, t11), (12, (t 0)), (13, (t 5)), (14, (t 1)), (15, t15), (16, t16), (17, (t 1)), (18, t18)] t)) H)
 (k (t 1) H) := by kernel_rfl
theorem f64_l0_eq (p : Pr β) (n : Nat)  (k : AV → Heap → Option β)   (m0 : Nat) : ∀ (t : Nat → AV) (H : Heap), f64_L0 p n  k m0 (tf 20 0 t) H = f64_l0 p n  k m0 (t 0) (t 1) (t 5) H := by
 induction m0 with
 | zero => intros; rfl
 | succ m0 ih =>
  intro t H
  rw [f64_L0_step]
  simp only [ih]
  kernel_rfl
theorem f64_raw (p : Pr β) (n : Nat) (a0 a1 : AV) (H : Heap) (k : AV → Heap → Option β) : evalBody ti0 p n ⟨c64, 20, Go.Proofs.Tryz.f64.results.toList, o64⟩ [a0, a1] H k =
 f64_L0 p n  k n (tf 20 0 (ud [(0, a0), (1, a1), (4, (.sc (.int .i64 0))), (5, (.sc (.int .i64 0)))] ut)) H := by kernel_rfl
theorem f64_body (p : Pr β) (n : Nat) (a0 a1 : AV) (H : Heap) (k : AV → Heap → Option β) : evalBody ti0 p n ⟨c64, 20, Go.Proofs.Tryz.f64.results.toList, o64⟩ [a0, a1] H k = f64 p n a0 a1 H k := by
 rw [f64_raw]
 simp only [f64_l0_eq]
 kernel_rfl
noncomputable def f77_l0 (p : Pr β) (n : Nat)  (k : AV → Heap → Option β) : Nat → AV → AV → AV → Heap → Option β
 | 0, _, _, _, _ => none
 | m + 1, t0, t1, t5, H => p.len t0 fun t8 =>
   p.bin .lss t5 t8 fun t9 =>
   p.cond t9
   (p.iadr 6 t0 t5 fun t15 =>
   p.fadr 0 t15 fun t16 =>
   p.store 1 t16 t1 H fun H =>
   p.bin .add t1 (.sc (.int .i64 1)) fun t18 =>
   p.call 9 (.fn 79 [] []) [t18] H fun t22 H =>
   p.iadr 6 t0 t5 fun t23 =>
   p.fadr 1 t23 fun t24 =>
   p.fadr 0 t24 fun t25 =>
   p.store 1 t25 t22 H fun H =>
   p.bin .add t18 (.sc (.int .i64 1)) fun t27 =>
   p.iadr 6 t0 t5 fun t30 =>
   p.fadr 1 t30 fun t31 =>
   p.fadr 1 t31 fun t32 =>
   p.load false 1 t32 H fun t33 =>
   p.call 3 (.fn 64 [] []) [t33, t27] H fun t35 H =>
   p.iadr 6 t0 t5 fun t39 =>
   p.fadr 1 t39 fun t40 =>
   p.fadr 2 t40 fun t41 =>
   p.store 1 t41 t35 H fun H =>
   p.bin .add t35 (.sc (.int .i64 1)) fun t43 =>
   p.bin .rem t43 (.sc (.int .i64 3)) fun t47 =>
   p.bin .eql t47 (.sc (.int .i64 0)) fun t48 =>
   p.iadr 6 t0 t5 fun t49 =>
   p.fadr 1 t49 fun t50 =>
   p.fadr 3 t50 fun t51 =>
   p.store 1 t51 t48 H fun H =>
   p.bin .add t43 (.sc (.int .i64 1)) fun t53 =>
   p.iadr 6 t0 t5 fun t57 =>
   p.fadr 5 t57 fun t58 =>
   p.store 1 t58 t53 H fun H =>
   p.bin .add t53 (.sc (.int .i64 1)) fun t60 =>
   p.bin .add t5 (.sc (.int .i64 1)) fun t11 =>
   f77_l0 p n  k m t0 t60 t11 H)
   (k t1 H)
noncomputable def f77 (p : Pr β) (n : Nat) (a0 a1 : AV) (H : Heap) (k : AV → Heap → Option β) : Option β :=
 f77_l0 p n  k n a0 a1 (.sc (.int .i64 0)) H
noncomputable def f77_L0 (p : Pr β) (n : Nat)  (k : AV → Heap → Option β) (m : Nat) (tm : Tm) (H : Heap) : Option β :=
 iterC 62 (fun tm H k => evalCode ti0 p o77 62 n (cd c77 [1, 0, 1, 0, 0]) tm H k) (blkK 0 (seqK (fun tm H => evalCode ti0 p o77 62 n (cd c77 [1, 1]) tm H (endK ti0 p Go.Proofs.Tryz.f77.results.toList k)) (endK ti0 p Go.Proofs.Tryz.f77.results.toList k))) m tm H
theorem f77_L0_step (p : Pr β) (n : Nat)  (k : AV → Heap → Option β) (m0 : Nat) (t : Nat → AV) (H : Heap) : f77_L0 p n  k (m0 + 1) (tf 62 0 t) H =
 p.len (t 0) fun t8 =>
 p.bin .lss (t 5) t8 fun t9 =>
 p.cond t9
 (p.iadr 6 (t 0) (t 5) fun t15 =>
 p.fadr 0 t15 fun t16 =>
 p.store 1 t16 (t 1) H fun H =>
 p.bin .add (t 1) (.sc (.int .i64 1)) fun t18 =>
 p.call 9 (.fn 79 [] []) [t18] H fun t22 H =>
 p.iadr 6 (t 0) (t 5) fun t23 =>
 p.fadr 1 t23 fun t24 =>
 p.fadr 0 t24 fun t25 =>
 p.store 1 t25 t22 H fun H =>
 p.bin .add t18 (.sc (.int .i64 1)) fun t27 =>
 p.iadr 6 (t 0) (t 5) fun t30 =>
 p.fadr 1 t30 fun t31 =>
 p.fadr 1 t31 fun t32 =>
 p.load false 1 t32 H fun t33 =>
 p.call 3 (.fn 64 [] []) [t33, t27] H fun t35 H =>
 p.iadr 6 (t 0) (t 5) fun t39 =>
 p.fadr 1 t39 fun t40 =>
 p.fadr 2 t40 fun t41 =>
 p.store 1 t41 t35 H fun H =>
 p.bin .add t35 (.sc (.int .i64 1)) fun t43 =>
 p.bin .rem t43 (.sc (.int .i64 3)) fun t47 =>
 p.bin .eql t47 (.sc (.int .i64 0)) fun t48 =>
 p.iadr 6 (t 0) (t 5) fun t49 =>
 p.fadr 1 t49 fun t50 =>
 p.fadr 3 t50 fun t51 =>
 p.store 1 t51 t48 H fun H =>
 p.bin .add t43 (.sc (.int .i64 1)) fun t53 =>
 p.iadr 6 (t 0) (t 5) fun t57 =>
 p.fadr 5 t57 fun t58 =>
 p.store 1 t58 t53 H fun H =>
 p.bin .add t53 (.sc (.int .i64 1)) fun t60 =>
 p.bin .add (t 5) (.sc (.int .i64 1)) fun t11 =>
 f77_L0 p n  k m0 (tf 62 0 (ud [(1, t60), (5, t11), (6, (t 5)), (7, (t 0)), (8, t8), (9, t9), (10, (t 5)), (11, t11), (12, (t 0)), (13, (t 5)), (14, (t 1)), (15, t15), (16, t16), (17, (t 1)), (18, t18), (19, (t 0)), (20, (t 5)), (21, t18), (22, t22), (23, t23), (24, t24), (25, t25), (26, t18), (27, t27), (28, (t 0)), (29, (t 5)), (30, t30), (31, t31), (32, t32), (33, t33), (34, t27), (35, t35), (36, (t 0)), (37, (t 5)), (38, t35), (39, t39), (40, t40), (41, t41), (42, t35), (43, t43), (44, (t 0)), (45, (t 5)), (46, t43), (47, t47), (48, t48), (49, t49), (50, t50), (51, t51), (52, t43), (53, t53), (54, (t 0)), (55, (t 5)), (56, t53), (57, t57), (58, t58), (59, t53), (60, t60)] t)) H)
 (k (t 1) H) := by kernel_rfl
theorem f77_l0_eq (p : Pr β) (n : Nat)  (k : AV → Heap → Option β)   (m0 : Nat) : ∀ (t : Nat → AV) (H : Heap), f77_L0 p n  k m0 (tf 62 0 t) H = f77_l0 p n  k m0 (t 0) (t 1) (t 5) H := by
 induction m0 with
 | zero => intros; rfl
 | succ m0 ih =>
  intro t H
  rw [f77_L0_step]
  simp only [ih]
  kernel_rfl
theorem f77_raw (p : Pr β) (n : Nat) (a0 a1 : AV) (H : Heap) (k : AV → Heap → Option β) : evalBody ti0 p n ⟨c77, 62, Go.Proofs.Tryz.f77.results.toList, o77⟩ [a0, a1] H k =
 f77_L0 p n  k n (tf 62 0 (ud [(0, a0), (1, a1), (4, (.sc (.int .i64 0))), (5, (.sc (.int .i64 0)))] ut)) H := by kernel_rfl
theorem f77_body (p : Pr β) (n : Nat) (a0 a1 : AV) (H : Heap) (k : AV → Heap → Option β) : evalBody ti0 p n ⟨c77, 62, Go.Proofs.Tryz.f77.results.toList, o77⟩ [a0, a1] H k = f77 p n a0 a1 H k := by
 rw [f77_raw]
 simp only [f77_l0_eq]
 kernel_rfl
noncomputable def f78_l0 (p : Pr β) (n : Nat)  (k : AV → Heap → Option β) : Nat → AV → AV → AV → Heap → Option β
 | 0, _, _, _, _ => none
 | m + 1, t0, t1, t5, H => p.len t0 fun t8 =>
   p.bin .lss t5 t8 fun t9 =>
   p.cond t9
   (p.call 9 (.fn 79 [] []) [t1] H fun t15 H =>
   p.iadr 4 t0 t5 fun t16 =>
   p.fadr 0 t16 fun t17 =>
   p.store 1 t17 t15 H fun H =>
   p.bin .add t1 (.sc (.int .i64 1)) fun t19 =>
   p.iadr 4 t0 t5 fun t22 =>
   p.fadr 1 t22 fun t23 =>
   p.load false 1 t23 H fun t24 =>
   p.call 3 (.fn 64 [] []) [t24, t19] H fun t26 H =>
   p.iadr 4 t0 t5 fun t30 =>
   p.fadr 2 t30 fun t31 =>
   p.store 1 t31 t26 H fun H =>
   p.bin .add t26 (.sc (.int .i64 1)) fun t33 =>
   p.bin .rem t33 (.sc (.int .i64 3)) fun t37 =>
   p.bin .eql t37 (.sc (.int .i64 0)) fun t38 =>
   p.iadr 4 t0 t5 fun t39 =>
   p.fadr 3 t39 fun t40 =>
   p.store 1 t40 t38 H fun H =>
   p.bin .add t33 (.sc (.int .i64 1)) fun t42 =>
   p.bin .add t5 (.sc (.int .i64 1)) fun t11 =>
   f78_l0 p n  k m t0 t42 t11 H)
   (k t1 H)
noncomputable def f78 (p : Pr β) (n : Nat) (a0 a1 : AV) (H : Heap) (k : AV → Heap → Option β) : Option β :=
 f78_l0 p n  k n a0 a1 (.sc (.int .i64 0)) H
noncomputable def f78_L0 (p : Pr β) (n : Nat)  (k : AV → Heap → Option β) (m : Nat) (tm : Tm) (H : Heap) : Option β :=
 iterC 44 (fun tm H k => evalCode ti0 p o78 44 n (cd c78 [1, 0, 1, 0, 0]) tm H k) (blkK 0 (seqK (fun tm H => evalCode ti0 p o78 44 n (cd c78 [1, 1]) tm H (endK ti0 p Go.Proofs.Tryz.f78.results.toList k)) (endK ti0 p Go.Proofs.Tryz.f78.results.toList k))) m tm H
theorem f78_L0_step (p : Pr β) (n : Nat)  (k : AV → Heap → Option β) (m0 : Nat) (t : Nat → AV) (H : Heap) : f78_L0 p n  k (m0 + 1) (tf 44 0 t) H =
 p.len (t 0) fun t8 =>
 p.bin .lss (t 5) t8 fun t9 =>
 p.cond t9
 (p.call 9 (.fn 79 [] []) [(t 1)] H fun t15 H =>
 p.iadr 4 (t 0) (t 5) fun t16 =>
 p.fadr 0 t16 fun t17 =>
 p.store 1 t17 t15 H fun H =>
 p.bin .add (t 1) (.sc (.int .i64 1)) fun t19 =>
 p.iadr 4 (t 0) (t 5) fun t22 =>
 p.fadr 1 t22 fun t23 =>
 p.load false 1 t23 H fun t24 =>
 p.call 3 (.fn 64 [] []) [t24, t19] H fun t26 H =>
 p.iadr 4 (t 0) (t 5) fun t30 =>
 p.fadr 2 t30 fun t31 =>
 p.store 1 t31 t26 H fun H =>
 p.bin .add t26 (.sc (.int .i64 1)) fun t33 =>
 p.bin .rem t33 (.sc (.int .i64 3)) fun t37 =>
 p.bin .eql t37 (.sc (.int .i64 0)) fun t38 =>
 p.iadr 4 (t 0) (t 5) fun t39 =>
 p.fadr 3 t39 fun t40 =>
 p.store 1 t40 t38 H fun H =>
 p.bin .add t33 (.sc (.int .i64 1)) fun t42 =>
 p.bin .add (t 5) (.sc (.int .i64 1)) fun t11 =>
 f78_L0 p n  k m0 (tf 44 0 (ud [(1, t42), (5, t11), (6, (t 5)), (7, (t 0)), (8, t8), (9, t9), (10, (t 5)), (11, t11), (12, (t 0)), (13, (t 5)), (14, (t 1)), (15, t15), (16, t16), (17, t17), (18, (t 1)), (19, t19), (20, (t 0)), (21, (t 5)), (22, t22), (23, t23), (24, t24), (25, t19), (26, t26), (27, (t 0)), (28, (t 5)), (29, t26), (30, t30), (31, t31), (32, t26), (33, t33), (34, (t 0)), (35, (t 5)), (36, t33), (37, t37), (38, t38), (39, t39), (40, t40), (41, t33), (42, t42)] t)) H)
 (k (t 1) H) := by kernel_rfl
theorem f78_l0_eq (p : Pr β) (n : Nat)  (k : AV → Heap → Option β)   (m0 : Nat) : ∀ (t : Nat → AV) (H : Heap), f78_L0 p n  k m0 (tf 44 0 t) H = f78_l0 p n  k m0 (t 0) (t 1) (t 5) H := by
 induction m0 with
 | zero => intros; rfl
 | succ m0 ih =>
  intro t H
  rw [f78_L0_step]
  simp only [ih]
  kernel_rfl
theorem f78_raw (p : Pr β) (n : Nat) (a0 a1 : AV) (H : Heap) (k : AV → Heap → Option β) : evalBody ti0 p n ⟨c78, 44, Go.Proofs.Tryz.f78.results.toList, o78⟩ [a0, a1] H k =
 f78_L0 p n  k n (tf 44 0 (ud [(0, a0), (1, a1), (4, (.sc (.int .i64 0))), (5, (.sc (.int .i64 0)))] ut)) H := by kernel_rfl
theorem f78_body (p : Pr β) (n : Nat) (a0 a1 : AV) (H : Heap) (k : AV → Heap → Option β) : evalBody ti0 p n ⟨c78, 44, Go.Proofs.Tryz.f78.results.toList, o78⟩ [a0, a1] H k = f78 p n a0 a1 H k := by
 rw [f78_raw]
 simp only [f78_l0_eq]
 kernel_rfl
noncomputable def f31 (p : Pr β) (n : Nat) (a0 a1 : AV) (H : Heap) (k : AV → Heap → Option β) : Option β :=
 p.box a0 H fun t2 H =>
 p.fadr 1 t2 fun t5 =>
 p.load false 1 t5 H fun t6 =>
 p.call 3 (.fn 77 [] []) [t6, a1] H fun t8 H =>
 p.fadr 2 t2 fun t9 =>
 p.load false 1 t9 H fun t10 =>
 p.call 3 (.fn 78 [] []) [t10, t8] H fun t12 H =>
 k t12 H
theorem f31_body (p : Pr β) (n : Nat) (a0 a1 : AV) (H : Heap) (k : AV → Heap → Option β) : evalBody ti0 p n ⟨c31, 14, Go.Proofs.Tryz.f31.results.toList, o31⟩ [a0, a1] H k = f31 p n a0 a1 H k := by kernel_rfl
noncomputable def f80_l0 (p : Pr β) (n : Nat)  (k : AV → Heap → Option β) : Nat → AV → AV → AV → Heap → Option β
 | 0, _, _, _, _ => none
 | m + 1, t0, t1, t5, H => p.len t0 fun t8 =>
   p.bin .lss t5 t8 fun t9 =>
   p.cond t9
   (p.call 9 (.fn 79 [] []) [t1] H fun t15 H =>
   p.iadr 2 t0 t5 fun t16 =>
   p.fadr 0 t16 fun t17 =>
   p.store 1 t17 t15 H fun H =>
   p.bin .add t1 (.sc (.int .i64 1)) fun t19 =>
   p.iadr 2 t0 t5 fun t23 =>
   p.fadr 1 t23 fun t24 =>
   p.store 1 t24 t19 H fun H =>
   p.bin .add t19 (.sc (.int .i64 1)) fun t26 =>
   p.bin .add t5 (.sc (.int .i64 1)) fun t11 =>
   f80_l0 p n  k m t0 t26 t11 H)
   (k t1 H)
noncomputable def f80 (p : Pr β) (n : Nat) (a0 a1 : AV) (H : Heap) (k : AV → Heap → Option β) : Option β :=
 f80_l0 p n  k n a0 a1 (.sc (.int .i64 0)) H
noncomputable def f80_L0 (p : Pr β) (n : Nat)  (k : AV → Heap → Option β) (m : Nat) (tm : Tm) (H : Heap) : Option β :=
 iterC 28 (fun tm H k => evalCode ti0 p o80 28 n (cd c80 [1, 0, 1, 0, 0]) tm H k) (blkK 0 (seqK (fun tm H => evalCode ti0 p o80 28 n (cd c80 [1, 1]) tm H (endK ti0 p Go.Proofs.Tryz.f80.results.toList k)) (endK ti0 p Go.Proofs.Tryz.f80.results.toList k))) m tm H
theorem f80_L0_step (p : Pr β) (n : Nat)  (k : AV → Heap → Option β) (m0 : Nat) (t : Nat → AV) (H : Heap) : f80_L0 p n  k (m0 + 1) (tf 28 0 t) H =
 p.len (t 0) fun t8 =>
 p.bin .lss (t 5) t8 fun t9 =>
 p.cond t9
 (p.call 9 (.fn 79 [] []) [(t 1)] H fun t15 H =>
 p.iadr 2 (t 0) (t 5) fun t16 =>
 p.fadr 0 t16 fun t17 =>
 p.store 1 t17 t15 H fun H =>
 p.bin .add (t 1) (.sc (.int .i64 1)) fun t19 =>
 p.iadr 2 (t 0) (t 5) fun t23 =>
 p.fadr 1 t23 fun t24 =>
 p.store 1 t24 t19 H fun H =>
 p.bin .add t19 (.sc (.int .i64 1)) fun t26 =>
 p.bin .add (t 5) (.sc (.int .i64 1)) fun t11 =>
 f80_L0 p n  k m0 (tf 28 0 (ud [(1, t26), (5, t11), (6, (t 5)), (7, (t 0)), (8, t8), (9, t9), (10, (t 5)), (11, t11), (12, (t 0)), (13, (t 5)), (14, (t 1)), (15, t15), (16, t16), (17, t17), (18, (t 1)), (19, t19), (20, (t 0)), (21, (t 5)), (22, t19), (23, t23), (24, t24), (25, t19), (26, t26)] t)) H)
 (k (t 1) H) := by kernel_rfl
theorem f80_l0_eq (p : Pr β) (n : Nat)  (k : AV → Heap → Option β)   (m0 : Nat) : ∀ (t : Nat → AV) (H : Heap), f80_L0 p n  k m0 (tf 28 0 t) H = f80_l0 p n  k m0 (t 0) (t 1) (t 5) H := by
 induction m0 with
 | zero => intros; rfl
 | succ m0 ih =>
  intro t H
  rw [f80_L0_step]
  simp only [ih]
  kernel_rfl
theorem f80_raw (p : Pr β) (n : Nat) (a0 a1 : AV) (H : Heap) (k : AV → Heap → Option β) : evalBody ti0 p n ⟨c80, 28, Go.Proofs.Tryz.f80.results.toList, o80⟩ [a0, a1] H k =
 f80_L0 p n  k n (tf 28 0 (ud [(0, a0), (1, a1), (4, (.sc (.int .i64 0))), (5, (.sc (.int .i64 0)))] ut)) H := by kernel_rfl
theorem f80_body (p : Pr β) (n : Nat) (a0 a1 : AV) (H : Heap) (k : AV → Heap → Option β) : evalBody ti0 p n ⟨c80, 28, Go.Proofs.Tryz.f80.results.toList, o80⟩ [a0, a1] H k = f80 p n a0 a1 H k := by
 rw [f80_raw]
 simp only [f80_l0_eq]
 kernel_rfl
noncomputable def f81_l0 (p : Pr β) (n : Nat)  (k : AV → Heap → Option β) : Nat → AV → AV → AV → Heap → Option β
 | 0, _, _, _, _ => none
 | m + 1, t0, t1, t5, H => p.len t0 fun t8 =>
   p.bin .lss t5 t8 fun t9 =>
   p.cond t9
   (p.call 9 (.fn 79 [] []) [t1] H fun t15 H =>
   p.iadr 1 t0 t5 fun t16 =>
   p.store 1 t16 t15 H fun H =>
   p.bin .add t1 (.sc (.int .i64 1)) fun t18 =>
   p.bin .add t5 (.sc (.int .i64 1)) fun t11 =>
   f81_l0 p n  k m t0 t18 t11 H)
   (k t1 H)
noncomputable def f81 (p : Pr β) (n : Nat) (a0 a1 : AV) (H : Heap) (k : AV → Heap → Option β) : Option β :=
 f81_l0 p n  k n a0 a1 (.sc (.int .i64 0)) H
noncomputable def f81_L0 (p : Pr β) (n : Nat)  (k : AV → Heap → Option β) (m : Nat) (tm : Tm) (H : Heap) : Option β :=
 iterC 20 (fun tm H k => evalCode ti0 p o81 20 n (cd c81 [1, 0, 1, 0, 0]) tm H k) (blkK 0 (seqK (fun tm H => evalCode ti0 p o81 20 n (cd c81 [1, 1]) tm H (endK ti0 p Go.Proofs.Tryz.f81.results.toList k)) (endK ti0 p Go.Proofs.Tryz.f81.results.toList k))) m tm H
theorem f81_L0_step (p : Pr β) (n : Nat)  (k : AV → Heap → Option β) (m0 : Nat) (t : Nat → AV) (H : Heap) : f81_L0 p n  k (m0 + 1) (tf 20 0 t) H =
 p.len (t 0) fun t8 =>
 p.bin .lss (t 5) t8 fun t9 =>
 p.cond t9
 (p.call 9 (.fn 79 [] []) [(t 1)] H fun t15 H =>
 p.iadr 1 (t 0) (t 5) fun t16 =>
 p.store 1 t16 t15 H fun H =>
 p.bin .add (t 1) (.sc (.int .i64 1)) fun t18 =>
 p.bin .add (t 5) (.sc (.int .i64 1)) fun t11 =>
 f81_L0 p n  k m0 (tf 20 0 (ud [(1, t18), (5, t11), (6, (t 5)), (7, (t 0)), (8, t8), (9, t9), (10, (t 5)), (11, t11), (12, (t 0)), (13, (t 5)), (14, (t 1)), (15, t15), (16, t16), (17, (t 1)), (18, t18)] t)) H)
 (k (t 1) H) := by kernel_rfl
theorem f81_l0_eq (p : Pr β) (n : Nat)  (k : AV → Heap → Option β)   (m0 : Nat) : ∀ (t : Nat → AV) (H : Heap), f81_L0 p n  k m0 (tf 20 0 t) H = f81_l0 p n  k m0 (t 0) (t 1) (t 5) H := by
 induction m0 with
 | zero => intros; rfl
 | succ m0 ih =>
  intro t H
  rw [f81_L0_step]
  simp only [ih]
  kernel_rfl
theorem f81_raw (p : Pr β) (n : Nat) (a0 a1 : AV) (H : Heap) (k : AV → Heap → Option β) : evalBody ti0 p n ⟨c81, 20, Go.Proofs.Tryz.f81.results.toList, o81⟩ [a0, a1] H k =
 f81_L0 p n  k n (tf 20 0 (ud [(0, a0), (1, a1), (4, (.sc (.int .i64 0))), (5, (.sc (.int .i64 0)))] ut)) H := by kernel_rfl
theorem f81_body (p : Pr β) (n : Nat) (a0 a1 : AV) (H : Heap) (k : AV → Heap → Option β) : evalBody ti0 p n ⟨c81, 20, Go.Proofs.Tryz.f81.results.toList, o81⟩ [a0, a1] H k = f81 p n a0 a1 H k := by
 rw [f81_raw]
 simp only [f81_l0_eq]
 kernel_rfl
noncomputable def f56_l0 (p : Pr β) (n : Nat)  (k : AV → Heap → Option β) : Nat → AV → AV → AV → Heap → Option β
 | 0, _, _, _, _ => none
 | m + 1, t0, t1, t5, H => p.len t0 fun t8 =>
   p.bin .lss t5 t8 fun t9 =>
   p.cond t9
   (p.iadr 1 t0 t5 fun t15 =>
   p.store 1 t15 t1 H fun H =>
   p.bin .add t1 (.sc (.int .i64 1)) fun t17 =>
   p.bin .add t5 (.sc (.int .i64 1)) fun t11 =>
   f56_l0 p n  k m t0 t17 t11 H)
   (k t1 H)
noncomputable def f56 (p : Pr β) (n : Nat) (a0 a1 : AV) (H : Heap) (k : AV → Heap → Option β) : Option β :=
 f56_l0 p n  k n a0 a1 (.sc (.int .i64 0)) H
noncomputable def f56_L0 (p : Pr β) (n : Nat)  (k : AV → Heap → Option β) (m : Nat) (tm : Tm) (H : Heap) : Option β :=
 iterC 19 (fun tm H k => evalCode ti0 p o56 19 n (cd c56 [1, 0, 1, 0, 0]) tm H k) (blkK 0 (seqK (fun tm H => evalCode ti0 p o56 19 n (cd c56 [1, 1]) tm H (endK ti0 p Go.Proofs.Tryz.f56.results.toList k)) (endK ti0 p Go.Proofs.Tryz.f56.results.toList k))) m tm H
theorem f56_L0_step (p : Pr β) (n : Nat)  (k : AV → Heap → Option β) (m0 : Nat) (t : Nat → AV) (H : Heap) : f56_L0 p n  k (m0 + 1) (tf 19 0 t) H =
 p.len (t 0) fun t8 =>
 p.bin .lss (t 5) t8 fun t9 =>
 p.cond t9
 (p.iadr 1 (t 0) (t 5) fun t15 =>
 p.store 1 t15 (t 1) H fun H =>
 p.bin .add (t 1) (.sc (.int .i64 1)) fun t17 =>
 p.bin .add (t 5) (.sc (.int .i64 1)) fun t11 =>
 f56_L0 p n  k m0 (tf 19 0 (ud [(1, t17), (5, t11), (6, (t 5)), (7, (t 0)), (8, t8), (9, t9), (10, (t 5)), (11, t11), (12, (t 0)), (13, (t 5)), (14, (t 1)), (15, t15), (16, (t 1)), (17, t17)] t)) H)
 (k (t 1) H) := by kernel_rfl
theorem f56_l0_eq (p : Pr β) (n : Nat)  (k : AV → Heap → Option β)   (m0 : Nat) : ∀ (t : Nat → AV) (H : Heap), f56_L0 p n  k m0 (tf 19 0 t) H = f56_l0 p n  k m0 (t 0) (t 1) (t 5) H := by
 induction m0 with
 | zero => intros; rfl
 | succ m0 ih =>
  intro t H
  rw [f56_L0_step]
  simp only [ih]
  kernel_rfl
theorem f56_raw (p : Pr β) (n : Nat) (a0 a1 : AV) (H : Heap) (k : AV → Heap → Option β) : evalBody ti0 p n ⟨c56, 19, Go.Proofs.Tryz.f56.results.toList, o56⟩ [a0, a1] H k =
 f56_L0 p n  k n (tf 19 0 (ud [(0, a0), (1, a1), (4, (.sc (.int .i64 0))), (5, (.sc (.int .i64 0)))] ut)) H := by kernel_rfl
theorem f56_body (p : Pr β) (n : Nat) (a0 a1 : AV) (H : Heap) (k : AV → Heap → Option β) : evalBody ti0 p n ⟨c56, 19, Go.Proofs.Tryz.f56.results.toList, o56⟩ [a0, a1] H k = f56 p n a0 a1 H k := by
 rw [f56_raw]
 simp only [f56_l0_eq]
 kernel_rfl
noncomputable def f32_l0 (p : Pr β) (n : Nat)  (k : AV → Heap → Option β) : Nat → AV → AV → AV → Heap → Option β
 | 0, _, _, _, _ => none
 | m + 1, t0, t1, t5, H => p.len t0 fun t8 =>
   p.bin .lss t5 t8 fun t9 =>
   p.cond t9
   (p.iadr 25 t0 t5 fun t15 =>
   p.fadr 0 t15 fun t16 =>
   p.store 1 t16 t1 H fun H =>
   p.bin .add t1 (.sc (.int .i64 1)) fun t18 =>
   p.bin .rem t18 (.sc (.int .i64 3)) fun t22 =>
   p.bin .eql t22 (.sc (.int .i64 0)) fun t23 =>
   p.iadr 25 t0 t5 fun t24 =>
   p.fadr 1 t24 fun t25 =>
   p.store 1 t25 t23 H fun H =>
   p.bin .add t18 (.sc (.int .i64 1)) fun t27 =>
   p.iadr 25 t0 t5 fun t31 =>
   p.fadr 2 t31 fun t32 =>
   p.store 1 t32 t27 H fun H =>
   p.bin .add t27 (.sc (.int .i64 1)) fun t34 =>
   p.bin .rem t34 (.sc (.int .i64 3)) fun t38 =>
   p.bin .eql t38 (.sc (.int .i64 0)) fun t39 =>
   p.iadr 25 t0 t5 fun t40 =>
   p.fadr 3 t40 fun t41 =>
   p.store 1 t41 t39 H fun H =>
   p.bin .add t34 (.sc (.int .i64 1)) fun t43 =>
   p.iadr 25 t0 t5 fun t47 =>
   p.fadr 4 t47 fun t48 =>
   p.store 1 t48 t43 H fun H =>
   p.bin .add t43 (.sc (.int .i64 1)) fun t50 =>
   p.call 9 (.fn 79 [] []) [t50] H fun t54 H =>
   p.iadr 25 t0 t5 fun t55 =>
   p.fadr 5 t55 fun t56 =>
   p.store 1 t56 t54 H fun H =>
   p.bin .add t50 (.sc (.int .i64 1)) fun t58 =>
   p.iadr 25 t0 t5 fun t61 =>
   p.fadr 6 t61 fun t62 =>
   p.load false 1 t62 H fun t63 =>
   p.call 3 (.fn 64 [] []) [t63, t58] H fun t65 H =>
   p.call 9 (.fn 79 [] []) [t65] H fun t69 H =>
   p.iadr 25 t0 t5 fun t70 =>
   p.fadr 7 t70 fun t71 =>
   p.store 1 t71 t69 H fun H =>
   p.bin .add t65 (.sc (.int .i64 1)) fun t73 =>
   p.iadr 25 t0 t5 fun t77 =>
   p.fadr 8 t77 fun t78 =>
   p.store 1 t78 t73 H fun H =>
   p.bin .add t73 (.sc (.int .i64 1)) fun t80 =>
   p.bin .rem t80 (.sc (.int .i64 3)) fun t84 =>
   p.bin .eql t84 (.sc (.int .i64 0)) fun t85 =>
   p.iadr 25 t0 t5 fun t86 =>
   p.fadr 9 t86 fun t87 =>
   p.store 1 t87 t85 H fun H =>
   p.bin .add t80 (.sc (.int .i64 1)) fun t89 =>
   p.iadr 25 t0 t5 fun t93 =>
   p.fadr 10 t93 fun t94 =>
   p.store 1 t94 t89 H fun H =>
   p.bin .add t89 (.sc (.int .i64 1)) fun t96 =>
   p.bin .rem t96 (.sc (.int .i64 3)) fun t100 =>
   p.bin .eql t100 (.sc (.int .i64 0)) fun t101 =>
   p.iadr 25 t0 t5 fun t102 =>
   p.fadr 11 t102 fun t103 =>
   p.store 1 t103 t101 H fun H =>
   p.bin .add t96 (.sc (.int .i64 1)) fun t105 =>
   p.call 9 (.fn 79 [] []) [t105] H fun t109 H =>
   p.iadr 25 t0 t5 fun t110 =>
   p.fadr 12 t110 fun t111 =>
   p.store 1 t111 t109 H fun H =>
   p.bin .add t105 (.sc (.int .i64 1)) fun t113 =>
   p.iadr 25 t0 t5 fun t116 =>
   p.fadr 13 t116 fun t117 =>
   p.load false 1 t117 H fun t118 =>
   p.call 3 (.fn 64 [] []) [t118, t113] H fun t120 H =>
   p.iadr 25 t0 t5 fun t124 =>
   p.fadr 14 t124 fun t125 =>
   p.store 1 t125 t120 H fun H =>
   p.bin .add t120 (.sc (.int .i64 1)) fun t127 =>
   p.bin .rem t127 (.sc (.int .i64 3)) fun t131 =>
   p.bin .eql t131 (.sc (.int .i64 0)) fun t132 =>
   p.iadr 25 t0 t5 fun t133 =>
   p.fadr 15 t133 fun t134 =>
   p.store 1 t134 t132 H fun H =>
   p.bin .add t127 (.sc (.int .i64 1)) fun t136 =>
   p.bin .rem t136 (.sc (.int .i64 3)) fun t140 =>
   p.bin .eql t140 (.sc (.int .i64 0)) fun t141 =>
   p.iadr 25 t0 t5 fun t142 =>
   p.fadr 16 t142 fun t143 =>
   p.store 1 t143 t141 H fun H =>
   p.bin .add t136 (.sc (.int .i64 1)) fun t145 =>
   p.call 9 (.fn 79 [] []) [t145] H fun t149 H =>
   p.iadr 25 t0 t5 fun t150 =>
   p.fadr 17 t150 fun t151 =>
   p.store 1 t151 t149 H fun H =>
   p.bin .add t145 (.sc (.int .i64 1)) fun t153 =>
   p.bin .rem t153 (.sc (.int .i64 3)) fun t157 =>
   p.bin .eql t157 (.sc (.int .i64 0)) fun t158 =>
   p.iadr 25 t0 t5 fun t159 =>
   p.fadr 18 t159 fun t160 =>
   p.store 1 t160 t158 H fun H =>
   p.bin .add t153 (.sc (.int .i64 1)) fun t162 =>
   p.iadr 25 t0 t5 fun t165 =>
   p.fadr 19 t165 fun t166 =>
   p.load false 1 t166 H fun t167 =>
   p.call 3 (.fn 64 [] []) [t167, t162] H fun t169 H =>
   p.iadr 25 t0 t5 fun t173 =>
   p.fadr 20 t173 fun t174 =>
   p.store 1 t174 t169 H fun H =>
   p.bin .add t169 (.sc (.int .i64 1)) fun t176 =>
   p.bin .rem t176 (.sc (.int .i64 3)) fun t180 =>
   p.bin .eql t180 (.sc (.int .i64 0)) fun t181 =>
   p.iadr 25 t0 t5 fun t182 =>
   p.fadr 21 t182 fun t183 =>
   p.store 1 t183 t181 H fun H =>
   p.bin .add t176 (.sc (.int .i64 1)) fun t185 =>
   p.iadr 25 t0 t5 fun t188 =>
   p.fadr 22 t188 fun t189 =>
   p.load false 1 t189 H fun t190 =>
   p.call 3 (.fn 80 [] []) [t190, t185] H fun t192 H =>
   p.iadr 25 t0 t5 fun t195 =>
   p.fadr 23 t195 fun t196 =>
   p.load false 1 t196 H fun t197 =>
   p.call 3 (.fn 81 [] []) [t197, t192] H fun t199 H =>
   p.iadr 25 t0 t5 fun t202 =>
   p.fadr 24 t202 fun t203 =>
   p.load false 1 t203 H fun t204 =>
   p.call 3 (.fn 56 [] []) [t204, t199] H fun t206 H =>
   p.bin .add t5 (.sc (.int .i64 1)) fun t11 =>
   f32_l0 p n  k m t0 t206 t11 H)
   (k t1 H)
noncomputable def f32 (p : Pr β) (n : Nat) (a0 a1 : AV) (H : Heap) (k : AV → Heap → Option β) : Option β :=
 f32_l0 p n  k n a0 a1 (.sc (.int .i64 0)) H
noncomputable def f32_L0 (p : Pr β) (n : Nat)  (k : AV → Heap → Option β) (m : Nat) (tm : Tm) (H : Heap) : Option β :=
 iterC 208 (fun tm H k => evalCode ti0 p o32 208 n (cd c32 [1, 0, 1, 0, 0]) tm H k) (blkK 0 (seqK (fun tm H => evalCode ti0 p o32 208 n (cd c32 [1, 1]) tm H (endK ti0 p Go.Proofs.Tryz.f32.results.toList k)) (endK ti0 p Go.Proofs.Tryz.f32.results.toList k))) m tm H
theorem f32_L0_step (p : Pr β) (n : Nat)  (k : AV → Heap → Option β) (m0 : Nat) (t : Nat → AV) (H : Heap) : f32_L0 p n  k (m0 + 1) (tf 208 0 t) H =
 p.len (t 0) fun t8 =>
 p.bin .lss (t 5) t8 fun t9 =>
 p.cond t9
 (p.iadr 25 (t 0) (t 5) fun t15 =>
 p.fadr 0 t15 fun t16 =>
 p.store 1 t16 (t 1) H fun H =>
 p.bin .add (t 1) (.sc (.int .i64 1)) fun t18 =>
 p.bin .rem t18 (.sc (.int .i64 3)) fun t22 =>
 p.bin .eql t22 (.sc (.int .i64 0)) fun t23 =>
 p.iadr 25 (t 0) (t 5) fun t24 =>
 p.fadr 1 t24 fun t25 =>
 p.store 1 t25 t23 H fun H =>
 p.bin .add t18 (.sc (.int .i64 1)) fun t27 =>
 p.iadr 25 (t 0) (t 5) fun t31 =>
 p.fadr 2 t31 fun t32 =>
 p.store 1 t32 t27 H fun H =>
 p.bin .add t27 (.sc (.int .i64 1)) fun t34 =>
 p.bin .rem t34 (.sc (.int .i64 3)) fun t38 =>
 p.bin .eql t38 (.sc (.int .i64 0)) fun t39 =>
 p.iadr 25 (t 0) (t 5) fun t40 =>
 p.fadr 3 t40 fun t41 =>
 p.store 1 t41 t39 H fun H =>
 p.bin .add t34 (.sc (.int .i64 1)) fun t43 =>
 p.iadr 25 (t 0) (t 5) fun t47 =>
 p.fadr 4 t47 fun t48 =>
 p.store 1 t48 t43 H fun H =>
 p.bin .add t43 (.sc (.int .i64 1)) fun t50 =>
 p.call 9 (.fn 79 [] []) [t50] H fun t54 H =>
 p.iadr 25 (t 0) (t 5) fun t55 =>
 p.fadr 5 t55 fun t56 =>
 p.store 1 t56 t54 H fun H =>
 p.bin .add t50 (.sc (.int .i64 1)) fun t58 =>
 p.iadr 25 (t 0) (t 5) fun t61 =>
 p.fadr 6 t61 fun t62 =>
 p.load false 1 t62 H fun t63 =>
 p.call 3 (.fn 64 [] []) [t63, t58] H fun t65 H =>
 p.call 9 (.fn 79 [] []) [t65] H fun t69 H =>
 p.iadr 25 (t 0) (t 5) fun t70 =>
 p.fadr 7 t70 fun t71 =>
 p.store 1 t71 t69 H fun H =>
 p.bin .add t65 (.sc (.int .i64 1)) fun t73 =>
 p.iadr 25 (t 0) (t 5) fun t77 =>
 p.fadr 8 t77 fun t78 =>
 p.store 1 t78 t73 H fun H =>
 p.bin .add t73 (.sc (.int .i64 1)) fun t80 =>
 p.bin .rem t80 (.sc (.int .i64 3)) fun t84 =>
 p.bin .eql t84 (.sc (.int .i64 0)) fun t85 =>
 p.iadr 25 (t 0) (t 5) fun t86 =>
 p.fadr 9 t86 fun t87 =>
 p.store 1 t87 t85 H fun H =>
 p.bin .add t80 (.sc (.int .i64 1)) fun t89 =>
 p.iadr 25 (t 0) (t 5) fun t93 =>
 p.fadr 10 t93 fun t94 =>
 p.store 1 t94 t89 H fun H =>
 p.bin .add t89 (.sc (.int .i64 1)) fun t96 =>
 p.bin .rem t96 (.sc (.int .i64 3)) fun t100 =>
 p.bin .eql t100 (.sc (.int .i64 0)) fun t101 =>
 p.iadr 25 (t 0) (t 5) fun t102 =>
 p.fadr 11 t102 fun t103 =>
 p.store 1 t103 t101 H fun H =>
 p.bin .add t96 (.sc (.int .i64 1)) fun t105 =>
 p.call 9 (.fn 79 [] []) [t105] H fun t109 H =>
 p.iadr 25 (t 0) (t 5) fun t110 =>
 p.fadr 12 t110 fun t111 =>
 p.store 1 t111 t109 H fun H =>
 p.bin .add t105 (.sc (.int .i64 1)) fun t113 =>
 p.iadr 25 (t 0) (t 5) fun t116 =>
 p.fadr 13 t116 fun t117 =>
 p.load false 1 t117 H fun t118 =>
 p.call 3 (.fn 64 [] []) [t118, t113] H fun t120 H =>
 p.iadr 25 (t 0) (t 5) fun t124 =>
 p.fadr 14 t124 fun t125 =>
 p.store 1 t125 t120 H fun H =>
 p.bin .add t120 (.sc (.int .i64 1)) fun t127 =>
 p.bin .rem t127 (.sc (.int .i64 3)) fun t131 =>
 p.bin .eql t131 (.sc (.int .i64 0)) fun t132 =>
 p.iadr 25 (t 0) (t 5) fun t133 =>
 p.fadr 15 t133 fun t134 =>
 p.store 1 t134 t132 H fun H =>
 p.bin .add t127 (.sc (.int .i64 1)) fun t136 =>
 p.bin .rem t136 (.sc (.int .i64 3)) fun t140 =>
 p.bin .eql t140 (.sc (.int .i64 0)) fun t141 =>
 p.iadr 25 (t 0) (t 5) fun t142 =>
 p.fadr 16 t142 fun t143 =>
 p.store 1 t143 t141 H fun H =>
 p.bin .add t136 (.sc (.int .i64 1)) fun t145 =>
 p.call 9 (.fn 79 [] []) [t145] H fun t149 H =>
 p.iadr 25 (t 0) (t 5) fun t150 =>
 p.fadr 17 t150 fun t151 =>
 p.store 1 t151 t149 H fun H =>
 p.bin .add t145 (.sc (.int .i64 1)) fun t153 =>
 p.bin .rem t153 (.sc (.int .i64 3)) fun t157 =>
 p.bin .eql t157 (.sc (.int .i64 0)) fun t158 =>
 p.iadr 25 (t 0) (t 5) fun t159 =>
 p.fadr 18 t159 fun t160 =>
 p.store 1 t160 t158 H fun H =>
 p.bin .add t153 (.sc (.int .i64 1)) fun t162 =>
 p.iadr 25 (t 0) (t 5) fun t165 =>
 p.fadr 19 t165 fun t166 =>
 p.load false 1 t166 H fun t167 =>
 p.call 3 (.fn 64 [] []) [t167, t162] H fun t169 H =>
 p.iadr 25 (t 0) (t 5) fun t173 =>
 p.fadr 20 t173 fun t174 =>
 p.store 1 t174 t169 H fun H =>
 p.bin .add t169 (.sc (.int .i64 1)) fun t176 =>
 p.bin .rem t176 (.sc (.int .i64 3)) fun t180 =>
 p.bin .eql t180 (.sc (.int .i64 0)) fun t181 =>
 p.iadr 25 (t 0) (t 5) fun t182 =>
 p.fadr 21 t182 fun t183 =>
 p.store 1 t183 t181 H fun H =>
 p.bin .add t176 (.sc (.int .i64 1)) fun t185 =>
 p.iadr 25 (t 0) (t 5) fun t188 =>
 p.fadr 22 t188 fun t189 =>
 p.load false 1 t189 H fun t190 =>
 p.call 3 (.fn 80 [] []) [t190, t185] H fun t192 H =>
 p.iadr 25 (t 0) (t 5) fun t195 =>
 p.fadr 23 t195 fun t196 =>
 p.load false 1 t196 H fun t197 =>
 p.call 3 (.fn 81 [] []) [t197, t192] H fun t199 H =>
 p.iadr 25 (t 0) (t 5) fun t202 =>
 p.fadr 24 t202 fun t203 =>
 p.load false 1 t203 H fun t204 =>
 p.call 3 (.fn 56 [] []) [t204, t199] H fun t206 H =>
 p.bin .add (t 5) (.sc (.int .i64 1)) fun t11 =>
 f32_L0 p n  k m0 (tf 208 0 (ud [(1, t206), (5, t11), (6, (t 5)), (7, (t 0)), (8, t8), (9, t9), (10, (t 5)), (11, t11), (12, (t 0)), (13, (t 5)), (14, (t 1)), (15, t15), (16, t16), (17, (t 1)), (18, t18), (19, (t 0)), (20, (t 5)), (21, t18), (22, t22), (23, t23), (24, t24), (25, t25), (26, t18), (27, t27), (28, (t 0)), (29, (t 5)), (30, t27), (31, t31), (32, t32), (33, t27), (34, t34), (35, (t 0)), (36, (t 5)), (37, t34), (38, t38), (39, t39), (40, t40), (41, t41), (42, t34), (43, t43), (44, (t 0)), (45, (t 5)), (46, t43), (47, t47), (48, t48), (49, t43), (50, t50), (51, (t 0)), (52, (t 5)), (53, t50), (54, t54), (55, t55), (56, t56), (57, t50), (58, t58), (59, (t 0)), (60, (t 5)), (61, t61), (62, t62), (63, t63), (64, t58), (65, t65), (66, (t 0)), (67, (t 5)), (68, t65), (69, t69), (70, t70), (71, t71), (72, t65), (73, t73), (74, (t 0)), (75, (t 5)), (76, t73), (77, t77), (78, t78), (79, t73), (80, t80), (81, (t 0)), (82, (t 5)), (83, t80), (84, t84), (85, t85), (86, t86), (87, t87), (88, t80), (89, t89), (90, (t 0)), (91, (t 5)), (92, t89), (93, t93), (94, t94), (95, t89), (96, t96), (97, (t 0)), (98, (t 5)), (99, t96), (100, t100), (101, t101), (102, t102), (103, t103), (104, t96), (105, t105), (106, (t 0)), (107, (t 5)), (108, t105), (109, t109), (110, t110), (111, t111), (112, t105), (113, t113), (114, (t 0)), (115, (t 5)), (116, t116), (117, t117), (118, t118), (119, t113), (120, t120), (121, (t 0)), (122, (t 5)), (123, t120), (124, t124), (125, t125), (126, t120), (127, t127), (128, (t 0)), (129, (t 5)), (130, t127), (131, t131), (132, t132), (133, t133), (134, t134), (135, t127), (136, t136), (137, (t 0)), (138, (t 5)), (139, t136), (140, t140), (141, t141), (142, t142), (143, t143), (144, t136), (145, t145), (146, (t 0)), (147, (t 5)), (148, t145), (149, t149), (150, t150), (151, t151), (152, t145), (153, t153), (154, (t 0)), (155, (t 5)), (156, t153), (157, t157), (158, t158), (159, t159), (160, t160), (161, t153), (162, t162), (163, (t 0)), (164, (t 5)), (165, t165), (166, t166), (167, t167), (168, t162), (169, t169), (170, (t 0)), (171, (t 5)), (172, t169), (173, t173), (174, t174), (175, t169), (176, t176), (177, (t 0)), (178, (t 5)), (179, t176), (180, t180), (181, t181), (182, t182), (183, t183), (184, t176), (185, t185), (186, (t 0)), (187, (t 5)), (188, t188), (189, t189), (190, t190), (191, t185), (192, t192), (193, (t 0)), (194, (t 5)), (195, t195), (196, t196), (197, t197), (198, t192), (199, t199), (200, (t 0)), (201, (t 5)), (202, t202), (203, t203), (204, t204), (205, t199), (206, t206)] t)) H)
 (k (t 1) H) := by kernel_rfl
theorem f32_l0_eq (p : Pr β) (n : Nat)  (k : AV → Heap → Option β)   (m0 : Nat) : ∀ (t : Nat → AV) (H : Heap), f32_L0 p n  k m0 (tf 208 0 t) H = f32_l0 p n  k m0 (t 0) (t 1) (t 5) H := by
 induction m0 with
 | zero => intros; rfl
 | succ m0 ih =>
  intro t H
  rw [f32_L0_step]
  simp only [ih]
  kernel_rfl
theorem f32_raw (p : Pr β) (n : Nat) (a0 a1 : AV) (H : Heap) (k : AV → Heap → Option β) : evalBody ti0 p n ⟨c32, 208, Go.Proofs.Tryz.f32.results.toList, o32⟩ [a0, a1] H k =
 f32_L0 p n  k n (tf 208 0 (ud [(0, a0), (1, a1), (4, (.sc (.int .i64 0))), (5, (.sc (.int .i64 0)))] ut)) H := by kernel_rfl
theorem f32_body (p : Pr β) (n : Nat) (a0 a1 : AV) (H : Heap) (k : AV → Heap → Option β) : evalBody ti0 p n ⟨c32, 208, Go.Proofs.Tryz.f32.results.toList, o32⟩ [a0, a1] H k = f32 p n a0 a1 H k := by
 rw [f32_raw]
 simp only [f32_l0_eq]
 kernel_rfl
noncomputable def f82_l0 (p : Pr β) (n : Nat)  (k : AV → Heap → Option β) : Nat → AV → AV → AV → Heap → Option β
 | 0, _, _, _, _ => none
 | m + 1, t0, t1, t5, H => p.len t0 fun t8 =>
   p.bin .lss t5 t8 fun t9 =>
   p.cond t9
   (p.iadr 1 t0 t5 fun t14 =>
   p.load false 1 t14 H fun t15 =>
   p.cvI .u8 t1 fun t17 =>
   p.bin .neq t15 t17 fun t18 =>
   p.cond t18
   (k (.sc (.int .i64 (-1))) H)
   (p.bin .add t1 (.sc (.int .i64 1)) fun t20 =>
   p.bin .add t5 (.sc (.int .i64 1)) fun t11 =>
   f82_l0 p n  k m t0 t20 t11 H))
   (k t1 H)
noncomputable def f82 (p : Pr β) (n : Nat) (a0 a1 : AV) (H : Heap) (k : AV → Heap → Option β) : Option β :=
 f82_l0 p n  k n a0 a1 (.sc (.int .i64 0)) H
noncomputable def f82_L0 (p : Pr β) (n : Nat)  (k : AV → Heap → Option β) (m : Nat) (tm : Tm) (H : Heap) : Option β :=
 iterC 22 (fun tm H k => evalCode ti0 p o82 22 n (cd c82 [1, 0, 1, 0, 0]) tm H k) (blkK 0 (seqK (fun tm H => evalCode ti0 p o82 22 n (cd c82 [1, 1]) tm H (endK ti0 p Go.Proofs.Tryz.f82.results.toList k)) (endK ti0 p Go.Proofs.Tryz.f82.results.toList k))) m tm H
theorem f82_L0_step (p : Pr β) (n : Nat)  (k : AV → Heap → Option β) (m0 : Nat) (t : Nat → AV) (H : Heap) : f82_L0 p n  k (m0 + 1) (tf 22 0 t) H =
 p.len (t 0) fun t8 =>
 p.bin .lss (t 5) t8 fun t9 =>
 p.cond t9
 (p.iadr 1 (t 0) (t 5) fun t14 =>
 p.load false 1 t14 H fun t15 =>
 p.cvI .u8 (t 1) fun t17 =>
 p.bin .neq t15 t17 fun t18 =>
 p.cond t18
 (k (.sc (.int .i64 (-1))) H)
 (p.bin .add (t 1) (.sc (.int .i64 1)) fun t20 =>
 p.bin .add (t 5) (.sc (.int .i64 1)) fun t11 =>
 f82_L0 p n  k m0 (tf 22 0 (ud [(1, t20), (5, t11), (6, (t 5)), (7, (t 0)), (8, t8), (9, t9), (10, (t 5)), (11, t11), (12, (t 0)), (13, (t 5)), (14, t14), (15, t15), (16, (t 1)), (17, t17), (18, t18), (19, (t 1)), (20, t20)] t)) H))
 (k (t 1) H) := by kernel_rfl
theorem f82_l0_eq (p : Pr β) (n : Nat)  (k : AV → Heap → Option β)   (m0 : Nat) : ∀ (t : Nat → AV) (H : Heap), f82_L0 p n  k m0 (tf 22 0 t) H = f82_l0 p n  k m0 (t 0) (t 1) (t 5) H := by
 induction m0 with
 | zero => intros; rfl
 | succ m0 ih =>
  intro t H
  rw [f82_L0_step]
  simp only [ih]
  kernel_rfl
theorem f82_raw (p : Pr β) (n : Nat) (a0 a1 : AV) (H : Heap) (k : AV → Heap → Option β) : evalBody ti0 p n ⟨c82, 22, Go.Proofs.Tryz.f82.results.toList, o82⟩ [a0, a1] H k =
 f82_L0 p n  k n (tf 22 0 (ud [(0, a0), (1, a1), (4, (.sc (.int .i64 0))), (5, (.sc (.int .i64 0)))] ut)) H := by kernel_rfl
theorem f82_body (p : Pr β) (n : Nat) (a0 a1 : AV) (H : Heap) (k : AV → Heap → Option β) : evalBody ti0 p n ⟨c82, 22, Go.Proofs.Tryz.f82.results.toList, o82⟩ [a0, a1] H k = f82 p n a0 a1 H k := by
 rw [f82_raw]
 simp only [f82_l0_eq]
 kernel_rfl
noncomputable def f83_l0 (p : Pr β) (n : Nat)  (k : AV → Heap → Option β) : Nat → AV → AV → AV → Heap → Option β
 | 0, _, _, _, _ => none
 | m + 1, t0, t1, t5, H => p.len t0 fun t8 =>
   p.bin .lss t5 t8 fun t9 =>
   p.cond t9
   (p.iadr 2 t0 t5 fun t14 =>
   p.fadr 0 t14 fun t15 =>
   p.load false 1 t15 H fun t16 =>
   p.call 9 (.fn 79 [] []) [t1] H fun t18 H =>
   p.bin .neq t16 t18 fun t19 =>
   p.cond t19
   (k (.sc (.int .i64 (-1))) H)
   (p.bin .add t1 (.sc (.int .i64 1)) fun t21 =>
   p.iadr 2 t0 t5 fun t24 =>
   p.fadr 1 t24 fun t25 =>
   p.load false 1 t25 H fun t26 =>
   p.bin .neq t26 t21 fun t28 =>
   p.cond t28
   (k (.sc (.int .i64 (-1))) H)
   (p.bin .add t21 (.sc (.int .i64 1)) fun t30 =>
   p.bin .add t5 (.sc (.int .i64 1)) fun t11 =>
   f83_l0 p n  k m t0 t30 t11 H)))
   (k t1 H)
noncomputable def f83 (p : Pr β) (n : Nat) (a0 a1 : AV) (H : Heap) (k : AV → Heap → Option β) : Option β :=
 f83_l0 p n  k n a0 a1 (.sc (.int .i64 0)) H
noncomputable def f83_L0 (p : Pr β) (n : Nat)  (k : AV → Heap → Option β) (m : Nat) (tm : Tm) (H : Heap) : Option β :=
 iterC 32 (fun tm H k => evalCode ti0 p o83 32 n (cd c83 [1, 0, 1, 0, 0]) tm H k) (blkK 0 (seqK (fun tm H => evalCode ti0 p o83 32 n (cd c83 [1, 1]) tm H (endK ti0 p Go.Proofs.Tryz.f83.results.toList k)) (endK ti0 p Go.Proofs.Tryz.f83.results.toList k))) m tm H
theorem f83_L0_step (p : Pr β) (n : Nat)  (k : AV → Heap → Option β) (m0 : Nat) (t : Nat → AV) (H : Heap) : f83_L0 p n  k (m0 + 1) (tf 32 0 t) H =
 p.len (t 0) fun t8 =>
 p.bin .lss (t 5) t8 fun t9 =>
 p.cond t9
 (p.iadr 2 (t 0) (t 5) fun t14 =>
 p.fadr 0 t14 fun t15 =>
 p.load false 1 t15 H fun t16 =>
 p.call 9 (.fn 79 [] []) [(t 1)] H fun t18 H =>
 p.bin .neq t16 t18 fun t19 =>
 p.cond t19
 (k (.sc (.int .i64 (-1))) H)
 (p.bin .add (t 1) (.sc (.int .i64 1)) fun t21 =>
 p.iadr 2 (t 0) (t 5) fun t24 =>
 p.fadr 1 t24 fun t25 =>
 p.load false 1 t25 H fun t26 =>
 p.bin .neq t26 t21 fun t28 =>
 p.cond t28
 (k (.sc (.int .i64 (-1))) H)
 (p.bin .add t21 (.sc (.int .i64 1)) fun t30 =>
 p.bin .add (t 5) (.sc (.int .i64 1)) fun t11 =>
 f83_L0 p n  k m0 (tf 32 0 (ud [(1, t30), (5, t11), (6, (t 5)), (7, (t 0)), (8, t8), (9, t9), (10, (t 5)), (11, t11), (12, (t 0)), (13, (t 5)), (14, t14), (15, t15), (16, t16), (17, (t 1)), (18, t18), (19, t19), (20, (t 1)), (21, t21), (22, (t 0)), (23, (t 5)), (24, t24), (25, t25), (26, t26), (27, t21), (28, t28), (29, t21), (30, t30)] t)) H)))
 (k (t 1) H) := by kernel_rfl
theorem f83_l0_eq (p : Pr β) (n : Nat)  (k : AV → Heap → Option β)   (m0 : Nat) : ∀ (t : Nat → AV) (H : Heap), f83_L0 p n  k m0 (tf 32 0 t) H = f83_l0 p n  k m0 (t 0) (t 1) (t 5) H := by
 induction m0 with
 | zero => intros; rfl
 | succ m0 ih =>
  intro t H
  rw [f83_L0_step]
  simp only [ih]
  kernel_rfl
theorem f83_raw (p : Pr β) (n : Nat) (a0 a1 : AV) (H : Heap) (k : AV → Heap → Option β) : evalBody ti0 p n ⟨c83, 32, Go.Proofs.Tryz.f83.results.toList, o83⟩ [a0, a1] H k =
 f83_L0 p n  k n (tf 32 0 (ud [(0, a0), (1, a1), (4, (.sc (.int .i64 0))), (5, (.sc (.int .i64 0)))] ut)) H := by kernel_rfl
theorem f83_body (p : Pr β) (n : Nat) (a0 a1 : AV) (H : Heap) (k : AV → Heap → Option β) : evalBody ti0 p n ⟨c83, 32, Go.Proofs.Tryz.f83.results.toList, o83⟩ [a0, a1] H k = f83 p n a0 a1 H k := by
 rw [f83_raw]
 simp only [f83_l0_eq]
 kernel_rfl
noncomputable def f84_l0 (p : Pr β) (n : Nat)  (k : AV → Heap → Option β) : Nat → AV → AV → AV → Heap → Option β
 | 0, _, _, _, _ => none
 | m + 1, t0, t1, t5, H => p.len t0 fun t8 =>
   p.bin .lss t5 t8 fun t9 =>
   p.cond t9
   (p.iadr 1 t0 t5 fun t14 =>
   p.load false 1 t14 H fun t15 =>
   p.call 9 (.fn 79 [] []) [t1] H fun t17 H =>
   p.bin .neq t15 t17 fun t18 =>
   p.cond t18
   (k (.sc (.int .i64 (-1))) H)
   (p.bin .add t1 (.sc (.int .i64 1)) fun t20 =>
   p.bin .add t5 (.sc (.int .i64 1)) fun t11 =>
   f84_l0 p n  k m t0 t20 t11 H))
   (k t1 H)
noncomputable def f84 (p : Pr β) (n : Nat) (a0 a1 : AV) (H : Heap) (k : AV → Heap → Option β) : Option β :=
 f84_l0 p n  k n a0 a1 (.sc (.int .i64 0)) H
noncomputable def f84_L0 (p : Pr β) (n : Nat)  (k : AV → Heap → Option β) (m : Nat) (tm : Tm) (H : Heap) : Option β :=
 iterC 22 (fun tm H k => evalCode ti0 p o84 22 n (cd c84 [1, 0, 1, 0, 0]) tm H k) (blkK 0 (seqK (fun tm H => evalCode ti0 p o84 22 n (cd c84 [1, 1]) tm H (endK ti0 p Go.Proofs.Tryz.f84.results.toList k)) (endK ti0 p Go.Proofs.Tryz.f84.results.toList k))) m tm H
theorem f84_L0_step (p : Pr β) (n : Nat)  (k : AV → Heap → Option β) (m0 : Nat) (t : Nat → AV) (H : Heap) : f84_L0 p n  k (m0 + 1) (tf 22 0 t) H =
 p.len (t 0) fun t8 =>
 p.bin .lss (t 5) t8 fun t9 =>
 p.cond t9
 (p.iadr 1 (t 0) (t 5) fun t14 =>
 p.load false 1 t14 H fun t15 =>
 p.call 9 (.fn 79 [] []) [(t 1)] H fun t17 H =>
 p.bin .neq t15 t17 fun t18 =>
 p.cond t18
 (k (.sc (.int .i64 (-1))) H)
 (p.bin .add (t 1) (.sc (.int .i64 1)) fun t20 =>
 p.bin .add (t 5) (.sc (.int .i64 1)) fun t11 =>
 f84_L0 p n  k m0 (tf 22 0 (ud [(1, t20), (5, t11), (6, (t 5)), (7, (t 0)), (8, t8), (9, t9), (10, (t 5)), (11, t11), (12, (t 0)), (13, (t 5)), (14, t14), (15, t15), (16, (t 1)), (17, t17), (18, t18), (19, (t 1)), (20, t20)] t)) H))
 (k (t 1) H) := by kernel_rfl
theorem f84_l0_eq (p : Pr β) (n : Nat)  (k : AV → Heap → Option β)   (m0 : Nat) : ∀ (t : Nat → AV) (H : Heap), f84_L0 p n  k m0 (tf 22 0 t) H = f84_l0 p n  k m0 (t 0) (t 1) (t 5) H := by
 induction m0 with
 | zero => intros; rfl
 | succ m0 ih =>
  intro t H
  rw [f84_L0_step]
  simp only [ih]
  kernel_rfl
theorem f84_raw (p : Pr β) (n : Nat) (a0 a1 : AV) (H : Heap) (k : AV → Heap → Option β) : evalBody ti0 p n ⟨c84, 22, Go.Proofs.Tryz.f84.results.toList, o84⟩ [a0, a1] H k =
 f84_L0 p n  k n (tf 22 0 (ud [(0, a0), (1, a1), (4, (.sc (.int .i64 0))), (5, (.sc (.int .i64 0)))] ut)) H := by kernel_rfl
theorem f84_body (p : Pr β) (n : Nat) (a0 a1 : AV) (H : Heap) (k : AV → Heap → Option β) : evalBody ti0 p n ⟨c84, 22, Go.Proofs.Tryz.f84.results.toList, o84⟩ [a0, a1] H k = f84 p n a0 a1 H k := by
 rw [f84_raw]
 simp only [f84_l0_eq]
 kernel_rfl
noncomputable def f57_l0 (p : Pr β) (n : Nat)  (k : AV → Heap → Option β) : Nat → AV → AV → AV → Heap → Option β
 | 0, _, _, _, _ => none
 | m + 1, t0, t1, t5, H => p.len t0 fun t8 =>
   p.bin .lss t5 t8 fun t9 =>
   p.cond t9
   (p.iadr 1 t0 t5 fun t14 =>
   p.load false 1 t14 H fun t15 =>
   p.bin .neq t15 t1 fun t17 =>
   p.cond t17
   (k (.sc (.int .i64 (-1))) H)
   (p.bin .add t1 (.sc (.int .i64 1)) fun t19 =>
   p.bin .add t5 (.sc (.int .i64 1)) fun t11 =>
   f57_l0 p n  k m t0 t19 t11 H))
   (k t1 H)
noncomputable def f57 (p : Pr β) (n : Nat) (a0 a1 : AV) (H : Heap) (k : AV → Heap → Option β) : Option β :=
 f57_l0 p n  k n a0 a1 (.sc (.int .i64 0)) H
noncomputable def f57_L0 (p : Pr β) (n : Nat)  (k : AV → Heap → Option β) (m : Nat) (tm : Tm) (H : Heap) : Option β :=
 iterC 21 (fun tm H k => evalCode ti0 p o57 21 n (cd c57 [1, 0, 1, 0, 0]) tm H k) (blkK 0 (seqK (fun tm H => evalCode ti0 p o57 21 n (cd c57 [1, 1]) tm H (endK ti0 p Go.Proofs.Tryz.f57.results.toList k)) (endK ti0 p Go.Proofs.Tryz.f57.results.toList k))) m tm H
theorem f57_L0_step (p : Pr β) (n : Nat)  (k : AV → Heap → Option β) (m0 : Nat) (t : Nat → AV) (H : Heap) : f57_L0 p n  k (m0 + 1) (tf 21 0 t) H =
 p.len (t 0) fun t8 =>
 p.bin .lss (t 5) t8 fun t9 =>
 p.cond t9
 (p.iadr 1 (t 0) (t 5) fun t14 =>
 p.load false 1 t14 H fun t15 =>
 p.bin .neq t15 (t 1) fun t17 =>
 p.cond t17
 (k (.sc (.int .i64 (-1))) H)
 (p.bin .add (t 1) (.sc (.int .i64 1)) fun t19 =>
 p.bin .add (t 5) (.sc (.int .i64 1)) fun t11 =>
 f57_L0 p n  k m0 (tf 21 0 (ud [(1, t19), (5, t11), (6, (t 5)), (7, (t 0)), (8, t8), (9, t9), (10, (t 5)), (11, t11), (12, (t 0)), (13, (t 5)), (14, t14), (15, t15), (16, (t 1)), (17, t17), (18, (t 1)), (19, t19)] t)) H))
 (k (t 1) H) := by kernel_rfl
theorem f57_l0_eq (p : Pr β) (n : Nat)  (k : AV → Heap → Option β)   (m0 : Nat) : ∀ (t : Nat → AV) (H : Heap), f57_L0 p n  k m0 (tf 21 0 t) H = f57_l0 p n  k m0 (t 0) (t 1) (t 5) H := by
 induction m0 with
 | zero => intros; rfl
 | succ m0 ih =>
  intro t H
  rw [f57_L0_step]
  simp only [ih]
  kernel_rfl
theorem f57_raw (p : Pr β) (n : Nat) (a0 a1 : AV) (H : Heap) (k : AV → Heap → Option β) : evalBody ti0 p n ⟨c57, 21, Go.Proofs.Tryz.f57.results.toList, o57⟩ [a0, a1] H k =
 f57_L0 p n  k n (tf 21 0 (ud [(0, a0), (1, a1), (4, (.sc (.int .i64 0))), (5, (.sc (.int .i64 0)))] ut)) H := by kernel_rfl
theorem f57_body (p : Pr β) (n : Nat) (a0 a1 : AV) (H : Heap) (k : AV → Heap → Option β) : evalBody ti0 p n ⟨c57, 21, Go.Proofs.Tryz.f57.results.toList, o57⟩ [a0, a1] H k = f57 p n a0 a1 H k := by
 rw [f57_raw]
 simp only [f57_l0_eq]
 kernel_rfl
noncomputable def f33_l0 (p : Pr β) (n : Nat)  (k : AV → Heap → Option β) : Nat → AV → AV → AV → Heap → Option β
 | 0, _, _, _, _ => none
 | m + 1, t0, t1, t5, H => p.len t0 fun t8 =>
   p.bin .lss t5 t8 fun t9 =>
   p.cond t9
   (p.iadr 25 t0 t5 fun t14 =>
   p.fadr 0 t14 fun t15 =>
   p.load false 1 t15 H fun t16 =>
   p.bin .neq t16 t1 fun t18 =>
   p.cond t18
   (k (.sc (.int .i64 (-1))) H)
   (p.bin .add t1 (.sc (.int .i64 1)) fun t20 =>
   p.iadr 25 t0 t5 fun t23 =>
   p.fadr 1 t23 fun t24 =>
   p.load false 1 t24 H fun t25 =>
   p.bin .rem t20 (.sc (.int .i64 3)) fun t27 =>
   p.bin .eql t27 (.sc (.int .i64 0)) fun t28 =>
   p.binB .neq t25 t28 fun t29 =>
   p.cond t29
   (k (.sc (.int .i64 (-1))) H)
   (p.bin .add t20 (.sc (.int .i64 1)) fun t31 =>
   p.iadr 25 t0 t5 fun t34 =>
   p.fadr 2 t34 fun t35 =>
   p.load false 1 t35 H fun t36 =>
   p.bin .neq t36 t31 fun t38 =>
   p.cond t38
   (k (.sc (.int .i64 (-1))) H)
   (p.bin .add t31 (.sc (.int .i64 1)) fun t40 =>
   p.iadr 25 t0 t5 fun t43 =>
   p.fadr 3 t43 fun t44 =>
   p.load false 1 t44 H fun t45 =>
   p.bin .rem t40 (.sc (.int .i64 3)) fun t47 =>
   p.bin .eql t47 (.sc (.int .i64 0)) fun t48 =>
   p.binB .neq t45 t48 fun t49 =>
   p.cond t49
   (k (.sc (.int .i64 (-1))) H)
   (p.bin .add t40 (.sc (.int .i64 1)) fun t51 =>
   p.iadr 25 t0 t5 fun t54 =>
   p.fadr 4 t54 fun t55 =>
   p.load false 1 t55 H fun t56 =>
   p.bin .neq t56 t51 fun t58 =>
   p.cond t58
   (k (.sc (.int .i64 (-1))) H)
   (p.bin .add t51 (.sc (.int .i64 1)) fun t60 =>
   p.iadr 25 t0 t5 fun t63 =>
   p.fadr 5 t63 fun t64 =>
   p.load false 1 t64 H fun t65 =>
   p.call 9 (.fn 79 [] []) [t60] H fun t67 H =>
   p.bin .neq t65 t67 fun t68 =>
   p.cond t68
   (k (.sc (.int .i64 (-1))) H)
   (p.bin .add t60 (.sc (.int .i64 1)) fun t70 =>
   p.iadr 25 t0 t5 fun t73 =>
   p.fadr 6 t73 fun t74 =>
   p.load false 1 t74 H fun t75 =>
   p.call 3 (.fn 82 [] []) [t75, t70] H fun t77 H =>
   p.bin .lss t77 (.sc (.int .i64 0)) fun t79 =>
   p.cond t79
   (k (.sc (.int .i64 (-1))) H)
   (p.iadr 25 t0 t5 fun t82 =>
   p.fadr 7 t82 fun t83 =>
   p.load false 1 t83 H fun t84 =>
   p.call 9 (.fn 79 [] []) [t77] H fun t86 H =>
   p.bin .neq t84 t86 fun t87 =>
   p.cond t87
   (k (.sc (.int .i64 (-1))) H)
   (p.bin .add t77 (.sc (.int .i64 1)) fun t89 =>
   p.iadr 25 t0 t5 fun t92 =>
   p.fadr 8 t92 fun t93 =>
   p.load false 1 t93 H fun t94 =>
   p.bin .neq t94 t89 fun t96 =>
   p.cond t96
   (k (.sc (.int .i64 (-1))) H)
   (p.bin .add t89 (.sc (.int .i64 1)) fun t98 =>
   p.iadr 25 t0 t5 fun t101 =>
   p.fadr 9 t101 fun t102 =>
   p.load false 1 t102 H fun t103 =>
   p.bin .rem t98 (.sc (.int .i64 3)) fun t105 =>
   p.bin .eql t105 (.sc (.int .i64 0)) fun t106 =>
   p.binB .neq t103 t106 fun t107 =>
   p.cond t107
   (k (.sc (.int .i64 (-1))) H)
   (p.bin .add t98 (.sc (.int .i64 1)) fun t109 =>
   p.iadr 25 t0 t5 fun t112 =>
   p.fadr 10 t112 fun t113 =>
   p.load false 1 t113 H fun t114 =>
   p.bin .neq t114 t109 fun t116 =>
   p.cond t116
   (k (.sc (.int .i64 (-1))) H)
   (p.bin .add t109 (.sc (.int .i64 1)) fun t118 =>
   p.iadr 25 t0 t5 fun t121 =>
   p.fadr 11 t121 fun t122 =>
   p.load false 1 t122 H fun t123 =>
   p.bin .rem t118 (.sc (.int .i64 3)) fun t125 =>
   p.bin .eql t125 (.sc (.int .i64 0)) fun t126 =>
   p.binB .neq t123 t126 fun t127 =>
   p.cond t127
   (k (.sc (.int .i64 (-1))) H)
   (p.bin .add t118 (.sc (.int .i64 1)) fun t129 =>
   p.iadr 25 t0 t5 fun t132 =>
   p.fadr 12 t132 fun t133 =>
   p.load false 1 t133 H fun t134 =>
   p.call 9 (.fn 79 [] []) [t129] H fun t136 H =>
   p.bin .neq t134 t136 fun t137 =>
   p.cond t137
   (k (.sc (.int .i64 (-1))) H)
   (p.bin .add t129 (.sc (.int .i64 1)) fun t139 =>
   p.iadr 25 t0 t5 fun t142 =>
   p.fadr 13 t142 fun t143 =>
   p.load false 1 t143 H fun t144 =>
   p.call 3 (.fn 82 [] []) [t144, t139] H fun t146 H =>
   p.bin .lss t146 (.sc (.int .i64 0)) fun t148 =>
   p.cond t148
   (k (.sc (.int .i64 (-1))) H)
   (p.iadr 25 t0 t5 fun t151 =>
   p.fadr 14 t151 fun t152 =>
   p.load false 1 t152 H fun t153 =>
   p.bin .neq t153 t146 fun t155 =>
   p.cond t155
   (k (.sc (.int .i64 (-1))) H)
   (p.bin .add t146 (.sc (.int .i64 1)) fun t157 =>
   p.iadr 25 t0 t5 fun t160 =>
   p.fadr 15 t160 fun t161 =>
   p.load false 1 t161 H fun t162 =>
   p.bin .rem t157 (.sc (.int .i64 3)) fun t164 =>
   p.bin .eql t164 (.sc (.int .i64 0)) fun t165 =>
   p.binB .neq t162 t165 fun t166 =>
   p.cond t166
   (k (.sc (.int .i64 (-1))) H)
   (p.bin .add t157 (.sc (.int .i64 1)) fun t168 =>
   p.iadr 25 t0 t5 fun t171 =>
   p.fadr 16 t171 fun t172 =>
   p.load false 1 t172 H fun t173 =>
   p.bin .rem t168 (.sc (.int .i64 3)) fun t175 =>
   p.bin .eql t175 (.sc (.int .i64 0)) fun t176 =>
   p.binB .neq t173 t176 fun t177 =>
   p.cond t177
   (k (.sc (.int .i64 (-1))) H)
   (p.bin .add t168 (.sc (.int .i64 1)) fun t179 =>
   p.iadr 25 t0 t5 fun t182 =>
   p.fadr 17 t182 fun t183 =>
   p.load false 1 t183 H fun t184 =>
   p.call 9 (.fn 79 [] []) [t179] H fun t186 H =>
   p.bin .neq t184 t186 fun t187 =>
   p.cond t187
   (k (.sc (.int .i64 (-1))) H)
   (p.bin .add t179 (.sc (.int .i64 1)) fun t189 =>
   p.iadr 25 t0 t5 fun t192 =>
   p.fadr 18 t192 fun t193 =>
   p.load false 1 t193 H fun t194 =>
   p.bin .rem t189 (.sc (.int .i64 3)) fun t196 =>
   p.bin .eql t196 (.sc (.int .i64 0)) fun t197 =>
   p.binB .neq t194 t197 fun t198 =>
   p.cond t198
   (k (.sc (.int .i64 (-1))) H)
   (p.bin .add t189 (.sc (.int .i64 1)) fun t200 =>
   p.iadr 25 t0 t5 fun t203 =>
   p.fadr 19 t203 fun t204 =>
   p.load false 1 t204 H fun t205 =>
   p.call 3 (.fn 82 [] []) [t205, t200] H fun t207 H =>
   p.bin .lss t207 (.sc (.int .i64 0)) fun t209 =>
   p.cond t209
   (k (.sc (.int .i64 (-1))) H)
   (p.iadr 25 t0 t5 fun t212 =>
   p.fadr 20 t212 fun t213 =>
   p.load false 1 t213 H fun t214 =>
   p.bin .neq t214 t207 fun t216 =>
   p.cond t216
   (k (.sc (.int .i64 (-1))) H)
   (p.bin .add t207 (.sc (.int .i64 1)) fun t218 =>
   p.iadr 25 t0 t5 fun t221 =>
   p.fadr 21 t221 fun t222 =>
   p.load false 1 t222 H fun t223 =>
   p.bin .rem t218 (.sc (.int .i64 3)) fun t225 =>
   p.bin .eql t225 (.sc (.int .i64 0)) fun t226 =>
   p.binB .neq t223 t226 fun t227 =>
   p.cond t227
   (k (.sc (.int .i64 (-1))) H)
   (p.bin .add t218 (.sc (.int .i64 1)) fun t229 =>
   p.iadr 25 t0 t5 fun t232 =>
   p.fadr 22 t232 fun t233 =>
   p.load false 1 t233 H fun t234 =>
   p.call 3 (.fn 83 [] []) [t234, t229] H fun t236 H =>
   p.bin .lss t236 (.sc (.int .i64 0)) fun t238 =>
   p.cond t238
   (k (.sc (.int .i64 (-1))) H)
   (p.iadr 25 t0 t5 fun t241 =>
   p.fadr 23 t241 fun t242 =>
   p.load false 1 t242 H fun t243 =>
   p.call 3 (.fn 84 [] []) [t243, t236] H fun t245 H =>
   p.bin .lss t245 (.sc (.int .i64 0)) fun t247 =>
   p.cond t247
   (k (.sc (.int .i64 (-1))) H)
   (p.iadr 25 t0 t5 fun t250 =>
   p.fadr 24 t250 fun t251 =>
   p.load false 1 t251 H fun t252 =>
   p.call 3 (.fn 57 [] []) [t252, t245] H fun t254 H =>
   p.bin .lss t254 (.sc (.int .i64 0)) fun t256 =>
   p.cond t256
   (k (.sc (.int .i64 (-1))) H)
   (p.bin .add t5 (.sc (.int .i64 1)) fun t11 =>
   f33_l0 p n  k m t0 t254 t11 H))))))))))))))))))))))))))
   (k t1 H)
noncomputable def f33 (p : Pr β) (n : Nat) (a0 a1 : AV) (H : Heap) (k : AV → Heap → Option β) : Option β :=
 f33_l0 p n  k n a0 a1 (.sc (.int .i64 0)) H
noncomputable def f33_L0 (p : Pr β) (n : Nat)  (k : AV → Heap → Option β) (m : Nat) (tm : Tm) (H : Heap) : Option β :=
 iterC 258 (fun tm H k => evalCode ti0 p o33 258 n (cd c33 [1, 0, 1, 0, 0]) tm H k) (blkK 0 (seqK (fun tm H => evalCode ti0 p o33 258 n (cd c33 [1, 1]) tm H (endK ti0 p Go.Proofs.Tryz.f33.results.toList k)) (endK ti0 p Go.Proofs.Tryz.f33.results.toList k))) m tm H
theorem f33_L0_step (p : Pr β) (n : Nat)  (k : AV → Heap → Option β) (m0 : Nat) (t : Nat → AV) (H : Heap) : f33_L0 p n  k (m0 + 1) (tf 258 0 t) H =
 p.len (t 0) fun t8 =>
 p.bin .lss (t 5) t8 fun t9 =>
 p.cond t9
 (p.iadr 25 (t 0) (t 5) fun t14 =>
 p.fadr 0 t14 fun t15 =>
 p.load false 1 t15 H fun t16 =>
 p.bin .neq t16 (t 1) fun t18 =>
 p.cond t18
 (k (.sc (.int .i64 (-1))) H)
 (p.bin .add (t 1) (.sc (.int .i64 1)) fun t20 =>
 p.iadr 25 (t 0) (t 5) fun t23 =>
 p.fadr 1 t23 fun t24 =>
 p.load false 1 t24 H fun t25 =>
 p.bin .rem t20 (.sc (.int .i64 3)) fun t27 =>
 p.bin .eql t27 (.sc (.int .i64 0)) fun t28 =>
 p.binB .neq t25 t28 fun t29 =>
 p.cond t29
 (k (.sc (.int .i64 (-1))) H)
 (p.bin .add t20 (.sc (.int .i64 1)) fun t31 =>
 p.iadr 25 (t 0) (t 5) fun t34 =>
 p.fadr 2 t34 fun t35 =>
 p.load false 1 t35 H fun t36 =>
 p.bin .neq t36 t31 fun t38 =>
 p.cond t38
 (k (.sc (.int .i64 (-1))) H)
 (p.bin .add t31 (.sc (.int .i64 1)) fun t40 =>
 p.iadr 25 (t 0) (t 5) fun t43 =>
 p.fadr 3 t43 fun t44 =>
 p.load false 1 t44 H fun t45 =>
 p.bin .rem t40 (.sc (.int .i64 3)) fun t47 =>
 p.bin .eql t47 (.sc (.int .i64 0)) fun t48 =>
 p.binB .neq t45 t48 fun t49 =>
 p.cond t49
 (k (.sc (.int .i64 (-1))) H)
 (p.bin .add t40 (.sc (.int .i64 1)) fun t51 =>
 p.iadr 25 (t 0) (t 5) fun t54 =>
 p.fadr 4 t54 fun t55 =>
 p.load false 1 t55 H fun t56 =>
 p.bin .neq t56 t51 fun t58 =>
 p.cond t58
 (k (.sc (.int .i64 (-1))) H)
 (p.bin .add t51 (.sc (.int .i64 1)) fun t60 =>
 p.iadr 25 (t 0) (t 5) fun t63 =>
 p.fadr 5 t63 fun t64 =>
 p.load false 1 t64 H fun t65 =>
 p.call 9 (.fn 79 [] []) [t60] H fun t67 H =>
 p.bin .neq t65 t67 fun t68 =>
 p.cond t68
 (k (.sc (.int .i64 (-1))) H)
 (p.bin .add t60 (.sc (.int .i64 1)) fun t70 =>
 p.iadr 25 (t 0) (t 5) fun t73 =>
 p.fadr 6 t73 fun t74 =>
 p.load false 1 t74 H fun t75 =>
 p.call 3 (.fn 82 [] []) [t75, t70] H fun t77 H =>
 p.bin .lss t77 (.sc (.int .i64 0)) fun t79 =>
 p.cond t79
 (k (.sc (.int .i64 (-1))) H)
 (p.iadr 25 (t 0) (t 5) fun t82 =>
 p.fadr 7 t82 fun t83 =>
 p.load false 1 t83 H fun t84 =>
 p.call 9 (.fn 79 [] []) [t77] H fun t86 H =>
 p.bin .neq t84 t86 fun t87 =>
 p.cond t87
 (k (.sc (.int .i64 (-1))) H)
 (p.bin .add t77 (.sc (.int .i64 1)) fun t89 =>
 p.iadr 25 (t 0) (t 5) fun t92 =>
 p.fadr 8 t92 fun t93 =>
 p.load false 1 t93 H fun t94 =>
 p.bin .neq t94 t89 fun t96 =>
 p.cond t96
 (k (.sc (.int .i64 (-1))) H)
 (p.bin .add t89 (.sc (.int .i64 1)) fun t98 =>
 p.iadr 25 (t 0) (t 5) fun t101 =>
 p.fadr 9 t101 fun t102 =>
 p.load false 1 t102 H fun t103 =>
 p.bin .rem t98 (.sc (.int .i64 3)) fun t105 =>
 p.bin .eql t105 (.sc (.int .i64 0)) fun t106 =>
 p.binB .neq t103 t106 fun t107 =>
 p.cond t107
 (k (.sc (.int .i64 (-1))) H)
 (p.bin .add t98 (.sc (.int .i64 1)) fun t109 =>
 p.iadr 25 (t 0) (t 5) fun t112 =>
 p.fadr 10 t112 fun t113 =>
 p.load false 1 t113 H fun t114 =>
 p.bin .neq t114 t109 fun t116 =>
 p.cond t116
 (k (.sc (.int .i64 (-1))) H)
 (p.bin .add t109 (.sc (.int .i64 1)) fun t118 =>
 p.iadr 25 (t 0) (t 5) fun t121 =>
 p.fadr 11 t121 fun t122 =>
 p.load false 1 t122 H fun t123 =>
 p.bin .rem t118 (.sc (.int .i64 3)) fun t125 =>
 p.bin .eql t125 (.sc (.int .i64 0)) fun t126 =>
 p.binB .neq t123 t126 fun t127 =>
 p.cond t127
 (k (.sc (.int .i64 (-1))) H)
 (p.bin .add t118 (.sc (.int .i64 1)) fun t129 =>
 p.iadr 25 (t 0) (t 5) fun t132 =>
 p.fadr 12 t132 fun t133 =>
 p.load false 1 t133 H fun t134 =>
 p.call 9 (.fn 79 [] []) [t129] H fun t136 H =>
 p.bin .neq t134 t136 fun t137 =>
 p.cond t137
 (k (.sc (.int .i64 (-1))) H)
 (p.bin .add t129 (.sc (.int .i64 1)) fun t139 =>
 p.iadr 25 (t 0) (t 5) fun t142 =>
 p.fadr 13 t142 fun t143 =>
 p.load false 1 t143 H fun t144 =>
 p.call 3 (.fn 82 [] []) [t144, t139] H fun t146 H =>
 p.bin .lss t146 (.sc (.int .i64 0)) fun t148 =>
 p.cond t148
 (k (.sc (.int .i64 (-1))) H)
 (p.iadr 25 (t 0) (t 5) fun t151 =>
 p.fadr 14 t151 fun t152 =>
 p.load false 1 t152 H fun t153 =>
 p.bin .neq t153 t146 fun t155 =>
 p.cond t155
 (k (.sc (.int .i64 (-1))) H)
 (p.bin .add t146 (.sc (.int .i64 1)) fun t157 =>
 p.iadr 25 (t 0) (t 5) fun t160 =>
 p.fadr 15 t160 fun t161 =>
 p.load false 1 t161 H fun t162 =>
 p.bin .rem t157 (.sc (.int .i64 3)) fun t164 =>
 p.bin .eql t164 (.sc (.int .i64 0)) fun t165 =>
 p.binB .neq t162 t165 fun t166 =>
 p.cond t166
 (k (.sc (.int .i64 (-1))) H)
 (p.bin .add t157 (.sc (.int .i64 1)) fun t168 =>
 p.iadr 25 (t 0) (t 5) fun t171 =>
 p.fadr 16 t171 fun t172 =>
 p.load false 1 t172 H fun t173 =>
 p.bin .rem t168 (.sc (.int .i64 3)) fun t175 =>
 p.bin .eql t175 (.sc (.int .i64 0)) fun t176 =>
 p.binB .neq t173 t176 fun t177 =>
 p.cond t177
 (k (.sc (.int .i64 (-1))) H)
 (p.bin .add t168 (.sc (.int .i64 1)) fun t179 =>
 p.iadr 25 (t 0) (t 5) fun t182 =>
 p.fadr 17 t182 fun t183 =>
 p.load false 1 t183 H fun t184 =>
 p.call 9 (.fn 79 [] []) [t179] H fun t186 H =>
 p.bin .neq t184 t186 fun t187 =>
 p.cond t187
 (k (.sc (.int .i64 (-1))) H)
 (p.bin .add t179 (.sc (.int .i64 1)) fun t189 =>
 p.iadr 25 (t 0) (t 5) fun t192 =>
 p.fadr 18 t192 fun t193 =>
 p.load false 1 t193 H fun t194 =>
 p.bin .rem t189 (.sc (.int .i64 3)) fun t196 =>
 p.bin .eql t196 (.sc (.int .i64 0)) fun t197 =>
 p.binB .neq t194 t197 fun t198 =>
 p.cond t198
 (k (.sc (.int .i64 (-1))) H)
 (p.bin .add t189 (.sc (.int .i64 1)) fun t200 =>
 p.iadr 25 (t 0) (t 5) fun t203 =>
 p.fadr 19 t203 fun t204 =>
 p.load false 1 t204 H fun t205 =>
 p.call 3 (.fn 82 [] []) [t205, t200] H fun t207 H =>
 p.bin .lss t207 (.sc (.int .i64 0)) fun t209 =>
 p.cond t209
 (k (.sc (.int .i64 (-1))) H)
 (p.iadr 25 (t 0) (t 5) fun t212 =>
 p.fadr 20 t212 fun t213 =>
 p.load false 1 t213 H fun t214 =>
 p.bin .neq t214 t207 fun t216 =>
 p.cond t216
 (k (.sc (.int .i64 (-1))) H)
 (p.bin .add t207 (.sc (.int .i64 1)) fun t218 =>
 p.iadr 25 (t 0) (t 5) fun t221 =>
 p.fadr 21 t221 fun t222 =>
 p.load false 1 t222 H fun t223 =>
 p.bin .rem t218 (.sc (.int .i64 3)) fun t225 =>
 p.bin .eql t225 (.sc (.int .i64 0)) fun t226 =>
 p.binB .neq t223 t226 fun t227 =>
 p.cond t227
 (k (.sc (.int .i64 (-1))) H)
 (p.bin .add t218 (.sc (.int .i64 1)) fun t229 =>
 p.iadr 25 (t 0) (t 5) fun t232 =>
 p.fadr 22 t232 fun t233 =>
 p.load false 1 t233 H fun t234 =>
 p.call 3 (.fn 83 [] []) [t234, t229] H fun t236 H =>
 p.bin .lss t236 (.sc (.int .i64 0)) fun t238 =>
 p.cond t238
 (k (.sc (.int .i64 (-1))) H)
 (p.iadr 25 (t 0) (t 5) fun t241 =>
 p.fadr 23 t241 fun t242 =>
 p.load false 1 t242 H fun t243 =>
 p.call 3 (.fn 84 [] []) [t243, t236] H fun t245 H =>
 p.bin .lss t245 (.sc (.int .i64 0)) fun t247 =>
 p.cond t247
 (k (.sc (.int .i64 (-1))) H)
 (p.iadr 25 (t 0) (t 5) fun t250 =>
 p.fadr 24 t250 fun t251 =>
 p.load false 1 t251 H fun t252 =>
 p.call 3 (.fn 57 [] []) [t252, t245] H fun t254 H =>
 p.bin .lss t254 (.sc (.int .i64 0)) fun t256 =>
 p.cond t256
 (k (.sc (.int .i64 (-1))) H)
 (p.bin .add (t 5) (.sc (.int .i64 1)) fun t11 =>
 f33_L0 p n  k m0 (tf 258 0 (ud [(1, t254), (5, t11), (6, (t 5)), (7, (t 0)), (8, t8), (9, t9), (10, (t 5)), (11, t11), (12, (t 0)), (13, (t 5)), (14, t14), (15, t15), (16, t16), (17, (t 1)), (18, t18), (19, (t 1)), (20, t20), (21, (t 0)), (22, (t 5)), (23, t23), (24, t24), (25, t25), (26, t20), (27, t27), (28, t28), (29, t29), (30, t20), (31, t31), (32, (t 0)), (33, (t 5)), (34, t34), (35, t35), (36, t36), (37, t31), (38, t38), (39, t31), (40, t40), (41, (t 0)), (42, (t 5)), (43, t43), (44, t44), (45, t45), (46, t40), (47, t47), (48, t48), (49, t49), (50, t40), (51, t51), (52, (t 0)), (53, (t 5)), (54, t54), (55, t55), (56, t56), (57, t51), (58, t58), (59, t51), (60, t60), (61, (t 0)), (62, (t 5)), (63, t63), (64, t64), (65, t65), (66, t60), (67, t67), (68, t68), (69, t60), (70, t70), (71, (t 0)), (72, (t 5)), (73, t73), (74, t74), (75, t75), (76, t70), (77, t77), (78, t77), (79, t79), (80, (t 0)), (81, (t 5)), (82, t82), (83, t83), (84, t84), (85, t77), (86, t86), (87, t87), (88, t77), (89, t89), (90, (t 0)), (91, (t 5)), (92, t92), (93, t93), (94, t94), (95, t89), (96, t96), (97, t89), (98, t98), (99, (t 0)), (100, (t 5)), (101, t101), (102, t102), (103, t103), (104, t98), (105, t105), (106, t106), (107, t107), (108, t98), (109, t109), (110, (t 0)), (111, (t 5)), (112, t112), (113, t113), (114, t114), (115, t109), (116, t116), (117, t109), (118, t118), (119, (t 0)), (120, (t 5)), (121, t121), (122, t122), (123, t123), (124, t118), (125, t125), (126, t126), (127, t127), (128, t118), (129, t129), (130, (t 0)), (131, (t 5)), (132, t132), (133, t133), (134, t134), (135, t129), (136, t136), (137, t137), (138, t129), (139, t139), (140, (t 0)), (141, (t 5)), (142, t142), (143, t143), (144, t144), (145, t139), (146, t146), (147, t146), (148, t148), (149, (t 0)), (150, (t 5)), (151, t151), (152, t152), (153, t153), (154, t146), (155, t155), (156, t146), (157, t157), (158, (t 0)), (159, (t 5)), (160, t160), (161, t161), (162, t162), (163, t157), (164, t164), (165, t165), (166, t166), (167, t157), (168, t168), (169, (t 0)), (170, (t 5)), (171, t171), (172, t172), (173, t173), (174, t168), (175, t175), (176, t176), (177, t177), (178, t168), (179, t179), (180, (t 0)), (181, (t 5)), (182, t182), (183, t183), (184, t184), (185, t179), (186, t186), (187, t187), (188, t179), (189, t189), (190, (t 0)), (191, (t 5)), (192, t192), (193, t193), (194, t194), (195, t189), (196, t196), (197, t197), (198, t198), (199, t189), (200, t200), (201, (t 0)), (202, (t 5)), (203, t203), (204, t204), (205, t205), (206, t200), (207, t207), (208, t207), (209, t209), (210, (t 0)), (211, (t 5)), (212, t212), (213, t213), (214, t214), (215, t207), (216, t216), (217, t207), (218, t218), (219, (t 0)), (220, (t 5)), (221, t221), (222, t222), (223, t223), (224, t218), (225, t225), (226, t226), (227, t227), (228, t218), (229, t229), (230, (t 0)), (231, (t 5)), (232, t232), (233, t233), (234, t234), (235, t229), (236, t236), (237, t236), (238, t238), (239, (t 0)), (240, (t 5)), (241, t241), (242, t242), (243, t243), (244, t236), (245, t245), (246, t245), (247, t247), (248, (t 0)), (249, (t 5)), (250, t250), (251, t251), (252, t252), (253, t245), (254, t254), (255, t254), (256, t256)] t)) H))))))))))))))))))))))))))
 (k (t 1) H) := by kernel_rfl
theorem f33_l0_eq (p : Pr β) (n : Nat)  (k : AV → Heap → Option β)   (m0 : Nat) : ∀ (t : Nat → AV) (H : Heap), f33_L0 p n  k m0 (tf 258 0 t) H = f33_l0 p n  k m0 (t 0) (t 1) (t 5) H := by
 induction m0 with
 | zero => intros; rfl
 | succ m0 ih =>
  intro t H
  rw [f33_L0_step]
  simp only [ih]
  kernel_rfl
theorem f33_raw (p : Pr β) (n : Nat) (a0 a1 : AV) (H : Heap) (k : AV → Heap → Option β) : evalBody ti0 p n ⟨c33, 258, Go.Proofs.Tryz.f33.results.toList, o33⟩ [a0, a1] H k =
 f33_L0 p n  k n (tf 258 0 (ud [(0, a0), (1, a1), (4, (.sc (.int .i64 0))), (5, (.sc (.int .i64 0)))] ut)) H := by kernel_rfl
theorem f33_body (p : Pr β) (n : Nat) (a0 a1 : AV) (H : Heap) (k : AV → Heap → Option β) : evalBody ti0 p n ⟨c33, 258, Go.Proofs.Tryz.f33.results.toList, o33⟩ [a0, a1] H k = f33 p n a0 a1 H k := by
 rw [f33_raw]
 simp only [f33_l0_eq]
 kernel_rfl
noncomputable def f6 (p : Pr β) (n : Nat) (a0 : AV) (H : Heap) (k : AV → Heap → Option β) : Option β :=
 p.box a0 H fun t1 H =>
 p.load true 3 t1 H fun t11 =>
 p.call 3 (.fn 25 [] []) [t11, (.sc (.int .i64 1048576))] H fun t13 H =>
 p.bin .lss t13 (.sc (.int .i64 0)) fun t15 =>
 p.cond t15
 (k (.sc (.bool true)) H)
 (p.load true 3 t1 H fun t16 =>
 p.call 33 (.fn 27 [] []) [t16] H fun t17 H =>
 p.call 55 (.fn 26 [] []) [t17] H fun t18 H =>
 p.load true 3 t1 H fun t19 =>
 p.call 33 (.fn 27 [] []) [t19] H fun t20 H =>
 p.new [(.sc (.int .i64 0)), .nl, .nl] H fun t5 H =>
 p.store 3 t5 t20 H fun H =>
 p.load true 3 t5 H fun t21 =>
 p.call 55 (.fn 28 [] []) [t21] H fun t22 H =>
 p.call 4 (.fn 29 [] []) [t22, t18] H fun t25 H =>
 p.un .not t25 fun t26 =>
 p.cond t26
 (k (.sc (.bool false)) H)
 (p.load true 3 t5 H fun t27 =>
 p.load true 3 t1 H fun t28 =>
 p.call 33 (.fn 27 [] []) [t28] H fun t29 H =>
 p.call 4 (.fn 30 [] []) [t27, t29] H fun t30 H =>
 p.un .not t30 fun t31 =>
 p.cond t31
 (k (.sc (.bool false)) H)
 (p.load true 3 t5 H fun t32 =>
 p.call 3 (.fn 31 [] []) [t32, (.sc (.int .i64 1))] H fun t34 H =>
 p.bin .lss t34 (.sc (.int .i64 0)) fun t36 =>
 p.guard t36 false H (fun k' => k' t22 H) fun t38 H =>
 p.guard t36 false H (fun k' => k' t18 H) fun t39 H =>
 p.guard t36 false H (fun k' => p.call 4 (.fn 29 [] []) [t38, t39] H fun t' H => k' t' H) fun t40 H =>
 p.guard t36 false H (fun k' => p.un .not t40 fun t' => k' t' H) fun t41 H =>
 p.pick t36 (.sc (.bool true)) t41 fun t42 =>
 p.cond t42
 (k (.sc (.bool false)) H)
 (p.call 3 (.fn 32 [] []) [t22, (.sc (.int .i64 1))] H fun t45 H =>
 p.call 3 (.fn 33 [] []) [t22, (.sc (.int .i64 1))] H fun t48 H =>
 p.bin .lss t48 (.sc (.int .i64 0)) fun t50 =>
 p.cond t50
 (k (.sc (.bool false)) H)
 (p.bin .neq t48 t45 fun t53 =>
 p.cond t53
 (k (.sc (.bool false)) H)
 (p.load true 3 t1 H fun t54 =>
 p.call 33 (.fn 27 [] []) [t54] H fun t55 H =>
 p.call 55 (.fn 28 [] []) [t55] H fun t56 H =>
 p.call 4 (.fn 29 [] []) [t56, t18] H fun t59 H =>
 p.un .not t59 fun t60 =>
 p.cond t60
 (k (.sc (.bool false)) H)
 (p.call 3 (.fn 33 [] []) [t22, (.sc (.int .i64 1))] H fun t63 H =>
 p.bin .lss t63 (.sc (.int .i64 0)) fun t65 =>
 p.cond t65
 (k (.sc (.bool false)) H)
 (p.bin .neq t63 t45 fun t68 =>
 p.cond t68
 (k (.sc (.bool false)) H)
 (k (.sc (.bool true)) H)))))))))
theorem f6_body (p : Pr β) (n : Nat) (a0 : AV) (H : Heap) (k : AV → Heap → Option β) : evalBody ti0 p n ⟨c6, 69, Go.Proofs.Tryz.f6.results.toList, o6⟩ [a0] H k = f6 p n a0 H k := by kernel_rfl
noncomputable def fss : List (Option FnI) := [none, none, none, none, none, none, some ⟨c6, 69, Go.Proofs.Tryz.f6.results.toList, o6⟩, none, none, none, none, none, none, none, none, none, none, none, none, some ⟨c19, 19, Go.Proofs.Tryz.f19.results.toList, o19⟩, none, some ⟨c21, 18, Go.Proofs.Tryz.f21.results.toList, o21⟩, none, some ⟨c23, 26, Go.Proofs.Tryz.f23.results.toList, o23⟩, none, some ⟨c25, 18, Go.Proofs.Tryz.f25.results.toList, o25⟩, some ⟨c26, 41, Go.Proofs.Tryz.f26.results.toList, o26⟩, some ⟨c27, 16, Go.Proofs.Tryz.f27.results.toList, o27⟩, some ⟨c28, 37, Go.Proofs.Tryz.f28.results.toList, o28⟩, some ⟨c29, 27, Go.Proofs.Tryz.f29.results.toList, o29⟩, some ⟨c30, 22, Go.Proofs.Tryz.f30.results.toList, o30⟩, some ⟨c31, 14, Go.Proofs.Tryz.f31.results.toList, o31⟩, some ⟨c32, 208, Go.Proofs.Tryz.f32.results.toList, o32⟩, some ⟨c33, 258, Go.Proofs.Tryz.f33.results.toList, o33⟩, none, none, some ⟨c36, 136, Go.Proofs.Tryz.f36.results.toList, o36⟩, none, none, none, none, none, none, none, none, none, none, none, none, none, none, none, none, none, none, some ⟨c55, 26, Go.Proofs.Tryz.f55.results.toList, o55⟩, some ⟨c56, 19, Go.Proofs.Tryz.f56.results.toList, o56⟩, some ⟨c57, 21, Go.Proofs.Tryz.f57.results.toList, o57⟩, none, some ⟨c59, 12, Go.Proofs.Tryz.f59.results.toList, o59⟩, none, some ⟨c61, 22, Go.Proofs.Tryz.f61.results.toList, o61⟩, none, some ⟨c63, 26, Go.Proofs.Tryz.f63.results.toList, o63⟩, some ⟨c64, 20, Go.Proofs.Tryz.f64.results.toList, o64⟩, some ⟨c65, 27, Go.Proofs.Tryz.f65.results.toList, o65⟩, some ⟨c66, 27, Go.Proofs.Tryz.f66.results.toList, o66⟩, some ⟨c67, 71, Go.Proofs.Tryz.f67.results.toList, o67⟩, some ⟨c68, 23, Go.Proofs.Tryz.f68.results.toList, o68⟩, some ⟨c69, 20, Go.Proofs.Tryz.f69.results.toList, o69⟩, some ⟨c70, 23, Go.Proofs.Tryz.f70.results.toList, o70⟩, some ⟨c71, 23, Go.Proofs.Tryz.f71.results.toList, o71⟩, some ⟨c72, 67, Go.Proofs.Tryz.f72.results.toList, o72⟩, some ⟨c73, 23, Go.Proofs.Tryz.f73.results.toList, o73⟩, some ⟨c74, 20, Go.Proofs.Tryz.f74.results.toList, o74⟩, some ⟨c75, 27, Go.Proofs.Tryz.f75.results.toList, o75⟩, some ⟨c76, 27, Go.Proofs.Tryz.f76.results.toList, o76⟩, some ⟨c77, 62, Go.Proofs.Tryz.f77.results.toList, o77⟩, some ⟨c78, 44, Go.Proofs.Tryz.f78.results.toList, o78⟩, some ⟨c79, 20, Go.Proofs.Tryz.f79.results.toList, o79⟩, some ⟨c80, 28, Go.Proofs.Tryz.f80.results.toList, o80⟩, some ⟨c81, 20, Go.Proofs.Tryz.f81.results.toList, o81⟩, some ⟨c82, 22, Go.Proofs.Tryz.f82.results.toList, o82⟩, some ⟨c83, 32, Go.Proofs.Tryz.f83.results.toList, o83⟩, some ⟨c84, 22, Go.Proofs.Tryz.f84.results.toList, o84⟩, none, none, none, none, none, none, none, none, some ⟨c93, 27, Go.Proofs.Tryz.f93.results.toList, o93⟩, some ⟨c94, 26, Go.Proofs.Tryz.f94.results.toList, o94⟩, none, none, some ⟨c97, 8, Go.Proofs.Tryz.f97.results.toList, o97⟩, none, none, none, none, none, none, none, none, none, none, some ⟨c108, 6, Go.Proofs.Tryz.f108.results.toList, o108⟩, some ⟨c109, 15, Go.Proofs.Tryz.f109.results.toList, o109⟩, none, none, none, none, some ⟨c114, 15, Go.Proofs.Tryz.f114.results.toList, o114⟩, none, none, some ⟨c117, 12, Go.Proofs.Tryz.f117.results.toList, o117⟩, some ⟨c118, 17, Go.Proofs.Tryz.f118.results.toList, o118⟩, some ⟨c119, 24, Go.Proofs.Tryz.f119.results.toList, o119⟩, some ⟨c120, 19, Go.Proofs.Tryz.f120.results.toList, o120⟩, some ⟨c121, 191, Go.Proofs.Tryz.f121.results.toList, o121⟩, some ⟨c122, 15, Go.Proofs.Tryz.f122.results.toList, o122⟩, some ⟨c123, 5, Go.Proofs.Tryz.f123.results.toList, o123⟩, some ⟨c124, 17, Go.Proofs.Tryz.f124.results.toList, o124⟩, some ⟨c125, 5, Go.Proofs.Tryz.f125.results.toList, o125⟩, some ⟨c126, 10, Go.Proofs.Tryz.f126.results.toList, o126⟩, some ⟨c127, 81, Go.Proofs.Tryz.f127.results.toList, o127⟩, some ⟨c128, 18, Go.Proofs.Tryz.f128.results.toList, o128⟩, some ⟨c129, 21, Go.Proofs.Tryz.f129.results.toList, o129⟩, none, none, none, none, none, some ⟨c135, 15, Go.Proofs.Tryz.f135.results.toList, o135⟩, some ⟨c136, 19, Go.Proofs.Tryz.f136.results.toList, o136⟩, some ⟨c137, 8, Go.Proofs.Tryz.f137.results.toList, o137⟩, none, none, none, none, some ⟨c142, 35, Go.Proofs.Tryz.f142.results.toList, o142⟩, none, some ⟨c144, 25, Go.Proofs.Tryz.f144.results.toList, o144⟩, some ⟨c145, 239, Go.Proofs.Tryz.f145.results.toList, o145⟩, some ⟨c146, 120, Go.Proofs.Tryz.f146.results.toList, o146⟩, some ⟨c147, 57, Go.Proofs.Tryz.f147.results.toList, o147⟩, some ⟨c148, 20, Go.Proofs.Tryz.f148.results.toList, o148⟩, some ⟨c149, 5, Go.Proofs.Tryz.f149.results.toList, o149⟩, some ⟨c150, 15, Go.Proofs.Tryz.f150.results.toList, o150⟩, some ⟨c151, 186, Go.Proofs.Tryz.f151.results.toList, o151⟩, some ⟨c152, 121, Go.Proofs.Tryz.f152.results.toList, o152⟩, some ⟨c153, 50, Go.Proofs.Tryz.f153.results.toList, o153⟩, some ⟨c154, 65, Go.Proofs.Tryz.f154.results.toList, o154⟩, none, none, some ⟨c157, 104, Go.Proofs.Tryz.f157.results.toList, o157⟩, none, some ⟨c159, 17, Go.Proofs.Tryz.f159.results.toList, o159⟩, some ⟨c160, 33, Go.Proofs.Tryz.f160.results.toList, o160⟩, some ⟨c161, 10, Go.Proofs.Tryz.f161.results.toList, o161⟩, none, some ⟨c163, 5, Go.Proofs.Tryz.f163.results.toList, o163⟩, some ⟨c164, 10, Go.Proofs.Tryz.f164.results.toList, o164⟩, some ⟨c165, 26, Go.Proofs.Tryz.f165.results.toList, o165⟩, some ⟨c166, 26, Go.Proofs.Tryz.f166.results.toList, o166⟩, some ⟨c167, 26, Go.Proofs.Tryz.f167.results.toList, o167⟩, some ⟨c168, 35, Go.Proofs.Tryz.f168.results.toList, o168⟩, none, none, none, none, some ⟨c173, 19, Go.Proofs.Tryz.f173.results.toList, o173⟩]
noncomputable def tps : List (Nat × List Nat) := [(47, [35, 3]), (67, [33, 66, 4]), (80, [79, 4]), (92, [33, 3]), (113, [31, 49, 4]), (115, [3, 4]), (130, [31, 3]), (157, [3, 3, 4]), (176, [175, 4]), (185, [21, 3]), (188, [187, 187])]
noncomputable def E0 : Env := { ti := ti0, tp := fun t => ordOf tps t, fs := fun f => (fss[f]?).getD none, ext := fun f => if Nat.beq f 143 then some ext143 else if Nat.beq f 162 then some ext162 else if Nat.beq f 172 then some ext172 else none, hm := fun f => [15, 24, 31, 32, 37, 47, 56, 64, 77, 78, 80, 81, 106, 138, 146, 152, 177, 203, 204, 205, 206, 207].contains f }
noncomputable def PR (n : Nat) (β : Type) : Pr β := prims E0 (evalFn E0 n) β
theorem f59_eq (n : Nat) (a0 a1 : AV) (H : Heap) (k : AV → Heap → Option β) : evalFn E0 (n + 1) β 59 [a0, a1] H k = f59 (PR n β) n a0 a1 H k := f59_body (PR n β) n a0 a1 H k
theorem f19_eq (n : Nat) (a0 a1 : AV) (H : Heap) (k : AV → Heap → Option β) : evalFn E0 (n + 1) β 19 [a0, a1] H k = f19 (PR n β) n a0 a1 H k := f19_body (PR n β) n a0 a1 H k
theorem f117_eq (n : Nat) (a0 a1 : AV) (H : Heap) (k : AV → Heap → Option β) : evalFn E0 (n + 1) β 117 [a0, a1] H k = f117 (PR n β) n a0 a1 H k := f117_body (PR n β) n a0 a1 H k
theorem f65_eq (n : Nat) (a0 a1 : AV) (H : Heap) (k : AV → Heap → Option β) : evalFn E0 (n + 1) β 65 [a0, a1] H k = f65 (PR n β) n a0 a1 H k := f65_body (PR n β) n a0 a1 H k
theorem f66_eq (n : Nat) (a0 a1 : AV) (H : Heap) (k : AV → Heap → Option β) : evalFn E0 (n + 1) β 66 [a0, a1] H k = f66 (PR n β) n a0 a1 H k := f66_body (PR n β) n a0 a1 H k
theorem f25_eq (n : Nat) (a0 a1 : AV) (H : Heap) (k : AV → Heap → Option β) : evalFn E0 (n + 1) β 25 [a0, a1] H k = f25 (PR n β) n a0 a1 H k := f25_body (PR n β) n a0 a1 H k
theorem f61_eq (n : Nat) (a0 : AV) (H : Heap) (k : AV → Heap → Option β) : evalFn E0 (n + 1) β 61 [a0] H k = f61 (PR n β) n a0 H k := f61_body (PR n β) n a0 H k
theorem f21_eq (n : Nat) (a0 : AV) (H : Heap) (k : AV → Heap → Option β) : evalFn E0 (n + 1) β 21 [a0] H k = f21 (PR n β) n a0 H k := f21_body (PR n β) n a0 H k
theorem f122_eq (n : Nat) (a0 : AV) (H : Heap) (k : AV → Heap → Option β) : evalFn E0 (n + 1) β 122 [a0] H k = f122 (PR n β) n a0 H k := f122_body (PR n β) n a0 H k
theorem f70_eq (n : Nat) (a0 : AV) (H : Heap) (k : AV → Heap → Option β) : evalFn E0 (n + 1) β 70 [a0] H k = f70 (PR n β) n a0 H k := f70_body (PR n β) n a0 H k
theorem f71_eq (n : Nat) (a0 : AV) (H : Heap) (k : AV → Heap → Option β) : evalFn E0 (n + 1) β 71 [a0] H k = f71 (PR n β) n a0 H k := f71_body (PR n β) n a0 H k
theorem f27_eq (n : Nat) (a0 : AV) (H : Heap) (k : AV → Heap → Option β) : evalFn E0 (n + 1) β 27 [a0] H k = f27 (PR n β) n a0 H k := f27_body (PR n β) n a0 H k
theorem f109_eq (n : Nat) (a0 a1 a2 : AV) (H : Heap) (k : AV → Heap → Option β) : evalFn E0 (n + 1) β 109 [a0, a1, a2] H k = f109 (PR n β) n a0 a1 a2 H k := f109_body (PR n β) n a0 a1 a2 H k
theorem f157_eq (n : Nat) (a0 a1 : AV) (H : Heap) (k : AV → Heap → Option β) : evalFn E0 (n + 1) β 157 [a0, a1] H k = f157 (PR n β) n a0 a1 H k := f157_body (PR n β) n a0 a1 H k
theorem f142_eq (n : Nat) (a0 : AV) (H : Heap) (k : AV → Heap → Option β) : evalFn E0 (n + 1) β 142 [a0] H k = f142 (PR n β) n a0 H k := f142_body (PR n β) n a0 H k
theorem f108_eq (n : Nat) (a0 : AV) (H : Heap) (k : AV → Heap → Option β) : evalFn E0 (n + 1) β 108 [a0] H k = f108 (PR n β) n a0 H k := f108_body (PR n β) n a0 H k
theorem f159_eq (n : Nat) (a0 a1 : AV) (H : Heap) (k : AV → Heap → Option β) : evalFn E0 (n + 1) β 159 [a0, a1] H k = f159 (PR n β) n a0 a1 H k := f159_body (PR n β) n a0 a1 H k
theorem f160_eq (n : Nat) (a0 : AV) (H : Heap) (k : AV → Heap → Option β) : evalFn E0 (n + 1) β 160 [a0] H k = f160 (PR n β) n a0 H k := f160_body (PR n β) n a0 H k
theorem f144_eq (n : Nat) (a0 : AV) (H : Heap) (k : AV → Heap → Option β) : evalFn E0 (n + 1) β 144 [a0] H k = f144 (PR n β) n a0 H k := f144_body (PR n β) n a0 H k
theorem f118_eq (n : Nat) (a0 : AV) (H : Heap) (k : AV → Heap → Option β) : evalFn E0 (n + 1) β 118 [a0] H k = f118 (PR n β) n a0 H k := f118_body (PR n β) n a0 H k
theorem f119_eq (n : Nat) (a0 : AV) (H : Heap) (k : AV → Heap → Option β) : evalFn E0 (n + 1) β 119 [a0] H k = f119 (PR n β) n a0 H k := f119_body (PR n β) n a0 H k
theorem f120_eq (n : Nat) (a0 : AV) (H : Heap) (k : AV → Heap → Option β) : evalFn E0 (n + 1) β 120 [a0] H k = f120 (PR n β) n a0 H k := f120_body (PR n β) n a0 H k
theorem f67_eq (n : Nat) (a0 : AV) (H : Heap) (k : AV → Heap → Option β) : evalFn E0 (n + 1) β 67 [a0] H k = f67 (PR n β) n a0 H k := f67_body (PR n β) n a0 H k
theorem f146_eq (n : Nat) (a0 : AV) (H : Heap) (k : AV → Heap → Option β) : evalFn E0 (n + 1) β 146 [a0] H k = f146 (PR n β) n a0 H k := f146_body (PR n β) n a0 H k
theorem f161_eq (n : Nat) (a0 a1 : AV) (H : Heap) (k : AV → Heap → Option β) : evalFn E0 (n + 1) β 161 [a0, a1] H k = f161 (PR n β) n a0 a1 H k := f161_body (PR n β) n a0 a1 H k
theorem f145_eq (n : Nat) (a0 a1 : AV) (H : Heap) (k : AV → Heap → Option β) : evalFn E0 (n + 1) β 145 [a0, a1] H k = f145 (PR n β) n a0 a1 H k := f145_body (PR n β) n a0 a1 H k
theorem f147_eq (n : Nat) (a0 : AV) (H : Heap) (k : AV → Heap → Option β) : evalFn E0 (n + 1) β 147 [a0] H k = f147 (PR n β) n a0 H k := f147_body (PR n β) n a0 H k
theorem f121_eq (n : Nat) (a0 : AV) (H : Heap) (k : AV → Heap → Option β) : evalFn E0 (n + 1) β 121 [a0] H k = f121 (PR n β) n a0 H k := f121_body (PR n β) n a0 H k
theorem f68_eq (n : Nat) (a0 a1 : AV) (H : Heap) (k : AV → Heap → Option β) : evalFn E0 (n + 1) β 68 [a0, a1] H k = f68 (PR n β) n a0 a1 H k := f68_body (PR n β) n a0 a1 H k
theorem f69_eq (n : Nat) (a0 a1 a2 : AV) (H : Heap) (k : AV → Heap → Option β) : evalFn E0 (n + 1) β 69 [a0, a1, a2] H k = f69 (PR n β) n a0 a1 a2 H k := f69_body (PR n β) n a0 a1 a2 H k
theorem f26_eq (n : Nat) (a0 : AV) (H : Heap) (k : AV → Heap → Option β) : evalFn E0 (n + 1) β 26 [a0] H k = f26 (PR n β) n a0 H k := f26_body (PR n β) n a0 H k
theorem f114_eq (n : Nat) (a0 a1 a2 : AV) (H : Heap) (k : AV → Heap → Option β) : evalFn E0 (n + 1) β 114 [a0, a1, a2] H k = f114 (PR n β) n a0 a1 a2 H k := f114_body (PR n β) n a0 a1 a2 H k
theorem f123_eq (n : Nat) (a0 : AV) (H : Heap) (k : AV → Heap → Option β) : evalFn E0 (n + 1) β 123 [a0] H k = f123 (PR n β) n a0 H k := f123_body (PR n β) n a0 H k
theorem f137_eq (n : Nat) (a0 a1 : AV) (H : Heap) (k : AV → Heap → Option β) : evalFn E0 (n + 1) β 137 [a0, a1] H k = f137 (PR n β) n a0 a1 H k := f137_body (PR n β) n a0 a1 H k
theorem f136_eq (n : Nat) (a0 a1 : AV) (H : Heap) (k : AV → Heap → Option β) : evalFn E0 (n + 1) β 136 [a0, a1] H k = f136 (PR n β) n a0 a1 H k := f136_body (PR n β) n a0 a1 H k
theorem f97_eq (n : Nat) (a0 a1 : AV) (H : Heap) (k : AV → Heap → Option β) : evalFn E0 (n + 1) β 97 [a0, a1] H k = f97 (PR n β) n a0 a1 H k := f97_body (PR n β) n a0 a1 H k
theorem f163_eq (n : Nat) (a0 : AV) (H : Heap) (k : AV → Heap → Option β) : evalFn E0 (n + 1) β 163 [a0] H k = f163 (PR n β) n a0 H k := f163_body (PR n β) n a0 H k
theorem f148_eq (n : Nat) (a0 : AV) (H : Heap) (k : AV → Heap → Option β) : evalFn E0 (n + 1) β 148 [a0] H k = f148 (PR n β) n a0 H k := f148_body (PR n β) n a0 H k
theorem f149_eq (n : Nat) (a0 : AV) (H : Heap) (k : AV → Heap → Option β) : evalFn E0 (n + 1) β 149 [a0] H k = f149 (PR n β) n a0 H k := f149_body (PR n β) n a0 H k
theorem f124_eq (n : Nat) (a0 : AV) (H : Heap) (k : AV → Heap → Option β) : evalFn E0 (n + 1) β 124 [a0] H k = f124 (PR n β) n a0 H k := f124_body (PR n β) n a0 H k
theorem f125_eq (n : Nat) (a0 : AV) (H : Heap) (k : AV → Heap → Option β) : evalFn E0 (n + 1) β 125 [a0] H k = f125 (PR n β) n a0 H k := f125_body (PR n β) n a0 H k
theorem f150_eq (n : Nat) (a0 : AV) (H : Heap) (k : AV → Heap → Option β) : evalFn E0 (n + 1) β 150 [a0] H k = f150 (PR n β) n a0 H k := f150_body (PR n β) n a0 H k
theorem f126_eq (n : Nat) (a0 : AV) (H : Heap) (k : AV → Heap → Option β) : evalFn E0 (n + 1) β 126 [a0] H k = f126 (PR n β) n a0 H k := f126_body (PR n β) n a0 H k
theorem f72_eq (n : Nat) (a0 : AV) (H : Heap) (k : AV → Heap → Option β) : evalFn E0 (n + 1) β 72 [a0] H k = f72 (PR n β) n a0 H k := f72_body (PR n β) n a0 H k
theorem f152_eq (n : Nat) (a0 : AV) (H : Heap) (k : AV → Heap → Option β) : evalFn E0 (n + 1) β 152 [a0] H k = f152 (PR n β) n a0 H k := f152_body (PR n β) n a0 H k
theorem f164_eq (n : Nat) (a0 a1 : AV) (H : Heap) (k : AV → Heap → Option β) : evalFn E0 (n + 1) β 164 [a0, a1] H k = f164 (PR n β) n a0 a1 H k := f164_body (PR n β) n a0 a1 H k
theorem f165_eq (n : Nat) (a0 a1 : AV) (H : Heap) (k : AV → Heap → Option β) : evalFn E0 (n + 1) β 165 [a0, a1] H k = f165 (PR n β) n a0 a1 H k := f165_body (PR n β) n a0 a1 H k
theorem f166_eq (n : Nat) (a0 a1 : AV) (H : Heap) (k : AV → Heap → Option β) : evalFn E0 (n + 1) β 166 [a0, a1] H k = f166 (PR n β) n a0 a1 H k := f166_body (PR n β) n a0 a1 H k
theorem f167_eq (n : Nat) (a0 a1 : AV) (H : Heap) (k : AV → Heap → Option β) : evalFn E0 (n + 1) β 167 [a0, a1] H k = f167 (PR n β) n a0 a1 H k := f167_body (PR n β) n a0 a1 H k
theorem f151_eq (n : Nat) (a0 a1 : AV) (H : Heap) (k : AV → Heap → Option β) : evalFn E0 (n + 1) β 151 [a0, a1] H k = f151 (PR n β) n a0 a1 H k := f151_body (PR n β) n a0 a1 H k
theorem f153_eq (n : Nat) (a0 : AV) (H : Heap) (k : AV → Heap → Option β) : evalFn E0 (n + 1) β 153 [a0] H k = f153 (PR n β) n a0 H k := f153_body (PR n β) n a0 H k
theorem f173_eq (n : Nat) (a0 a1 : AV) (H : Heap) (k : AV → Heap → Option β) : evalFn E0 (n + 1) β 173 [a0, a1] H k = f173 (PR n β) n a0 a1 H k := f173_body (PR n β) n a0 a1 H k
theorem f168_eq (n : Nat) (a0 : AV) (H : Heap) (k : AV → Heap → Option β) : evalFn E0 (n + 1) β 168 [a0] H k = f168 (PR n β) n a0 H k := f168_body (PR n β) n a0 H k
theorem f154_eq (n : Nat) (a0 : AV) (H : Heap) (k : AV → Heap → Option β) : evalFn E0 (n + 1) β 154 [a0] H k = f154 (PR n β) n a0 H k := f154_body (PR n β) n a0 H k
theorem f127_eq (n : Nat) (a0 : AV) (H : Heap) (k : AV → Heap → Option β) : evalFn E0 (n + 1) β 127 [a0] H k = f127 (PR n β) n a0 H k := f127_body (PR n β) n a0 H k
theorem f73_eq (n : Nat) (a0 a1 : AV) (H : Heap) (k : AV → Heap → Option β) : evalFn E0 (n + 1) β 73 [a0, a1] H k = f73 (PR n β) n a0 a1 H k := f73_body (PR n β) n a0 a1 H k
theorem f128_eq (n : Nat) (a0 : AV) (H : Heap) (k : AV → Heap → Option β) : evalFn E0 (n + 1) β 128 [a0] H k = f128 (PR n β) n a0 H k := f128_body (PR n β) n a0 H k
theorem f74_eq (n : Nat) (a0 a1 a2 : AV) (H : Heap) (k : AV → Heap → Option β) : evalFn E0 (n + 1) β 74 [a0, a1, a2] H k = f74 (PR n β) n a0 a1 a2 H k := f74_body (PR n β) n a0 a1 a2 H k
theorem f28_eq (n : Nat) (a0 : AV) (H : Heap) (k : AV → Heap → Option β) : evalFn E0 (n + 1) β 28 [a0] H k = f28 (PR n β) n a0 H k := f28_body (PR n β) n a0 H k
theorem f63_eq (n : Nat) (a0 a1 : AV) (H : Heap) (k : AV → Heap → Option β) : evalFn E0 (n + 1) β 63 [a0, a1] H k = f63 (PR n β) n a0 a1 H k := f63_body (PR n β) n a0 a1 H k
theorem f135_eq (n : Nat) (a0 a1 : AV) (H : Heap) (k : AV → Heap → Option β) : evalFn E0 (n + 1) β 135 [a0, a1] H k = f135 (PR n β) n a0 a1 H k := f135_body (PR n β) n a0 a1 H k
theorem f93_eq (n : Nat) (a0 a1 : AV) (H : Heap) (k : AV → Heap → Option β) : evalFn E0 (n + 1) β 93 [a0, a1] H k = f93 (PR n β) n a0 a1 H k := f93_body (PR n β) n a0 a1 H k
theorem f94_eq (n : Nat) (a0 a1 : AV) (H : Heap) (k : AV → Heap → Option β) : evalFn E0 (n + 1) β 94 [a0, a1] H k = f94 (PR n β) n a0 a1 H k := f94_body (PR n β) n a0 a1 H k
theorem f55_eq (n : Nat) (a0 a1 : AV) (H : Heap) (k : AV → Heap → Option β) : evalFn E0 (n + 1) β 55 [a0, a1] H k = f55 (PR n β) n a0 a1 H k := f55_body (PR n β) n a0 a1 H k
theorem f36_eq (n : Nat) (a0 a1 : AV) (H : Heap) (k : AV → Heap → Option β) : evalFn E0 (n + 1) β 36 [a0, a1] H k = f36 (PR n β) n a0 a1 H k := f36_body (PR n β) n a0 a1 H k
theorem f29_eq (n : Nat) (a0 a1 : AV) (H : Heap) (k : AV → Heap → Option β) : evalFn E0 (n + 1) β 29 [a0, a1] H k = f29 (PR n β) n a0 a1 H k := f29_body (PR n β) n a0 a1 H k
theorem f23_eq (n : Nat) (a0 a1 : AV) (H : Heap) (k : AV → Heap → Option β) : evalFn E0 (n + 1) β 23 [a0, a1] H k = f23 (PR n β) n a0 a1 H k := f23_body (PR n β) n a0 a1 H k
theorem f129_eq (n : Nat) (a0 a1 : AV) (H : Heap) (k : AV → Heap → Option β) : evalFn E0 (n + 1) β 129 [a0, a1] H k = f129 (PR n β) n a0 a1 H k := f129_body (PR n β) n a0 a1 H k
theorem f75_eq (n : Nat) (a0 a1 : AV) (H : Heap) (k : AV → Heap → Option β) : evalFn E0 (n + 1) β 75 [a0, a1] H k = f75 (PR n β) n a0 a1 H k := f75_body (PR n β) n a0 a1 H k
theorem f76_eq (n : Nat) (a0 a1 : AV) (H : Heap) (k : AV → Heap → Option β) : evalFn E0 (n + 1) β 76 [a0, a1] H k = f76 (PR n β) n a0 a1 H k := f76_body (PR n β) n a0 a1 H k
theorem f30_eq (n : Nat) (a0 a1 : AV) (H : Heap) (k : AV → Heap → Option β) : evalFn E0 (n + 1) β 30 [a0, a1] H k = f30 (PR n β) n a0 a1 H k := f30_body (PR n β) n a0 a1 H k
theorem f79_eq (n : Nat) (a0 : AV) (H : Heap) (k : AV → Heap → Option β) : evalFn E0 (n + 1) β 79 [a0] H k = f79 (PR n β) n a0 H k := f79_body (PR n β) n a0 H k
theorem f64_eq (n : Nat) (a0 a1 : AV) (H : Heap) (k : AV → Heap → Option β) : evalFn E0 (n + 1) β 64 [a0, a1] H k = f64 (PR n β) n a0 a1 H k := f64_body (PR n β) n a0 a1 H k
theorem f77_eq (n : Nat) (a0 a1 : AV) (H : Heap) (k : AV → Heap → Option β) : evalFn E0 (n + 1) β 77 [a0, a1] H k = f77 (PR n β) n a0 a1 H k := f77_body (PR n β) n a0 a1 H k
theorem f78_eq (n : Nat) (a0 a1 : AV) (H : Heap) (k : AV → Heap → Option β) : evalFn E0 (n + 1) β 78 [a0, a1] H k = f78 (PR n β) n a0 a1 H k := f78_body (PR n β) n a0 a1 H k
theorem f31_eq (n : Nat) (a0 a1 : AV) (H : Heap) (k : AV → Heap → Option β) : evalFn E0 (n + 1) β 31 [a0, a1] H k = f31 (PR n β) n a0 a1 H k := f31_body (PR n β) n a0 a1 H k
theorem f80_eq (n : Nat) (a0 a1 : AV) (H : Heap) (k : AV → Heap → Option β) : evalFn E0 (n + 1) β 80 [a0, a1] H k = f80 (PR n β) n a0 a1 H k := f80_body (PR n β) n a0 a1 H k
theorem f81_eq (n : Nat) (a0 a1 : AV) (H : Heap) (k : AV → Heap → Option β) : evalFn E0 (n + 1) β 81 [a0, a1] H k = f81 (PR n β) n a0 a1 H k := f81_body (PR n β) n a0 a1 H k
theorem f56_eq (n : Nat) (a0 a1 : AV) (H : Heap) (k : AV → Heap → Option β) : evalFn E0 (n + 1) β 56 [a0, a1] H k = f56 (PR n β) n a0 a1 H k := f56_body (PR n β) n a0 a1 H k
theorem f32_eq (n : Nat) (a0 a1 : AV) (H : Heap) (k : AV → Heap → Option β) : evalFn E0 (n + 1) β 32 [a0, a1] H k = f32 (PR n β) n a0 a1 H k := f32_body (PR n β) n a0 a1 H k
theorem f82_eq (n : Nat) (a0 a1 : AV) (H : Heap) (k : AV → Heap → Option β) : evalFn E0 (n + 1) β 82 [a0, a1] H k = f82 (PR n β) n a0 a1 H k := f82_body (PR n β) n a0 a1 H k
theorem f83_eq (n : Nat) (a0 a1 : AV) (H : Heap) (k : AV → Heap → Option β) : evalFn E0 (n + 1) β 83 [a0, a1] H k = f83 (PR n β) n a0 a1 H k := f83_body (PR n β) n a0 a1 H k
theorem f84_eq (n : Nat) (a0 a1 : AV) (H : Heap) (k : AV → Heap → Option β) : evalFn E0 (n + 1) β 84 [a0, a1] H k = f84 (PR n β) n a0 a1 H k := f84_body (PR n β) n a0 a1 H k
theorem f57_eq (n : Nat) (a0 a1 : AV) (H : Heap) (k : AV → Heap → Option β) : evalFn E0 (n + 1) β 57 [a0, a1] H k = f57 (PR n β) n a0 a1 H k := f57_body (PR n β) n a0 a1 H k
theorem f33_eq (n : Nat) (a0 a1 : AV) (H : Heap) (k : AV → Heap → Option β) : evalFn E0 (n + 1) β 33 [a0, a1] H k = f33 (PR n β) n a0 a1 H k := f33_body (PR n β) n a0 a1 H k
theorem f6_eq (n : Nat) (a0 : AV) (H : Heap) (k : AV → Heap → Option β) : evalFn E0 (n + 1) β 6 [a0] H k = f6 (PR n β) n a0 H k := f6_body (PR n β) n a0 H k
end Go.Proofs.YtejjggnchdldoaaGreatDoor.Abs
set_option linter.unusedVariables false
set_option linter.unusedSimpArgs false
namespace Go.Proofs.YtejjggnchdldoaaGreatDoor.Abs
open Go Go.Shelf Go.RowKit Go.Lib Go.Proofs
variable {P : Program} {ρ : Ren}
def ItAt (w w' : World) (s : ByteArray) (pos : Nat) : Prop := Below w.heap.size w w' ∧ w'.heap[w.heap.size]? = some (.stringIter s pos)
def setIt (w' : World) (a : Nat) (s : ByteArray) (pos : Nat) : World := { w' with heap := w'.heap.setIfInBounds a (.stringIter s pos) }
theorem itAt_start (w : World) (s : ByteArray) (pos : Nat) : ItAt w (w.iter s pos) s pos := ⟨(Below.refl _ w).alloc (Nat.le_refl _) _, World.iter_heap w s pos⟩
theorem ItAt.lt {w w' : World} {s : ByteArray} {pos : Nat} (h : ItAt w w' s pos) : w.heap.size < w'.heap.size := by
 have := h.2
 simp only [Array.getElem?_eq_some_iff] at this
 exact this.1
theorem ItAt.set {w w' : World} {s : ByteArray} {pos : Nat} (h : ItAt w w' s pos) (pos' : Nat) : ItAt w (setIt w' w.heap.size s pos') s pos' := by
 refine ⟨h.1.trans ⟨rfl, rfl, rfl, by simp [setIt], fun k hk => ?_⟩, ?_⟩
 ·simp only [setIt]
  rw [Array.getElem?_setIfInBounds_ne (by omega)]
 ·simp only [setIt]
  rw [Array.getElem?_setIfInBounds_self_of_lt h.lt]
theorem ItAt.below {w w1 w2 : World} {s : ByteArray} {pos : Nat} (h : ItAt w w1 s pos) (hb : Below w1.heap.size w1 w2) : ItAt w w2 s pos :=
 ⟨h.1.trans (hb.mono h.1.size), by rw [hb.block _ h.lt]; exact h.2⟩
theorem next_at {w w' : World} {s : ByteArray} {pos : Nat} (h : ItAt w w' s pos) (hp : pos < s.size) (ty : TypeId) :
  (Instr.next (.pointer (some ⟨w.heap.size, 0, none⟩)) true ty).run P w' = .ok (.tuple #[.bool true, .int .i64 pos, .int .i32 (Utf8.decode s pos).1]) (setIt w' w.heap.size s (pos + (Utf8.decode s pos).2)) := by
 simp only [Instr.next, getObj, setObj, Sem.run_bind, Sem.run, h.2, Result.andThen, hp, if_true]
 simp [goInt, setIt]
theorem next_end {w w' : World} {s : ByteArray} {pos : Nat} (h : ItAt w w' s pos) (hp : ¬ pos < s.size) (ty : TypeId) :
  (Instr.next (.pointer (some ⟨w.heap.size, 0, none⟩)) true ty).run P w' = .ok (.tuple #[.bool false]) w' := by
 simp [Instr.next, getObj, Sem.run, h.2, hp]
theorem rune_at (s : ByteArray) (pos : Nat) : (Utf8.decode s pos).1 < 55296 ∨ (57343 < (Utf8.decode s pos).1 ∧ (Utf8.decode s pos).1 ≤ 1114111) := by
 rw [← Lib.decodeL_drop, Lib.decodeL_N]
 exact Lib.decodeN_valid _ _ _ _ _ (UInt8.toNat_lt _)
theorem ph_size : phB.size = 2 := rfl
set_option maxHeartbeats 8000000 in
set_option maxRecDepth 1000000 in
theorem rune_big (L : Lays.n152 P ρ) (r : Nat) (rs : ByteArray) (w : World) (h1 : 128 ≤ r) (hv : r < 55296 ∨ (57343 < r ∧ r ≤ 1114111)) (he : ¬ r = 65533) (hcv : ∀ w, (convert (ρ.t 21) (ρ.t 9) (.int .i32 r)).run P w = .ok (.string rs) w)
  (hs2 : 2 ≤ rs.size) (hs4 : rs.size ≤ 4) (hsl : rs.size = 2 → ∀ h : 1 < rs.size, 128 ≤ (rs[1]'h).toNat) :
  Calls P (ρ.f 152) #[.string phB, .int .i32 r] w fun e w' => e = .returned (.int .i64 (-1)) ∧ Below w.heap.size w w' := by
 have cV : ∀ w, Calls P (ρ.f 119) #[.int .i32 r] w _ := fun w => Any.utf8_ValidRune { L with } r w
 have cI : ∀ s c w, Calls P (ρ.f 137) #[.string s, .int .u8 c] w _ := fun s c w => Any.strings_IndexByte { L with } s c w
 have mixed := L.mixed
 have t3 := L.t3; have a3 := L.a3; have z3 := L.z3; have v3 := L.v3
 have t4 := L.t4; have a4 := L.a4; have z4 := L.z4; have v4 := L.v4
 have t5 := L.t5; have a5 := L.a5; have z5 := L.z5; have v5 := L.v5
 have t9 := L.t9; have a9 := L.a9; have z9 := L.z9; have v9 := L.v9
 have t21 := L.t21; have a21 := L.a21; have z21 := L.z21; have v21 := L.v21
 have e137 : ∀ args w, (callFunc (ρ.f 137) args).run P w = .ok (.enter (ρ.f 137) args) w := enters_of L.f137 (by kernel_rfl) rfl
 have e119 : ∀ args w, (callFunc (ρ.f 119) args).run P w = .ok (.enter (ρ.f 119) args) w := enters_of L.f119 (by kernel_rfl) rfl
 have hge : decide ((0 : Int) ≤ (r : Int)) = true := by simp
 have hlt : decide ((r : Int) < 128) = false := by simp; omega
 have bel : ∀ pos, Below w.heap.size w (w.iter phB pos) := fun pos => (Below.refl _ w).alloc (Nat.le_refl _) _
 have hne : ((r : Int) == 65533) = false := by simp; omega
 have hvr : Lib.validRune (r : Int) = true := by simp [Lib.validRune]; omega
 go_enter L.f152, Body.n152_ntmps ρ
 go_wp2_with (first
  | (go_at_fn (ρ.f 119); refine (cV _).mono ?_; rintro e w' ⟨rfl, hw⟩; rw [hw, hvr])
  | (go_at_fn (ρ.f 137); refine (cI _ _ _).mono ?_; rintro e w' ⟨rfl, hw⟩; rw [hw]))
 go_step3
 go_wp2
 go_loopg [9, 10] 1 (fun g i fl wx => g = 1 ∧ i = .int .i64 ((rs.size : Int) - 1) ∧ fl = .int .i64 0 ∧ wx = w)
 case atStart => exact ⟨rfl, rfl, rfl, rfl⟩
 case round =>
  obtain ⟨-, rfl, rfl, rfl⟩ := hrel
  by_cases h3 : 3 ≤ rs.size
  ·have hlt : decide ((rs.size : Int) - 1 < (phB.size : Int)) = false := by rw [ph_size]; simp; omega
   go_wp2
   try rw [Exit.noGoto_ret]
   go_ret
   exact ⟨rfl, Below.refl _ _⟩
  ·have h2 : rs.size = 2 := by omega
   have hi1 : ((rs.size : Int) - 1) = 1 := by omega
   have hi : 1 < rs.size := by omega
   have hp : 1 < phB.size := by decide
   obtain ⟨x, hx⟩ : ∃ x : UInt8, rs[1]'hi = x := ⟨_, rfl⟩
   have hx128 : 128 ≤ x.toNat := by
    rw [← hx]
    exact hsl h2 hi
   have hp1 : phB[1]'hp = 35 := rfl
   have hlt : decide ((1 : Int) < (phB.size : Int)) = true := rfl
   have hne35 : (((35 : UInt8).toNat : Int) != (x.toNat : Int)) = true := by simp; omega
   have hib : Lib.indexByte (List.take (phB.size - 2) (List.drop 2 phB.data.toList)) x = -1 := rfl
   rw [hi1]
   clear hsl hs2 hs4
   go_wp2
   go_step3
   go_wp2
   go_region_o
   all_goals
    go_wp2
    go_region_with_o (go_at_fn (ρ.f 137); refine (cI _ _ _).mono ?_; rintro e w' ⟨rfl, hw⟩; rw [hw])
   all_goals
    go_wp2
    simp only [Exit.inBlock, Exit.then, Exit.noGoto]
    go_ret
    exact ⟨rfl, (Below.refl _ _).drew.drew⟩
set_option maxHeartbeats 8000000 in
set_option maxRecDepth 1000000 in
theorem rune_ph (L : Lays.n152 P ρ) (r : Nat) (w : World) (h1 : 128 ≤ r) (hv : r < 55296 ∨ (57343 < r ∧ r ≤ 1114111)) :
  Calls P (ρ.f 152) #[.string phB, .int .i32 r] w fun e w' => e = .returned (.int .i64 (-1)) ∧ Below w.heap.size w w' := by
 have cV : ∀ w, Calls P (ρ.f 119) #[.int .i32 r] w _ := fun w => Any.utf8_ValidRune { L with } r w
 have cI : ∀ s c w, Calls P (ρ.f 137) #[.string s, .int .u8 c] w _ := fun s c w => Any.strings_IndexByte { L with } s c w
 have t3 := L.t3; have a3 := L.a3; have z3 := L.z3; have v3 := L.v3
 have t4 := L.t4; have a4 := L.a4; have z4 := L.z4; have v4 := L.v4
 have t5 := L.t5; have a5 := L.a5; have z5 := L.z5; have v5 := L.v5
 have t9 := L.t9; have a9 := L.a9; have z9 := L.z9; have v9 := L.v9
 have t21 := L.t21; have a21 := L.a21; have z21 := L.z21; have v21 := L.v21
 have e137 : ∀ args w, (callFunc (ρ.f 137) args).run P w = .ok (.enter (ρ.f 137) args) w := enters_of L.f137 (by kernel_rfl) rfl
 have e119 : ∀ args w, (callFunc (ρ.f 119) args).run P w = .ok (.enter (ρ.f 119) args) w := enters_of L.f119 (by kernel_rfl) rfl
 have hge : decide ((0 : Int) ≤ (r : Int)) = true := by simp
 have hlt : decide ((r : Int) < 128) = false := by simp; omega
 have bel : ∀ pos, Below w.heap.size w (w.iter phB pos) := fun pos => (Below.refl _ w).alloc (Nat.le_refl _) _
 by_cases he : r = 65533
 ·subst he
  go_enter L.f152, Body.n152_ntmps ρ
  go_wp2
  go_loopg [5, 6] 2 (fun g _ _ wx => ∃ i : Nat, i + g = 2 ∧ wx = w.iter phB i)
  case atStart => exact ⟨0, by omega, rfl⟩
  case round =>
   obtain ⟨i, hig, rfl⟩ := hrel
   cases gk with
   | zero =>
    obtain rfl : i = 2 := by omega
    have hnx := fun ty => run_next_end (P := P) w phB 2 ty (by decide)
    go_wp2
    go_ret
    exact ⟨rfl, bel _⟩
   | succ g =>
    have hi : i < phB.size := by
     show i < 2
     omega
    have hx : (phB[i]'hi).toNat < 64 := by
     have : ∀ q : Fin 2, (phB[q.val]'q.isLt).toNat < 64 := by decide
     exact this ⟨i, hi⟩
    have hnx := fun ty => run_next_ascii (P := P) w phB i ty hi (by omega)
    generalize (phB[i]'hi).toNat = x at hnx hx
    have hxe : ((x : Int) == 65533) = false := by simp; omega
    go_wp2
    go_roundg g
    case measure => omega
    case rel => exact ⟨i + 1, by omega, rfl⟩
 ·obtain ⟨hs2, hs4, hsl⟩ := encode_facts (r : Int) (by simp [Utf8.valid]; omega) (by omega)
  refine rune_big L r (Utf8.encode r) w h1 hv he (fun w => run_convert_int_string w _ _ _ _ (by rw [t21]; rfl) t9) hs2 hs4 ?_
  intro h2 hi
  have := hsl (by omega)
  simp only [h2] at this
  exact this
theorem getD_drop (l : List UInt8) (i j : Nat) : (l.drop i).getD j 0 = l.getD (i + j) 0 := by simp [List.getD_eq_getElem?_getD, List.getElem?_drop]
theorem dec_hi (l : List UInt8) (h : 128 ≤ (l.getD 0 0).toNat) : 128 ≤ (Lib.decodeL l).1 ∧ ∀ j, j < (Lib.decodeL l).2 → 128 ≤ (l.getD j 0).toNat := by
 rw [Lib.decodeL_N]
 generalize hn : l.length = n
 generalize h0 : (l.getD 0 0).toNat = b0 at h ⊢
 generalize h1 : (l.getD 1 0).toNat = b1
 generalize h2 : (l.getD 2 0).toNat = b2
 generalize h3 : (l.getD 3 0).toNat = b3
 have key : ∀ q, q ≤ 4 → (q = 2 → 128 ≤ b1) → (q = 3 → 128 ≤ b1 ∧ 128 ≤ b2) → (q = 4 → 128 ≤ b1 ∧ 128 ≤ b2 ∧ 128 ≤ b3) → ∀ j, j < q → 128 ≤ (l.getD j 0).toNat := by
  intro q hq k2 k3 k4 j hj
  have : j = 0 ∨ j = 1 ∨ j = 2 ∨ j = 3 := by omega
  rcases this with rfl | rfl | rfl | rfl
  ·rw [h0]; exact h
  ·rw [h1]; omega
  ·rw [h2]; omega
  ·rw [h3]; omega
 unfold Lib.decodeN
 rw [if_neg (by omega)]
 repeat' split
 all_goals
  refine ⟨?_, key _ ?_ ?_ ?_ ?_⟩ <;> simp only <;> omega
def phL (l : List UInt8) : Bool := l.any fun c => c == 43 || c == 35
theorem phL_skip : ∀ (k : Nat) (l : List UInt8), (∀ j, j < k → 128 ≤ (l.getD j 0).toNat) → phL l = phL (l.drop k)
 | 0, l, _ => rfl
 | k + 1, [], _ => by simp
 | k + 1, b :: l, h => by
  have h0 : 128 ≤ b.toNat := h 0 (by omega)
  have ih := phL_skip k l fun j hj => h (j + 1) (by omega)
  have e1 : (b == 43) = false := by
   rw [beq_eq_false_iff_ne]
   rintro rfl
   simp at h0
  have e2 : (b == 35) = false := by
   rw [beq_eq_false_iff_ne]
   rintro rfl
   simp at h0
  show (List.any (b :: l) _) = _
  rw [List.any_cons, e1, e2, Bool.or_self, Bool.false_or, List.drop_succ_cons]
  exact ih
theorem phL_step (l : List UInt8) (hne : l ≠ []) : phL l = (((Lib.decodeL l).1 == 43 || (Lib.decodeL l).1 == 35) || phL (l.drop (Lib.decodeL l).2)) := by
 cases l with
 | nil => exact absurd rfl hne
 | cons b l =>
  by_cases hb : 128 ≤ b.toNat
  ·obtain ⟨h1, h2⟩ := dec_hi (b :: l) hb
   have e1 : ((Lib.decodeL (b :: l)).1 == 43) = false := by simp; omega
   have e2 : ((Lib.decodeL (b :: l)).1 == 35) = false := by simp; omega
   rw [e1, e2, Bool.or_self, Bool.false_or]
   exact phL_skip _ _ h2
  ·have e : Lib.decodeL (b :: l) = (b.toNat, 1) := by
    rw [Lib.decodeL_N]
    unfold Lib.decodeN
    rw [if_pos (by simpa using hb)]
    rfl
   rw [e]
   show List.any (b :: l) _ = _
   rw [List.any_cons, List.drop_succ_cons, List.drop_zero]
   have e1 : (b == 43) = (b.toNat == 43) := by
    rw [Bool.eq_iff_iff, beq_iff_eq, beq_iff_eq, ← UInt8.toNat_inj]; rfl
   have e2 : (b == 35) = (b.toNat == 35) := by
    rw [Bool.eq_iff_iff, beq_iff_eq, beq_iff_eq, ← UInt8.toNat_inj]; rfl
   rw [e1, e2]
   rfl
theorem phL_vPH (s : ByteArray) : phL s.data.toList = vPH s := any_or _ _ _
theorem byte_ph (r : Nat) (h : r < 128) : decide (0 ≤ Lib.indexByte phB.data.toList r.toUInt8) = (r == 43 || r == 35) := by
 have : ∀ q : Fin 128, decide (0 ≤ Lib.indexByte phB.data.toList (q.val).toUInt8) = (q.val == 43 || q.val == 35) := by decide
 exact this ⟨r, h⟩
set_option maxHeartbeats 8000000 in
set_option maxRecDepth 1000000 in
theorem short_ph (L : Lays.n153 P ρ) (s : ByteArray) (w : World) (h8 : s.size ≤ 8) :
  Calls P (ρ.f 153) #[.string s, .string phB] w fun e w' => (∃ z : Int, e = .returned (.int .i64 z) ∧ decide (0 ≤ z) = phL s.data.toList) ∧ Below w.heap.size w w' := by
 have cA : ∀ (r : Nat) w, r < 128 → ∃ z : Int, decide (0 ≤ z) = (r == 43 || r == 35) ∧ Calls P (ρ.f 152) #[.string phB, .int .i32 r] w fun e w' => e = .returned (.int .i64 z) ∧ w' = w := fun r w h => ⟨_, byte_ph r h, Any.strings_IndexRune_ascii { L with } phB r w (by omega) (by omega)⟩
 have cR : ∀ (r : Nat) w, 128 ≤ r → r < 55296 ∨ (57343 < r ∧ r ≤ 1114111) → Calls P (ρ.f 152) #[.string phB, .int .i32 r] w _ := fun r w h h' => rune_ph { L with } r w h h'
 have hemp : phB.toList.isEmpty = false := by rw [Lib.toList_data]; rfl
 have hn1 : ((phB.size : Int) == 1) = false := rfl
 have h8z : decide ((8 : Int) < (s.size : Int)) = false := decide_eq_false (by omega)
 have t3 := L.t3; have a3 := L.a3; have z3 := L.z3; have v3 := L.v3
 have t4 := L.t4; have a4 := L.a4; have z4 := L.z4; have v4 := L.v4
 have t5 := L.t5; have a5 := L.a5; have z5 := L.z5; have v5 := L.v5
 have t9 := L.t9; have a9 := L.a9; have z9 := L.z9; have v9 := L.v9
 have t21 := L.t21; have a21 := L.a21; have z21 := L.z21; have v21 := L.v21
 have e152 : ∀ args w, (callFunc (ρ.f 152) args).run P w = .ok (.enter (ρ.f 152) args) w := enters_of L.f152 (by kernel_rfl) rfl
 have e226 : ∀ args w, (callFunc (ρ.f 226) args).run P w = .ok (.enter (ρ.f 226) args) w := enters_of L.f226 (by kernel_rfl) rfl
 go_enter L.f153, Body.n153_ntmps ρ
 go_wp2_with (go_at_fn (ρ.f 226); refine (Any.strings_shouldUseASCIISet { L with } _ _).mono ?_; rintro e w' ⟨rfl, hw⟩; rw [hw, h8z])
 go_loopg [9, 10] s.size (fun g _ _ wx => ∃ pos : Nat, s.size ≤ pos + g ∧ ItAt w wx s pos ∧ phL (s.data.toList.drop pos) = phL s.data.toList)
 case atStart => exact ⟨0, by omega, itAt_start w s 0, by simp⟩
 case round =>
  obtain ⟨pos, hpg, hit, hph⟩ := hrel
  have HIT : Aside (ItAt w wr s pos) := hit
  have HPH : Aside (phL (s.data.toList.drop pos) = phL s.data.toList) := hph
  by_cases hp : pos < s.size
  ·obtain ⟨g, rfl⟩ : ∃ g, gk = g + 1 := ⟨gk - 1, by omega⟩
   have hnx := fun ty => next_at (P := P) hit hp ty
   have hne : s.data.toList.drop pos ≠ [] := by
    intro h
    have := congrArg List.length h
    simp at this
    omega
   have hst := phL_step _ hne
   rw [Lib.decodeL_drop, hph, List.drop_drop] at hst
   have hwd : 1 ≤ (Utf8.decode s pos).2 := by rw [← Lib.decodeL_drop s pos]; exact Lib.decodeL_width _
   have hru := rune_at s pos
   have HIT2 : Aside (ItAt w (setIt wr w.heap.size s (pos + (Utf8.decode s pos).2)) s (pos + (Utf8.decode s pos).2)) := hit.set _
   clear hit hph
   generalize hr : (Utf8.decode s pos).1 = r at hnx hst hru
   have HST : Aside (phL s.data.toList = ((r == 43 || r == 35) || phL (s.data.toList.drop (pos + (Utf8.decode s pos).2)))) := hst
   clear hst
   by_cases h128 : r < 128
   ·obtain ⟨z, hz, cz⟩ := cA r (setIt wr w.heap.size s (pos + (Utf8.decode s pos).2)) h128
    clear cA
    cases hin : (r == 43 || r == 35)
    ·rw [hin] at hz
     have hlt : ¬ ((0 : Int) ≤ z) := of_decide_eq_false hz
     clear hz
     go_wp2_with (go_at_fn (ρ.f 152); refine cz.mono ?_; rintro e w' ⟨rfl, hw⟩; rw [hw])
     go_roundg g
     case measure => omega
     case rel => exact ⟨_, by omega, HIT2.out, by rw [HST.out, hin, Bool.false_or]⟩
    ·rw [hin] at hz
     have hge : (0 : Int) ≤ z := of_decide_eq_true hz
     clear hz
     go_wp2_with (go_at_fn (ρ.f 152); refine cz.mono ?_; rintro e w' ⟨rfl, hw⟩; rw [hw])
     go_ret
     exact ⟨⟨_, rfl, by rw [HST.out, hin, Bool.true_or]; simp⟩, HIT2.out.1⟩
   ·have hin : (r == 43 || r == 35) = false := by simp; omega
    go_wp2_with (go_at_fn (ρ.f 152); refine (cR r _ (by omega) hru).mono ?_; rintro e w' ⟨rfl, hw⟩)
    go_roundg g
    case measure => omega
    case rel => exact ⟨_, by omega, HIT2.out.below hw, by rw [HST.out, hin, Bool.false_or]⟩
  ·have hnx := fun ty => next_end (P := P) hit hp ty
   have hnil : s.data.toList.drop pos = [] := by
    apply List.drop_of_length_le
    simp
    omega
   rw [hnil] at hph
   go_wp2
   go_ret
   exact ⟨⟨_, rfl, by rw [← hph]; rfl⟩, HIT.out.1⟩
theorem index_ph (L : Lays.n153 P ρ) (hv116 : ∀ w, (zeroValue (ρ.t 116)).run P w = .ok (.agg (Array.replicate 256 (.bool false))) w) (hi116 : (P.info? (ρ.t 116)).map (·.size) = some 256) (s : ByteArray) (w : World) (hs : s.size < 4294967281) :
  Calls P (ρ.f 153) #[.string s, .string phB] w fun e w' => (∃ z : Int, e = .returned (.int .i64 z) ∧ decide (0 ≤ z) = phL s.data.toList) ∧ Below w.heap.size w w' := by
 by_cases h8 : s.size ≤ 8
 ·exact short_ph L s w h8
 ·refine (Any.strings_IndexAny_long L hv116 hi116 s phB w (by decide) (by omega) hs (by decide) ?_).mono fun e w' ⟨h1, h2⟩ => ⟨⟨_, h1, ?_⟩, ?_⟩
  ·intro j b hb
   have : phB.data.toList = [43, 35] := rfl
   rw [this] at hb
   match j, hb with
   | 0, hb => cases hb; decide
   | 1, hb => cases hb; decide
  ·have := has_ph s
   rw [phL_vPH, ← this]
   rfl
  ·rw [h2]
   exact ((Below.refl _ _).alloc (Nat.le_refl _) _).alloc (by simp) _
set_option maxHeartbeats 1000000 in
theorem contains_ph (L : Lays.n150 P ρ) (hv116 : ∀ w, (zeroValue (ρ.t 116)).run P w = .ok (.agg (Array.replicate 256 (.bool false))) w) (hi116 : (P.info? (ρ.t 116)).map (·.size) = some 256) (s : ByteArray) (w : World) (hs : s.size < 4294967281) :
  Calls P (ρ.f 150) #[.string s, .string phB] w fun e w' => e = .returned (.bool (vPH s)) ∧ Below w.heap.size w w' := by
 have c := index_ph { L with } hv116 hi116 s w hs
 have t3 := L.t3; have a3 := L.a3; have z3 := L.z3; have v3 := L.v3
 have t4 := L.t4; have a4 := L.a4; have z4 := L.z4; have v4 := L.v4
 have t9 := L.t9; have a9 := L.a9; have z9 := L.z9; have v9 := L.v9
 have e153 : ∀ args w, (callFunc (ρ.f 153) args).run P w = .ok (.enter (ρ.f 153) args) w := enters_of L.f153 (by kernel_rfl) rfl
 go_enter L.f150, Body.n150_ntmps ρ
 go_wp2_with (go_at_fn (ρ.f 153); refine c.mono ?_; rintro e w' ⟨⟨z, rfl, hz⟩, hw⟩)
 go_ret
 refine ⟨?_, hw⟩
 rw [← phL_vPH, ← hz]
 rfl
end Go.Proofs.YtejjggnchdldoaaGreatDoor.Abs
set_option linter.unusedVariables false
set_option linter.unusedSimpArgs false
namespace Go.Proofs
open Go.RowKit Go.Shelf Go.Lib
def Tryz.laysValid_ren : Go.Shelf.Ren := ⟨fun | 196 => 158 | 259 => 170 | n => n, fun | 9 => 9 | 4 => 4 | 3 => 3 | 5 => 5 | 12 => 12 | 119 => 164 | 0 => 0 | 46 => 168 | 139 => 167 | 138 => 166 | 53 => 172 | n => n, fun | 3 => 0 | 4 => 1 | n => n⟩
theorem Tryz.laysValid : Go.Proofs.Lays.n196 Tryz.prog Tryz.laysValid_ren := {
 mixed := by kernel_rfl
 f196 := Tryz.func158.trans (congrArg some (by kernel_rfl))
 f259 := Tryz.func170.trans (congrArg some (by kernel_rfl))
 t0 := Tryz.underlying0
 a0 := Tryz.isAgg0
 z0 := Tryz.sizeOf0
 v0 := Tryz.zeroValue0
 t3 := Tryz.underlying3
 a3 := Tryz.isAgg3
 z3 := Tryz.sizeOf3
 v3 := Tryz.zeroValue3
 t4 := Tryz.underlying4
 a4 := Tryz.isAgg4
 z4 := Tryz.sizeOf4
 v4 := Tryz.zeroValue4
 t5 := Tryz.underlying5
 a5 := Tryz.isAgg5
 z5 := Tryz.sizeOf5
 v5 := Tryz.zeroValue5
 t9 := Tryz.underlying9
 a9 := Tryz.isAgg9
 z9 := Tryz.sizeOf9
 v9 := Tryz.zeroValue9
 t12 := Tryz.underlying12
 a12 := Tryz.isAgg12
 z12 := Tryz.sizeOf12
 v12 := Tryz.zeroValue12
 t46 := Tryz.underlying168
 a46 := Tryz.isAgg168
 z46 := Tryz.sizeOf168
 v46 := Tryz.zeroValue168
 t53 := Tryz.underlying172
 a53 := Tryz.isAgg172
 z53 := Tryz.sizeOf172
 v53 := Tryz.zeroValue172
 t119 := Tryz.underlying164
 a119 := Tryz.isAgg164
 z119 := Tryz.sizeOf164
 t138 := Tryz.underlying166
 a138 := Tryz.isAgg166
 z138 := Tryz.sizeOf166
 v138 := Tryz.zeroValue166
 t139 := Tryz.underlying167
 a139 := Tryz.isAgg167
 z139 := Tryz.sizeOf167
 v139 := Tryz.zeroValue167
 g3 := by kernel_rfl
 g4 := by kernel_rfl }
def Tryz.laysAny_ren : Go.Shelf.Ren := ⟨fun | 150 => 162 | 153 => 171 | 152 => 174 | 226 => 175 | 227 => 176 | 228 => 177 | 137 => 179 | 119 => 180 | 224 => 181 | 225 => 182 | 217 => 186 | 266 => 191 | n => n, fun | 9 => 9 | 4 => 4 | 3 => 3 | 5 => 5 | 21 => 21 | 117 => 176 | 116 => 175 | 0 => 0 | 46 => 168 | 124 => 183 | n => n, fun | n => n⟩
theorem Tryz.laysAny : Go.Proofs.Lays.n150 Tryz.prog Tryz.laysAny_ren := {
 mixed := by kernel_rfl
 f119 := Tryz.func180.trans (congrArg some (by kernel_rfl))
 f137 := Tryz.func179.trans (congrArg some (by kernel_rfl))
 f150 := Tryz.func162.trans (congrArg some (by kernel_rfl))
 f152 := Tryz.func174.trans (congrArg some (by kernel_rfl))
 f153 := Tryz.func171.trans (congrArg some (by kernel_rfl))
 f217 := Tryz.func186.trans (congrArg some (by kernel_rfl))
 f224 := Tryz.func181.trans (congrArg some (by kernel_rfl))
 f225 := Tryz.func182.trans (congrArg some (by kernel_rfl))
 f226 := Tryz.func175.trans (congrArg some (by kernel_rfl))
 f227 := Tryz.func176.trans (congrArg some (by kernel_rfl))
 f228 := Tryz.func177.trans (congrArg some (by kernel_rfl))
 f266 := Tryz.func191.trans (congrArg some (by kernel_rfl))
 t0 := Tryz.underlying0
 a0 := Tryz.isAgg0
 z0 := Tryz.sizeOf0
 v0 := Tryz.zeroValue0
 t3 := Tryz.underlying3
 a3 := Tryz.isAgg3
 z3 := Tryz.sizeOf3
 v3 := Tryz.zeroValue3
 t4 := Tryz.underlying4
 a4 := Tryz.isAgg4
 z4 := Tryz.sizeOf4
 v4 := Tryz.zeroValue4
 t5 := Tryz.underlying5
 a5 := Tryz.isAgg5
 z5 := Tryz.sizeOf5
 v5 := Tryz.zeroValue5
 t9 := Tryz.underlying9
 a9 := Tryz.isAgg9
 z9 := Tryz.sizeOf9
 v9 := Tryz.zeroValue9
 t21 := Tryz.underlying21
 a21 := Tryz.isAgg21
 z21 := Tryz.sizeOf21
 v21 := Tryz.zeroValue21
 t46 := Tryz.underlying168
 a46 := Tryz.isAgg168
 z46 := Tryz.sizeOf168
 v46 := Tryz.zeroValue168
 t116 := Tryz.underlying175
 a116 := Tryz.isAgg175
 z116 := Tryz.sizeOf175
 t117 := Tryz.underlying176
 a117 := Tryz.isAgg176
 z117 := Tryz.sizeOf176
 v117 := Tryz.zeroValue176
 t124 := Tryz.underlying183
 a124 := Tryz.isAgg183
 z124 := Tryz.sizeOf183
 v124 := Tryz.zeroValue183 }
def Tryz.laysSplit_ren : Go.Shelf.Ren := ⟨fun | 146 => 172 | 221 => 178 | 268 => 183 | 138 => 184 | 143 => 185 | 195 => 187 | 197 => 188 | 218 => 189 | 219 => 190 | 260 => 192 | 217 => 186 | 225 => 182 | 224 => 181 | 267 => 193 | 266 => 191 | 314 => 194 | n => n, fun | 9 => 9 | 31 => 64 | 3 => 3 | 4 => 4 | 0 => 0 | 105 => 185 | 21 => 21 | 5 => 5 | 46 => 168 | 119 => 164 | 139 => 167 | 138 => 166 | 146 => 188 | 51 => 187 | n => n, fun | 1 => 2 | 3 => 0 | 4 => 1 | n => n⟩
theorem Tryz.laysSplit : Go.Proofs.Lays.n146 Tryz.prog Tryz.laysSplit_ren := {
 mixed := by kernel_rfl
 f138 := Tryz.func184.trans (congrArg some (by kernel_rfl))
 f143 := Tryz.func185.trans (congrArg some (by kernel_rfl))
 f146 := Tryz.func172.trans (congrArg some (by kernel_rfl))
 f195 := Tryz.func187.trans (congrArg some (by kernel_rfl))
 f197 := Tryz.func188.trans (congrArg some (by kernel_rfl))
 f217 := Tryz.func186.trans (congrArg some (by kernel_rfl))
 f218 := Tryz.func189.trans (congrArg some (by kernel_rfl))
 f219 := Tryz.func190.trans (congrArg some (by kernel_rfl))
 f221 := Tryz.func178.trans (congrArg some (by kernel_rfl))
 f224 := Tryz.func181.trans (congrArg some (by kernel_rfl))
 f225 := Tryz.func182.trans (congrArg some (by kernel_rfl))
 f260 := Tryz.func192.trans (congrArg some (by kernel_rfl))
 f266 := Tryz.func191.trans (congrArg some (by kernel_rfl))
 f267 := Tryz.func193.trans (congrArg some (by kernel_rfl))
 f268 := Tryz.func183.trans (congrArg some (by kernel_rfl))
 f314 := Tryz.func194.trans (congrArg some (by kernel_rfl))
 t0 := Tryz.underlying0
 a0 := Tryz.isAgg0
 z0 := Tryz.sizeOf0
 v0 := Tryz.zeroValue0
 t3 := Tryz.underlying3
 a3 := Tryz.isAgg3
 z3 := Tryz.sizeOf3
 v3 := Tryz.zeroValue3
 t4 := Tryz.underlying4
 a4 := Tryz.isAgg4
 z4 := Tryz.sizeOf4
 v4 := Tryz.zeroValue4
 t5 := Tryz.underlying5
 a5 := Tryz.isAgg5
 z5 := Tryz.sizeOf5
 v5 := Tryz.zeroValue5
 t9 := Tryz.underlying9
 a9 := Tryz.isAgg9
 z9 := Tryz.sizeOf9
 v9 := Tryz.zeroValue9
 t21 := Tryz.underlying21
 a21 := Tryz.isAgg21
 z21 := Tryz.sizeOf21
 v21 := Tryz.zeroValue21
 t31 := Tryz.underlying64
 a31 := Tryz.isAgg64
 z31 := Tryz.sizeOf64
 v31 := Tryz.zeroValue64
 t46 := Tryz.underlying168
 a46 := Tryz.isAgg168
 z46 := Tryz.sizeOf168
 v46 := Tryz.zeroValue168
 t51 := Tryz.underlying187
 a51 := Tryz.isAgg187
 z51 := Tryz.sizeOf187
 v51 := Tryz.zeroValue187
 t105 := Tryz.underlying185
 a105 := Tryz.isAgg185
 z105 := Tryz.sizeOf185
 v105 := Tryz.zeroValue185
 t119 := Tryz.underlying164
 a119 := Tryz.isAgg164
 z119 := Tryz.sizeOf164
 t138 := Tryz.underlying166
 a138 := Tryz.isAgg166
 z138 := Tryz.sizeOf166
 v138 := Tryz.zeroValue166
 t139 := Tryz.underlying167
 a139 := Tryz.isAgg167
 z139 := Tryz.sizeOf167
 v139 := Tryz.zeroValue167
 t146 := Tryz.underlying188
 a146 := Tryz.isAgg188
 z146 := Tryz.sizeOf188
 v146 := Tryz.zeroValue188
 g1 := by kernel_rfl
 g3 := by kernel_rfl
 g4 := by kernel_rfl }
namespace YtejjggnchdldoaaGreatDoor.Abs
def noZ : Nat → List UInt8 → Bool
 | 0, _ => true
 | n + 1, l => if l = [] then true else if (Lib.decodeL l).1 = 0 then false else noZ n (l.drop (Lib.decodeL l).2)
def cleanT (s : ByteArray) : Bool := noZ s.size s.data.toList && (Lib.validD s.data.toList && decide (s.size ≤ 60))
def JT (w : World) : Prop := Lib.Utf8Tabs (Tryz.laysValid_ren.g 3) (Tryz.laysValid_ren.g 4) w
def J0 (w : World) : Prop := JT w ∧ ∃ m, w.cell? ⟨Tryz.laysSplit_ren.g 1, 0, none⟩ = some (.int .i64 m)
theorem jt_stays : ∀ w w' : World, JT w → Below w.heap.size w w' → JT w' := fun _ _ h hb => Utf8Tabs_below h hb
theorem j0_stays : ∀ w w' : World, J0 w → Below w.heap.size w w' → J0 w' := fun w w' h hb => ⟨jt_stays w w' h.1 hb, by
 obtain ⟨m, hm⟩ := h.2
 have hlt := World.block_lt_of_cell? _ _ hm
 refine ⟨m, ?_⟩
 rw [← hm]
 simp only [World.cell?]
 rw [hb.block _ hlt]⟩
set_option maxHeartbeats 1000000 in
set_option maxRecDepth 1000000 in
theorem text_walk (s : ByteArray) (w : World) (hs : s.size ≤ 9223372036854775807) (hT : JT w) :
  Calls Tryz.prog 143 #[.string s] w fun e w' => e = .returned (.bool (cleanT s)) ∧ Below w.heap.size w w' := by
 have cV : ∀ w, JT w → Calls Tryz.prog 158 #[.string s] w _ := fun w hT => Any.utf8_ValidString Tryz.laysValid s w hs hT
 unfold cleanT
 generalize hV : Lib.validD s.data.toList = V at cV ⊢
 have bel : ∀ pos, Below w.heap.size w (w.iter s pos) := fun pos => (Below.refl _ w).alloc (Nat.le_refl _) _
 go_enter Tryz.func143, Tryz.ntmps143
 go_wp2
 go_loopw [] (fun w' => ∃ (pos b : Nat), w' = w.iter s pos ∧ noZ b (s.data.toList.drop pos) = noZ s.size s.data.toList ∧ s.size ≤ pos + b) (fun w' => s.size - w'.iterPos w.heap.size)
 case atStart => exact ⟨0, s.size, rfl, by simp, by omega⟩
 case round =>
  obtain ⟨pos, b, rfl, hc, hb⟩ := hrel
  by_cases hp : pos < s.size
  ·have hnx : ∀ ty, (Instr.next (.pointer (some ⟨w.heap.size, 0, none⟩)) true ty).run Tryz.prog (w.iter s pos) = _ := fun ty => run_next_any w s pos ty hp
   have hdd := Lib.decodeL_drop s pos
   have hwd : 1 ≤ (Utf8.decode s pos).2 := by rw [← hdd]; exact Lib.decodeL_width _
   obtain ⟨b, rfl⟩ : ∃ b', b = b' + 1 := ⟨b - 1, by omega⟩
   have hne : s.data.toList.drop pos ≠ [] := by
    intro h
    have := congrArg List.length h
    simp at this
    omega
   rw [noZ, if_neg hne, hdd] at hc
   by_cases hz : (Utf8.decode s pos).1 = 0
   ·rw [if_pos hz] at hc
    have hz' : (((Utf8.decode s pos).1 : Int) == 0) = true := by simp [hz]
    go_wp2
    go_ret
    rw [← hc]
    exact ⟨by simp, bel _⟩
   ·rw [if_neg hz, List.drop_drop] at hc
    have hz' : (((Utf8.decode s pos).1 : Int) == 0) = false := by simp; omega
    go_wp2
    go_roundw
    case rel => exact ⟨pos + (Utf8.decode s pos).2, b, rfl, hc, by omega⟩
    case measure =>
     simp
     omega
  ·have hnx : ∀ ty, (Instr.next (.pointer (some ⟨w.heap.size, 0, none⟩)) true ty).run Tryz.prog (w.iter s pos) = _ := fun ty => run_next_end w s pos ty hp
   have hnil : s.data.toList.drop pos = [] := by
    apply List.drop_of_length_le
    simp
    omega
   have hc2 : noZ s.size s.data.toList = true := by
    rw [← hc, hnil]
    cases b <;> simp [noZ]
   rw [hc2]
   have cV2 := cV (w.iter s pos) (Utf8Tabs_below hT (bel pos))
   go_wp2_with (go_at_call 158; refine cV2.mono ?_; rintro e w' ⟨rfl, hb2⟩)
   all_goals
    go_ret
    refine ⟨?_, (bel pos).trans (hb2.mono (bel pos).size)⟩
   ·simp_all
    omega
   ·simp_all
theorem textGo_eq : ∀ (n : Nat) (l : List UInt8), textGo n l = (noZ n l && Lib.validGoD n l)
 | 0, _ => rfl
 | n + 1, l => by
  rw [textGo, noZ, Lib.validGoD, textGo_eq n]
  by_cases h : l = []
  ·simp [h]
  ·by_cases h1 : (Lib.decodeL l).1 = 65533 ∧ (Lib.decodeL l).2 = 1
   ·simp [h, h1]
   ·by_cases h2 : (Lib.decodeL l).1 = 0
    ·simp [h, h2]
    ·simp [h, h1, h2]
theorem clean_eq (s : ByteArray) : cleanT s = vTextOk s := by
 have e : s.data.toList.length = s.size := by simp
 unfold cleanT vTextOk Lib.validD
 rw [textGo_eq, e]
 cases noZ s.size s.data.toList <;> cases Lib.validGoD s.size s.data.toList <;> simp
theorem ph_of {c : ByteArray} (h : c.data.toList = [43, 35]) : c = phB := by
 cases c with
 | mk d =>
  have : d = #[43, 35] := by apply Array.ext'; simpa using h
  subst this
  rfl
theorem sep_of {c : ByteArray} (h : c.data.toList = [47]) : c = sepB := by
 cases c with
 | mk d =>
  have : d = #[47] := by apply Array.ext'; simpa using h
  subst this
  rfl
theorem set116 : (Tryz.prog.info? (Tryz.laysAny_ren.t 116)).map (fun i => (i.zero, i.size)) = some (some (.agg (Array.replicate 256 (.bool false))), 256) := by kernel_rfl
theorem hi9 : (Tryz.prog.info? (Tryz.laysSplit_ren.t 9)).map (fun i => (i.zero, i.size, i.bytes)) = some (some (.string ByteArray.empty), 1, 16) := by kernel_rfl
theorem hr_same {w w' : World} (hb : Below w.heap.size w w') : HR w noPhi w' [] := by
 refine ⟨hb, ?_, ?_, ?_, ?_⟩
 ·intro i k b o sz hi
  cases hi
 ·intro i k hi
  cases hi
 ·intro i i' k k' b o sz o' sz' hi
  cases hi
 ·intro i p hp
  cases hp
theorem ext_val {w w' : World} (hb : Below w.heap.size w w') (ty : Nat) (v : Value) : ∃ φ' Hc x ids, HR w φ' w' Hc ∧ VR w φ' x v ∧ ownT E0.ti E0.tp Hc 8 ty x = some (.sc v, ids) ∧ ids.Nodup :=
 ⟨noPhi, [], .sc v, [], hr_same hb, VR_sc _ _ _, rfl, List.nodup_nil⟩
theorem ownL_scE {ti : Nat → Option TI} {tp : Nat → Option (List Nat)} {H : Heap} {d : Nat} : ∀ (ts : List Nat) (l : List Value), ts.length = l.length → ownL (ownT ti tp H (d + 1)) ts (l.map AV.sc) = some (l.map AV.sc, [])
 | [], [], _ => rfl
 | t :: ts, v :: l, h => by
  have ih := ownL_scE (ti := ti) (tp := tp) (H := H) (d := d) ts l (by simpa using h)
  simp only [List.map_cons, ownL, ih, Option.bind_some]
  rfl
theorem own_sl0 {ti : Nat → Option TI} {tp : Nat → Option (List Nat)} {H : Heap} {d ty id off n z : Nat} : ownT ti tp H (d + 1) ty (.sl id off n z) = (ti ty).bind fun i => (ti i.elem).bind fun j => if z = j.size then (if isApp H id then (rdCells H id off (n * z)).bind fun cs => (ownL (ownT ti tp H d) (List.replicate n j.cty).flatten cs).bind fun q => some (.ro n q.1, id :: q.2) else none) else none := rfl
theorem ext_strs (w : World) (l : List ByteArray) (e : TypeId) : ∃ φ' Hc x ids, HR w φ' (w.alloc (.cells (l.map Value.string).toArray e)) Hc ∧ VR w φ' x (.slice (some ⟨w.heap.size, 0, none⟩) l.length l.length) ∧
  ownT E0.ti E0.tp Hc 8 64 x = some (.ro l.length (l.map fun s => .sc (.string s)), ids) ∧ ids.Nodup := by
 have hcs : VRs w noPhi ((l.map Value.string).map AV.sc) (fun j => (l.map Value.string).toArray[0 + j]?) := by
  rw [VRs_iff]
  intro j x hj
  rw [List.getElem?_map] at hj
  obtain ⟨v, hv, rfl⟩ := Option.map_eq_some_iff.1 hj
  exact ⟨v, by simpa using hv, VR_sc _ _ _⟩
 obtain ⟨h1, h2⟩ := (HR.start w).alloc (below_alloc' w (.cells (l.map Value.string).toArray e)) (b := w.heap.size) (o := 0) (k := ⟨(l.map Value.string).map AV.sc, true, true⟩) (Nat.le_refl _) (alloc_new w _) (by simp) (fun _ => rfl) (.inl rfl) hcs
 refine ⟨_, _, .sl 0 0 l.length 1, [0], h1, ?_, ?_, by simp⟩
 ·rw [VR]
  refine .inr ⟨w.heap.size, 0, _, upd_at _ _ _, .inr ⟨l.length, Nat.le_refl _, rfl, ?_⟩⟩
  simp
 ·rw [own_sl0]
  have hr : rdCells ([] ++ [⟨(l.map Value.string).map AV.sc, true, true⟩]) 0 0 (l.length * 1) = some ((l.map Value.string).map AV.sc) := by
   simp [rdCells, List.take_of_length_le]
  have e1 : E0.ti 64 = ti0 64 := rfl
  obtain ⟨i, j, hi, hj, hz, hc⟩ : ∃ i j, ti0 64 = some i ∧ ti0 i.elem = some j ∧ j.size = 1 ∧ j.cty = [i.elem] := ⟨_, _, rfl, rfl, rfl, rfl⟩
  simp only [e1, hi, Option.bind_some, show E0.ti i.elem = some j from hj, hz, if_true, hr, hc]
  have ho := ownL_scE (ti := E0.ti) (tp := E0.tp) (H := [] ++ [⟨(l.map Value.string).map AV.sc, true, true⟩]) (d := 6) (List.replicate l.length [i.elem]).flatten (l.map Value.string) (by simp)
  rw [ho]
  have ha : isApp ([] ++ [(⟨(l.map Value.string).map AV.sc, true, true⟩ : Blk)]) 0 = true := rfl
  rw [if_pos ha]
  simp [List.map_map]
theorem any_walk (s : ByteArray) (w : World) (hs : s.size < 4294967281) : Calls Tryz.prog 162 #[.string s, .string phB] w fun e w' => e = .returned (.bool (vPH s)) ∧ Below w.heap.size w w' :=
 contains_ph Tryz.laysAny (zero_of_info set116).1 (zero_of_info set116).2 s w hs
theorem split_walk (s : ByteArray) (w : World) (hs : s.size < 4294967281) (hm : ∃ m, w.cell? ⟨Tryz.laysSplit_ren.g 1, 0, none⟩ = some (.int .i64 m)) : Calls Tryz.prog 172 #[.string s, .string sepB] w fun e w' =>
  e = .returned (.slice (some ⟨w.heap.size, 0, none⟩) (vLevels s).length (vLevels s).length) ∧ w' = w.alloc (.cells ((vLevels s).map Value.string).toArray (Tryz.laysSplit_ren.t 9)) := by
 obtain ⟨m, hm⟩ := hm
 have h := Any.strings_Split Tryz.laysSplit hi9 s sepB m w hs hm (Nat.le_refl _)
 rw [split_levels, ← levels_len] at h
 exact h
theorem one_arg {w : World} {x : Value} {us : List Value} (hl : us.length = 1) (hv : VRs w noPhi [.sc x] (fun j => us[j]?)) : us = [x] := by
 match us, hl with
 | [y], _ =>
  rw [VRs] at hv
  obtain ⟨⟨u, hu, hv⟩, _⟩ := hv
  rw [VR] at hv
  simp at hu
  rw [hu, hv]
theorem two_args {w : World} {x y : Value} {us : List Value} (hl : us.length = 2) (hv : VRs w noPhi [.sc x, .sc y] (fun j => us[j]?)) : us = [x, y] := by
 match us, hl with
 | [a, b], _ =>
  rw [VRs, VRs] at hv
  obtain ⟨⟨u, hu, hv⟩, ⟨u2, hu2, hv2⟩, _⟩ := hv
  rw [VR] at hv hv2
  simp at hu hu2
  rw [hu, hv, hu2, hv2]
theorem ext0 : ExtOk Tryz.prog E0 J0 := by
 intro f g hg w hj ty vs us t hl hv ht
 have hf : E0.ext f = if Nat.beq f 143 then some ext143 else if Nat.beq f 162 then some ext162 else if Nat.beq f 172 then some ext172 else none := rfl
 rw [hf] at hg
 split at hg
 ·rename_i hfe
  obtain rfl := Nat.eq_of_beq_eq_true hfe
  cases hg
  unfold ext143 at ht
  split at ht
  case h_2 => cases ht
  rename_i s
  split at ht
  case isFalse => cases ht
  rename_i hs
  cases ht
  have hm : maxLen = 9223372036854775807 := by decide
  rw [hm] at hs
  obtain rfl := one_arg hl hv
  refine .inr ⟨enters_of Tryz.func143 (by kernel_rfl) rfl _ _, (text_walk s w hs hj.1).mono fun e w' ⟨he, hb⟩ => ⟨_, he, ?_⟩⟩
  rw [clean_eq]
  exact ext_val hb _ _
 split at hg
 ·rename_i hfe
  obtain rfl := Nat.eq_of_beq_eq_true hfe
  cases hg
  unfold ext162 at ht
  split at ht
  case h_2 => cases ht
  rename_i s c
  split at ht
  case isFalse => cases ht
  rename_i hs
  cases ht
  obtain rfl := two_args hl hv
  obtain ⟨hc, hs⟩ := hs
  obtain rfl := ph_of hc
  exact .inr ⟨enters_of Tryz.func162 (by kernel_rfl) rfl _ _, (any_walk s w hs).mono fun e w' ⟨he, hb⟩ => ⟨_, he, ext_val hb _ _⟩⟩
 split at hg
 ·rename_i hfe
  obtain rfl := Nat.eq_of_beq_eq_true hfe
  cases hg
  unfold ext172 at ht
  split at ht
  case h_2 => cases ht
  rename_i s c
  split at ht
  case isFalse => cases ht
  rename_i hs
  cases ht
  obtain rfl := two_args hl hv
  obtain ⟨rfl, hc, hs⟩ := hs
  obtain rfl := sep_of hc
  exact .inr ⟨enters_of Tryz.func172 (by kernel_rfl) rfl _ _, (split_walk s w hs hj.2).mono fun e w' ⟨he, hw⟩ => ⟨_, he, by subst hw; exact ext_strs w (vLevels s) _⟩⟩
 ·cases hg
end YtejjggnchdldoaaGreatDoor.Abs
end Go.Proofs
set_option linter.unusedVariables false
set_option linter.unusedSimpArgs false
set_option maxRecDepth 100000
namespace Go.Proofs.YtejjggnchdldoaaGreatDoor.Abs
open Go
theorem tab0 : tabB Go.Proofs.Tryz.prog 0 tis = true := by kernel_rfl
theorem code0 : fnsB E0 fss = true := by kernel_rfl
theorem tabOk0 : TabOk Go.Proofs.Tryz.prog ti0 := by
 intro t i h
 unfold ti0 at h
 cases hl : tis[t]? with
 | none => rw [hl] at h; cases h
 | some o =>
  rw [hl] at h
  simp only [Option.getD_some] at h
  subst h
  simpa using (tabB_ok tis 0 t i tab0 hl).1
theorem byte0 : ∀ t i, ti0 t = some i → i.ik = some .u8 → i.size = 1 := by
 intro t i h
 unfold ti0 at h
 cases hl : tis[t]? with
 | none => rw [hl] at h; cases h
 | some o =>
  rw [hl] at h
  simp only [Option.getD_some] at h
  subst h
  exact (tabB_ok tis 0 t i tab0 hl).2
def FnQ (n : Nat) (c : Code) (t : Nat) (f : Func) : Prop := ∃ fn, Go.Proofs.Tryz.prog.funcs[n]? = some fn ∧ (fn.name == "runtime.NumGoroutine") = false ∧ fn.body = some c ∧ fn.ntmps = t ∧ fn.results.toList = f.results.toList
theorem fn59 : FnQ 59 c59 12 Go.Proofs.Tryz.f59 := ⟨_, Go.Proofs.Tryz.func59, by kernel_rfl, by kernel_rfl, rfl, rfl⟩
theorem fn19 : FnQ 19 c19 19 Go.Proofs.Tryz.f19 := ⟨_, Go.Proofs.Tryz.func19, by kernel_rfl, by kernel_rfl, rfl, rfl⟩
theorem fn117 : FnQ 117 c117 12 Go.Proofs.Tryz.f117 := ⟨_, Go.Proofs.Tryz.func117, by kernel_rfl, by kernel_rfl, rfl, rfl⟩
theorem fn65 : FnQ 65 c65 27 Go.Proofs.Tryz.f65 := ⟨_, Go.Proofs.Tryz.func65, by kernel_rfl, by kernel_rfl, rfl, rfl⟩
theorem fn66 : FnQ 66 c66 27 Go.Proofs.Tryz.f66 := ⟨_, Go.Proofs.Tryz.func66, by kernel_rfl, by kernel_rfl, rfl, rfl⟩
theorem fn25 : FnQ 25 c25 18 Go.Proofs.Tryz.f25 := ⟨_, Go.Proofs.Tryz.func25, by kernel_rfl, by kernel_rfl, rfl, rfl⟩
theorem fn61 : FnQ 61 c61 22 Go.Proofs.Tryz.f61 := ⟨_, Go.Proofs.Tryz.func61, by kernel_rfl, by kernel_rfl, rfl, rfl⟩
theorem fn21 : FnQ 21 c21 18 Go.Proofs.Tryz.f21 := ⟨_, Go.Proofs.Tryz.func21, by kernel_rfl, by kernel_rfl, rfl, rfl⟩
theorem fn122 : FnQ 122 c122 15 Go.Proofs.Tryz.f122 := ⟨_, Go.Proofs.Tryz.func122, by kernel_rfl, by kernel_rfl, rfl, rfl⟩
theorem fn70 : FnQ 70 c70 23 Go.Proofs.Tryz.f70 := ⟨_, Go.Proofs.Tryz.func70, by kernel_rfl, by kernel_rfl, rfl, rfl⟩
theorem fn71 : FnQ 71 c71 23 Go.Proofs.Tryz.f71 := ⟨_, Go.Proofs.Tryz.func71, by kernel_rfl, by kernel_rfl, rfl, rfl⟩
theorem fn27 : FnQ 27 c27 16 Go.Proofs.Tryz.f27 := ⟨_, Go.Proofs.Tryz.func27, by kernel_rfl, by kernel_rfl, rfl, rfl⟩
theorem fn109 : FnQ 109 c109 15 Go.Proofs.Tryz.f109 := ⟨_, Go.Proofs.Tryz.func109, by kernel_rfl, by kernel_rfl, rfl, rfl⟩
theorem fn157 : FnQ 157 c157 104 Go.Proofs.Tryz.f157 := ⟨_, Go.Proofs.Tryz.func157, by kernel_rfl, by kernel_rfl, rfl, rfl⟩
theorem fn142 : FnQ 142 c142 35 Go.Proofs.Tryz.f142 := ⟨_, Go.Proofs.Tryz.func142, by kernel_rfl, by kernel_rfl, rfl, rfl⟩
theorem fn108 : FnQ 108 c108 6 Go.Proofs.Tryz.f108 := ⟨_, Go.Proofs.Tryz.func108, by kernel_rfl, by kernel_rfl, rfl, rfl⟩
theorem fn159 : FnQ 159 c159 17 Go.Proofs.Tryz.f159 := ⟨_, Go.Proofs.Tryz.func159, by kernel_rfl, by kernel_rfl, rfl, rfl⟩
theorem fn160 : FnQ 160 c160 33 Go.Proofs.Tryz.f160 := ⟨_, Go.Proofs.Tryz.func160, by kernel_rfl, by kernel_rfl, rfl, rfl⟩
theorem fn144 : FnQ 144 c144 25 Go.Proofs.Tryz.f144 := ⟨_, Go.Proofs.Tryz.func144, by kernel_rfl, by kernel_rfl, rfl, rfl⟩
theorem fn118 : FnQ 118 c118 17 Go.Proofs.Tryz.f118 := ⟨_, Go.Proofs.Tryz.func118, by kernel_rfl, by kernel_rfl, rfl, rfl⟩
theorem fn119 : FnQ 119 c119 24 Go.Proofs.Tryz.f119 := ⟨_, Go.Proofs.Tryz.func119, by kernel_rfl, by kernel_rfl, rfl, rfl⟩
theorem fn120 : FnQ 120 c120 19 Go.Proofs.Tryz.f120 := ⟨_, Go.Proofs.Tryz.func120, by kernel_rfl, by kernel_rfl, rfl, rfl⟩
theorem fn67 : FnQ 67 c67 71 Go.Proofs.Tryz.f67 := ⟨_, Go.Proofs.Tryz.func67, by kernel_rfl, by kernel_rfl, rfl, rfl⟩
theorem fn146 : FnQ 146 c146 120 Go.Proofs.Tryz.f146 := ⟨_, Go.Proofs.Tryz.func146, by kernel_rfl, by kernel_rfl, rfl, rfl⟩
theorem fn161 : FnQ 161 c161 10 Go.Proofs.Tryz.f161 := ⟨_, Go.Proofs.Tryz.func161, by kernel_rfl, by kernel_rfl, rfl, rfl⟩
theorem fn145 : FnQ 145 c145 239 Go.Proofs.Tryz.f145 := ⟨_, Go.Proofs.Tryz.func145, by kernel_rfl, by kernel_rfl, rfl, rfl⟩
theorem fn147 : FnQ 147 c147 57 Go.Proofs.Tryz.f147 := ⟨_, Go.Proofs.Tryz.func147, by kernel_rfl, by kernel_rfl, rfl, rfl⟩
theorem fn121 : FnQ 121 c121 191 Go.Proofs.Tryz.f121 := ⟨_, Go.Proofs.Tryz.func121, by kernel_rfl, by kernel_rfl, rfl, rfl⟩
theorem fn68 : FnQ 68 c68 23 Go.Proofs.Tryz.f68 := ⟨_, Go.Proofs.Tryz.func68, by kernel_rfl, by kernel_rfl, rfl, rfl⟩
theorem fn69 : FnQ 69 c69 20 Go.Proofs.Tryz.f69 := ⟨_, Go.Proofs.Tryz.func69, by kernel_rfl, by kernel_rfl, rfl, rfl⟩
theorem fn26 : FnQ 26 c26 41 Go.Proofs.Tryz.f26 := ⟨_, Go.Proofs.Tryz.func26, by kernel_rfl, by kernel_rfl, rfl, rfl⟩
theorem fn114 : FnQ 114 c114 15 Go.Proofs.Tryz.f114 := ⟨_, Go.Proofs.Tryz.func114, by kernel_rfl, by kernel_rfl, rfl, rfl⟩
theorem fn123 : FnQ 123 c123 5 Go.Proofs.Tryz.f123 := ⟨_, Go.Proofs.Tryz.func123, by kernel_rfl, by kernel_rfl, rfl, rfl⟩
theorem fn137 : FnQ 137 c137 8 Go.Proofs.Tryz.f137 := ⟨_, Go.Proofs.Tryz.func137, by kernel_rfl, by kernel_rfl, rfl, rfl⟩
theorem fn136 : FnQ 136 c136 19 Go.Proofs.Tryz.f136 := ⟨_, Go.Proofs.Tryz.func136, by kernel_rfl, by kernel_rfl, rfl, rfl⟩
theorem fn97 : FnQ 97 c97 8 Go.Proofs.Tryz.f97 := ⟨_, Go.Proofs.Tryz.func97, by kernel_rfl, by kernel_rfl, rfl, rfl⟩
theorem fn163 : FnQ 163 c163 5 Go.Proofs.Tryz.f163 := ⟨_, Go.Proofs.Tryz.func163, by kernel_rfl, by kernel_rfl, rfl, rfl⟩
theorem fn148 : FnQ 148 c148 20 Go.Proofs.Tryz.f148 := ⟨_, Go.Proofs.Tryz.func148, by kernel_rfl, by kernel_rfl, rfl, rfl⟩
theorem fn149 : FnQ 149 c149 5 Go.Proofs.Tryz.f149 := ⟨_, Go.Proofs.Tryz.func149, by kernel_rfl, by kernel_rfl, rfl, rfl⟩
theorem fn124 : FnQ 124 c124 17 Go.Proofs.Tryz.f124 := ⟨_, Go.Proofs.Tryz.func124, by kernel_rfl, by kernel_rfl, rfl, rfl⟩
theorem fn125 : FnQ 125 c125 5 Go.Proofs.Tryz.f125 := ⟨_, Go.Proofs.Tryz.func125, by kernel_rfl, by kernel_rfl, rfl, rfl⟩
theorem fn150 : FnQ 150 c150 15 Go.Proofs.Tryz.f150 := ⟨_, Go.Proofs.Tryz.func150, by kernel_rfl, by kernel_rfl, rfl, rfl⟩
theorem fn126 : FnQ 126 c126 10 Go.Proofs.Tryz.f126 := ⟨_, Go.Proofs.Tryz.func126, by kernel_rfl, by kernel_rfl, rfl, rfl⟩
theorem fn72 : FnQ 72 c72 67 Go.Proofs.Tryz.f72 := ⟨_, Go.Proofs.Tryz.func72, by kernel_rfl, by kernel_rfl, rfl, rfl⟩
theorem fn152 : FnQ 152 c152 121 Go.Proofs.Tryz.f152 := ⟨_, Go.Proofs.Tryz.func152, by kernel_rfl, by kernel_rfl, rfl, rfl⟩
theorem fn164 : FnQ 164 c164 10 Go.Proofs.Tryz.f164 := ⟨_, Go.Proofs.Tryz.func164, by kernel_rfl, by kernel_rfl, rfl, rfl⟩
theorem fn165 : FnQ 165 c165 26 Go.Proofs.Tryz.f165 := ⟨_, Go.Proofs.Tryz.func165, by kernel_rfl, by kernel_rfl, rfl, rfl⟩
theorem fn166 : FnQ 166 c166 26 Go.Proofs.Tryz.f166 := ⟨_, Go.Proofs.Tryz.func166, by kernel_rfl, by kernel_rfl, rfl, rfl⟩
theorem fn167 : FnQ 167 c167 26 Go.Proofs.Tryz.f167 := ⟨_, Go.Proofs.Tryz.func167, by kernel_rfl, by kernel_rfl, rfl, rfl⟩
theorem fn151 : FnQ 151 c151 186 Go.Proofs.Tryz.f151 := ⟨_, Go.Proofs.Tryz.func151, by kernel_rfl, by kernel_rfl, rfl, rfl⟩
theorem fn153 : FnQ 153 c153 50 Go.Proofs.Tryz.f153 := ⟨_, Go.Proofs.Tryz.func153, by kernel_rfl, by kernel_rfl, rfl, rfl⟩
theorem fn173 : FnQ 173 c173 19 Go.Proofs.Tryz.f173 := ⟨_, Go.Proofs.Tryz.func173, by kernel_rfl, by kernel_rfl, rfl, rfl⟩
theorem fn168 : FnQ 168 c168 35 Go.Proofs.Tryz.f168 := ⟨_, Go.Proofs.Tryz.func168, by kernel_rfl, by kernel_rfl, rfl, rfl⟩
theorem fn154 : FnQ 154 c154 65 Go.Proofs.Tryz.f154 := ⟨_, Go.Proofs.Tryz.func154, by kernel_rfl, by kernel_rfl, rfl, rfl⟩
theorem fn127 : FnQ 127 c127 81 Go.Proofs.Tryz.f127 := ⟨_, Go.Proofs.Tryz.func127, by kernel_rfl, by kernel_rfl, rfl, rfl⟩
theorem fn73 : FnQ 73 c73 23 Go.Proofs.Tryz.f73 := ⟨_, Go.Proofs.Tryz.func73, by kernel_rfl, by kernel_rfl, rfl, rfl⟩
theorem fn128 : FnQ 128 c128 18 Go.Proofs.Tryz.f128 := ⟨_, Go.Proofs.Tryz.func128, by kernel_rfl, by kernel_rfl, rfl, rfl⟩
theorem fn74 : FnQ 74 c74 20 Go.Proofs.Tryz.f74 := ⟨_, Go.Proofs.Tryz.func74, by kernel_rfl, by kernel_rfl, rfl, rfl⟩
theorem fn28 : FnQ 28 c28 37 Go.Proofs.Tryz.f28 := ⟨_, Go.Proofs.Tryz.func28, by kernel_rfl, by kernel_rfl, rfl, rfl⟩
theorem fn63 : FnQ 63 c63 26 Go.Proofs.Tryz.f63 := ⟨_, Go.Proofs.Tryz.func63, by kernel_rfl, by kernel_rfl, rfl, rfl⟩
theorem fn135 : FnQ 135 c135 15 Go.Proofs.Tryz.f135 := ⟨_, Go.Proofs.Tryz.func135, by kernel_rfl, by kernel_rfl, rfl, rfl⟩
theorem fn93 : FnQ 93 c93 27 Go.Proofs.Tryz.f93 := ⟨_, Go.Proofs.Tryz.func93, by kernel_rfl, by kernel_rfl, rfl, rfl⟩
theorem fn94 : FnQ 94 c94 26 Go.Proofs.Tryz.f94 := ⟨_, Go.Proofs.Tryz.func94, by kernel_rfl, by kernel_rfl, rfl, rfl⟩
theorem fn55 : FnQ 55 c55 26 Go.Proofs.Tryz.f55 := ⟨_, Go.Proofs.Tryz.func55, by kernel_rfl, by kernel_rfl, rfl, rfl⟩
theorem fn36 : FnQ 36 c36 136 Go.Proofs.Tryz.f36 := ⟨_, Go.Proofs.Tryz.func36, by kernel_rfl, by kernel_rfl, rfl, rfl⟩
theorem fn29 : FnQ 29 c29 27 Go.Proofs.Tryz.f29 := ⟨_, Go.Proofs.Tryz.func29, by kernel_rfl, by kernel_rfl, rfl, rfl⟩
theorem fn23 : FnQ 23 c23 26 Go.Proofs.Tryz.f23 := ⟨_, Go.Proofs.Tryz.func23, by kernel_rfl, by kernel_rfl, rfl, rfl⟩
theorem fn129 : FnQ 129 c129 21 Go.Proofs.Tryz.f129 := ⟨_, Go.Proofs.Tryz.func129, by kernel_rfl, by kernel_rfl, rfl, rfl⟩
theorem fn75 : FnQ 75 c75 27 Go.Proofs.Tryz.f75 := ⟨_, Go.Proofs.Tryz.func75, by kernel_rfl, by kernel_rfl, rfl, rfl⟩
theorem fn76 : FnQ 76 c76 27 Go.Proofs.Tryz.f76 := ⟨_, Go.Proofs.Tryz.func76, by kernel_rfl, by kernel_rfl, rfl, rfl⟩
theorem fn30 : FnQ 30 c30 22 Go.Proofs.Tryz.f30 := ⟨_, Go.Proofs.Tryz.func30, by kernel_rfl, by kernel_rfl, rfl, rfl⟩
theorem fn79 : FnQ 79 c79 20 Go.Proofs.Tryz.f79 := ⟨_, Go.Proofs.Tryz.func79, by kernel_rfl, by kernel_rfl, rfl, rfl⟩
theorem fn64 : FnQ 64 c64 20 Go.Proofs.Tryz.f64 := ⟨_, Go.Proofs.Tryz.func64, by kernel_rfl, by kernel_rfl, rfl, rfl⟩
theorem fn77 : FnQ 77 c77 62 Go.Proofs.Tryz.f77 := ⟨_, Go.Proofs.Tryz.func77, by kernel_rfl, by kernel_rfl, rfl, rfl⟩
theorem fn78 : FnQ 78 c78 44 Go.Proofs.Tryz.f78 := ⟨_, Go.Proofs.Tryz.func78, by kernel_rfl, by kernel_rfl, rfl, rfl⟩
theorem fn31 : FnQ 31 c31 14 Go.Proofs.Tryz.f31 := ⟨_, Go.Proofs.Tryz.func31, by kernel_rfl, by kernel_rfl, rfl, rfl⟩
theorem fn80 : FnQ 80 c80 28 Go.Proofs.Tryz.f80 := ⟨_, Go.Proofs.Tryz.func80, by kernel_rfl, by kernel_rfl, rfl, rfl⟩
theorem fn81 : FnQ 81 c81 20 Go.Proofs.Tryz.f81 := ⟨_, Go.Proofs.Tryz.func81, by kernel_rfl, by kernel_rfl, rfl, rfl⟩
theorem fn56 : FnQ 56 c56 19 Go.Proofs.Tryz.f56 := ⟨_, Go.Proofs.Tryz.func56, by kernel_rfl, by kernel_rfl, rfl, rfl⟩
theorem fn32 : FnQ 32 c32 208 Go.Proofs.Tryz.f32 := ⟨_, Go.Proofs.Tryz.func32, by kernel_rfl, by kernel_rfl, rfl, rfl⟩
theorem fn82 : FnQ 82 c82 22 Go.Proofs.Tryz.f82 := ⟨_, Go.Proofs.Tryz.func82, by kernel_rfl, by kernel_rfl, rfl, rfl⟩
theorem fn83 : FnQ 83 c83 32 Go.Proofs.Tryz.f83 := ⟨_, Go.Proofs.Tryz.func83, by kernel_rfl, by kernel_rfl, rfl, rfl⟩
theorem fn84 : FnQ 84 c84 22 Go.Proofs.Tryz.f84 := ⟨_, Go.Proofs.Tryz.func84, by kernel_rfl, by kernel_rfl, rfl, rfl⟩
theorem fn57 : FnQ 57 c57 21 Go.Proofs.Tryz.f57 := ⟨_, Go.Proofs.Tryz.func57, by kernel_rfl, by kernel_rfl, rfl, rfl⟩
theorem fn33 : FnQ 33 c33 258 Go.Proofs.Tryz.f33 := ⟨_, Go.Proofs.Tryz.func33, by kernel_rfl, by kernel_rfl, rfl, rfl⟩
theorem fn6 : FnQ 6 c6 69 Go.Proofs.Tryz.f6 := ⟨_, Go.Proofs.Tryz.func6, by kernel_rfl, by kernel_rfl, rfl, rfl⟩
theorem fnC {c : Code} {t : Nat} {f : Func} {o : List (Nat × PI)} {i : FnI} (e : (⟨c, t, f.results.toList, o⟩ : FnI) = i) {n : Nat} (h : FnQ n c t f) : ∃ fn, Go.Proofs.Tryz.prog.funcs[n]? = some fn ∧ (fn.name == "runtime.NumGoroutine") = false ∧ fn.body = some i.body ∧ fn.ntmps = i.ntmps ∧ fn.results.toList = i.results := by subst e; exact h
theorem fnAll : ∀ (f : Nat) (i : FnI), f < 174 → fss[f]? = some (some i) → ∃ fn, Go.Proofs.Tryz.prog.funcs[f]? = some fn ∧ (fn.name == "runtime.NumGoroutine") = false ∧ fn.body = some i.body ∧ fn.ntmps = i.ntmps ∧ fn.results.toList = i.results
 | 0, i, _, h => nomatch Option.some.inj h
 | 1, i, _, h => nomatch Option.some.inj h
 | 2, i, _, h => nomatch Option.some.inj h
 | 3, i, _, h => nomatch Option.some.inj h
 | 4, i, _, h => nomatch Option.some.inj h
 | 5, i, _, h => nomatch Option.some.inj h
 | 6, i, _, h => fnC (Option.some.inj (Option.some.inj h)) fn6
 | 7, i, _, h => nomatch Option.some.inj h
 | 8, i, _, h => nomatch Option.some.inj h
 | 9, i, _, h => nomatch Option.some.inj h
 | 10, i, _, h => nomatch Option.some.inj h
 | 11, i, _, h => nomatch Option.some.inj h
 | 12, i, _, h => nomatch Option.some.inj h
 | 13, i, _, h => nomatch Option.some.inj h
 | 14, i, _, h => nomatch Option.some.inj h
 | 15, i, _, h => nomatch Option.some.inj h
 | 16, i, _, h => nomatch Option.some.inj h
 | 17, i, _, h => nomatch Option.some.inj h
 | 18, i, _, h => nomatch Option.some.inj h
 | 19, i, _, h => fnC (Option.some.inj (Option.some.inj h)) fn19
 | 20, i, _, h => nomatch Option.some.inj h
 | 21, i, _, h => fnC (Option.some.inj (Option.some.inj h)) fn21
 | 22, i, _, h => nomatch Option.some.inj h
 | 23, i, _, h => fnC (Option.some.inj (Option.some.inj h)) fn23
 | 24, i, _, h => nomatch Option.some.inj h
 | 25, i, _, h => fnC (Option.some.inj (Option.some.inj h)) fn25
 | 26, i, _, h => fnC (Option.some.inj (Option.some.inj h)) fn26
 | 27, i, _, h => fnC (Option.some.inj (Option.some.inj h)) fn27
 | 28, i, _, h => fnC (Option.some.inj (Option.some.inj h)) fn28
 | 29, i, _, h => fnC (Option.some.inj (Option.some.inj h)) fn29
 | 30, i, _, h => fnC (Option.some.inj (Option.some.inj h)) fn30
 | 31, i, _, h => fnC (Option.some.inj (Option.some.inj h)) fn31
 | 32, i, _, h => fnC (Option.some.inj (Option.some.inj h)) fn32
 | 33, i, _, h => fnC (Option.some.inj (Option.some.inj h)) fn33
 | 34, i, _, h => nomatch Option.some.inj h
 | 35, i, _, h => nomatch Option.some.inj h
 | 36, i, _, h => fnC (Option.some.inj (Option.some.inj h)) fn36
 | 37, i, _, h => nomatch Option.some.inj h
 | 38, i, _, h => nomatch Option.some.inj h
 | 39, i, _, h => nomatch Option.some.inj h
 | 40, i, _, h => nomatch Option.some.inj h
 | 41, i, _, h => nomatch Option.some.inj h
 | 42, i, _, h => nomatch Option.some.inj h
 | 43, i, _, h => nomatch Option.some.inj h
 | 44, i, _, h => nomatch Option.some.inj h
 | 45, i, _, h => nomatch Option.some.inj h
 | 46, i, _, h => nomatch Option.some.inj h
 | 47, i, _, h => nomatch Option.some.inj h
 | 48, i, _, h => nomatch Option.some.inj h
 | 49, i, _, h => nomatch Option.some.inj h
 | 50, i, _, h => nomatch Option.some.inj h
 | 51, i, _, h => nomatch Option.some.inj h
 | 52, i, _, h => nomatch Option.some.inj h
 | 53, i, _, h => nomatch Option.some.inj h
 | 54, i, _, h => nomatch Option.some.inj h
 | 55, i, _, h => fnC (Option.some.inj (Option.some.inj h)) fn55
 | 56, i, _, h => fnC (Option.some.inj (Option.some.inj h)) fn56
 | 57, i, _, h => fnC (Option.some.inj (Option.some.inj h)) fn57
 | 58, i, _, h => nomatch Option.some.inj h
 | 59, i, _, h => fnC (Option.some.inj (Option.some.inj h)) fn59
 | 60, i, _, h => nomatch Option.some.inj h
 | 61, i, _, h => fnC (Option.some.inj (Option.some.inj h)) fn61
 | 62, i, _, h => nomatch Option.some.inj h
 | 63, i, _, h => fnC (Option.some.inj (Option.some.inj h)) fn63
 | 64, i, _, h => fnC (Option.some.inj (Option.some.inj h)) fn64
 | 65, i, _, h => fnC (Option.some.inj (Option.some.inj h)) fn65
 | 66, i, _, h => fnC (Option.some.inj (Option.some.inj h)) fn66
 | 67, i, _, h => fnC (Option.some.inj (Option.some.inj h)) fn67
 | 68, i, _, h => fnC (Option.some.inj (Option.some.inj h)) fn68
 | 69, i, _, h => fnC (Option.some.inj (Option.some.inj h)) fn69
 | 70, i, _, h => fnC (Option.some.inj (Option.some.inj h)) fn70
 | 71, i, _, h => fnC (Option.some.inj (Option.some.inj h)) fn71
 | 72, i, _, h => fnC (Option.some.inj (Option.some.inj h)) fn72
 | 73, i, _, h => fnC (Option.some.inj (Option.some.inj h)) fn73
 | 74, i, _, h => fnC (Option.some.inj (Option.some.inj h)) fn74
 | 75, i, _, h => fnC (Option.some.inj (Option.some.inj h)) fn75
 | 76, i, _, h => fnC (Option.some.inj (Option.some.inj h)) fn76
 | 77, i, _, h => fnC (Option.some.inj (Option.some.inj h)) fn77
 | 78, i, _, h => fnC (Option.some.inj (Option.some.inj h)) fn78
 | 79, i, _, h => fnC (Option.some.inj (Option.some.inj h)) fn79
 | 80, i, _, h => fnC (Option.some.inj (Option.some.inj h)) fn80
 | 81, i, _, h => fnC (Option.some.inj (Option.some.inj h)) fn81
 | 82, i, _, h => fnC (Option.some.inj (Option.some.inj h)) fn82
 | 83, i, _, h => fnC (Option.some.inj (Option.some.inj h)) fn83
 | 84, i, _, h => fnC (Option.some.inj (Option.some.inj h)) fn84
 | 85, i, _, h => nomatch Option.some.inj h
 | 86, i, _, h => nomatch Option.some.inj h
 | 87, i, _, h => nomatch Option.some.inj h
 | 88, i, _, h => nomatch Option.some.inj h
 | 89, i, _, h => nomatch Option.some.inj h
 | 90, i, _, h => nomatch Option.some.inj h
 | 91, i, _, h => nomatch Option.some.inj h
 | 92, i, _, h => nomatch Option.some.inj h
 | 93, i, _, h => fnC (Option.some.inj (Option.some.inj h)) fn93
 | 94, i, _, h => fnC (Option.some.inj (Option.some.inj h)) fn94
 | 95, i, _, h => nomatch Option.some.inj h
 | 96, i, _, h => nomatch Option.some.inj h
 | 97, i, _, h => fnC (Option.some.inj (Option.some.inj h)) fn97
 | 98, i, _, h => nomatch Option.some.inj h
 | 99, i, _, h => nomatch Option.some.inj h
 | 100, i, _, h => nomatch Option.some.inj h
 | 101, i, _, h => nomatch Option.some.inj h
 | 102, i, _, h => nomatch Option.some.inj h
 | 103, i, _, h => nomatch Option.some.inj h
 | 104, i, _, h => nomatch Option.some.inj h
 | 105, i, _, h => nomatch Option.some.inj h
 | 106, i, _, h => nomatch Option.some.inj h
 | 107, i, _, h => nomatch Option.some.inj h
 | 108, i, _, h => fnC (Option.some.inj (Option.some.inj h)) fn108
 | 109, i, _, h => fnC (Option.some.inj (Option.some.inj h)) fn109
 | 110, i, _, h => nomatch Option.some.inj h
 | 111, i, _, h => nomatch Option.some.inj h
 | 112, i, _, h => nomatch Option.some.inj h
 | 113, i, _, h => nomatch Option.some.inj h
 | 114, i, _, h => fnC (Option.some.inj (Option.some.inj h)) fn114
 | 115, i, _, h => nomatch Option.some.inj h
 | 116, i, _, h => nomatch Option.some.inj h
 | 117, i, _, h => fnC (Option.some.inj (Option.some.inj h)) fn117
 | 118, i, _, h => fnC (Option.some.inj (Option.some.inj h)) fn118
 | 119, i, _, h => fnC (Option.some.inj (Option.some.inj h)) fn119
 | 120, i, _, h => fnC (Option.some.inj (Option.some.inj h)) fn120
 | 121, i, _, h => fnC (Option.some.inj (Option.some.inj h)) fn121
 | 122, i, _, h => fnC (Option.some.inj (Option.some.inj h)) fn122
 | 123, i, _, h => fnC (Option.some.inj (Option.some.inj h)) fn123
 | 124, i, _, h => fnC (Option.some.inj (Option.some.inj h)) fn124
 | 125, i, _, h => fnC (Option.some.inj (Option.some.inj h)) fn125
 | 126, i, _, h => fnC (Option.some.inj (Option.some.inj h)) fn126
 | 127, i, _, h => fnC (Option.some.inj (Option.some.inj h)) fn127
 | 128, i, _, h => fnC (Option.some.inj (Option.some.inj h)) fn128
 | 129, i, _, h => fnC (Option.some.inj (Option.some.inj h)) fn129
 | 130, i, _, h => nomatch Option.some.inj h
 | 131, i, _, h => nomatch Option.some.inj h
 | 132, i, _, h => nomatch Option.some.inj h
 | 133, i, _, h => nomatch Option.some.inj h
 | 134, i, _, h => nomatch Option.some.inj h
 | 135, i, _, h => fnC (Option.some.inj (Option.some.inj h)) fn135
 | 136, i, _, h => fnC (Option.some.inj (Option.some.inj h)) fn136
 | 137, i, _, h => fnC (Option.some.inj (Option.some.inj h)) fn137
 | 138, i, _, h => nomatch Option.some.inj h
 | 139, i, _, h => nomatch Option.some.inj h
 | 140, i, _, h => nomatch Option.some.inj h
 | 141, i, _, h => nomatch Option.some.inj h
 | 142, i, _, h => fnC (Option.some.inj (Option.some.inj h)) fn142
 | 143, i, _, h => nomatch Option.some.inj h
 | 144, i, _, h => fnC (Option.some.inj (Option.some.inj h)) fn144
 | 145, i, _, h => fnC (Option.some.inj (Option.some.inj h)) fn145
 | 146, i, _, h => fnC (Option.some.inj (Option.some.inj h)) fn146
 | 147, i, _, h => fnC (Option.some.inj (Option.some.inj h)) fn147
 | 148, i, _, h => fnC (Option.some.inj (Option.some.inj h)) fn148
 | 149, i, _, h => fnC (Option.some.inj (Option.some.inj h)) fn149
 | 150, i, _, h => fnC (Option.some.inj (Option.some.inj h)) fn150
 | 151, i, _, h => fnC (Option.some.inj (Option.some.inj h)) fn151
 | 152, i, _, h => fnC (Option.some.inj (Option.some.inj h)) fn152
 | 153, i, _, h => fnC (Option.some.inj (Option.some.inj h)) fn153
 | 154, i, _, h => fnC (Option.some.inj (Option.some.inj h)) fn154
 | 155, i, _, h => nomatch Option.some.inj h
 | 156, i, _, h => nomatch Option.some.inj h
 | 157, i, _, h => fnC (Option.some.inj (Option.some.inj h)) fn157
 | 158, i, _, h => nomatch Option.some.inj h
 | 159, i, _, h => fnC (Option.some.inj (Option.some.inj h)) fn159
 | 160, i, _, h => fnC (Option.some.inj (Option.some.inj h)) fn160
 | 161, i, _, h => fnC (Option.some.inj (Option.some.inj h)) fn161
 | 162, i, _, h => nomatch Option.some.inj h
 | 163, i, _, h => fnC (Option.some.inj (Option.some.inj h)) fn163
 | 164, i, _, h => fnC (Option.some.inj (Option.some.inj h)) fn164
 | 165, i, _, h => fnC (Option.some.inj (Option.some.inj h)) fn165
 | 166, i, _, h => fnC (Option.some.inj (Option.some.inj h)) fn166
 | 167, i, _, h => fnC (Option.some.inj (Option.some.inj h)) fn167
 | 168, i, _, h => fnC (Option.some.inj (Option.some.inj h)) fn168
 | 169, i, _, h => nomatch Option.some.inj h
 | 170, i, _, h => nomatch Option.some.inj h
 | 171, i, _, h => nomatch Option.some.inj h
 | 172, i, _, h => nomatch Option.some.inj h
 | 173, i, _, h => fnC (Option.some.inj (Option.some.inj h)) fn173
 | n + 174, i, hlt, h => by omega
theorem fns0 : ∀ f i, E0.fs f = some i → FnOk Go.Proofs.Tryz.prog E0 f i := by
 intro f i h
 have hl : fss[f]? = some (some i) := by
  have h : (fss[f]?).getD none = some i := h
  cases hl : fss[f]? with
  | none => rw [hl] at h; cases h
  | some o => rw [hl] at h; simp only [Option.getD_some] at h; rw [h]
 refine ⟨?_, fnsB_ok code0 hl⟩
 have hlt : f < 174 := (List.getElem?_eq_some_iff.1 hl).1
 exact fnAll f i hlt hl
theorem env0 : EnvOk Go.Proofs.Tryz.prog E0 J0 := ⟨tabOk0, byte0, by kernel_rfl, fns0, ext0, j0_stays⟩
end Go.Proofs.YtejjggnchdldoaaGreatDoor.Abs
set_option linter.unusedVariables false
set_option linter.unusedSimpArgs false
namespace Go.Proofs.YtejjggnchdldoaaGreatDoor.Abs
open Go
variable {β : Type} {n : Nat}
section
variable {k : AV → Heap → Option β} {k1 : AV → Option β} {H : Heap}
@[simp] theorem PR_load : (PR n β).load = pLoad := rfl
@[simp] theorem PR_store : (PR n β).store = pStore := rfl
@[simp] theorem PR_new : (PR n β).new = pNew := rfl
@[simp] theorem PR_box : (PR n β).box = pBox := rfl
@[simp] theorem PR_newSl : (PR n β).newSl = pNewSl := rfl
@[simp] theorem PR_fadr : (PR n β).fadr = pFadr := rfl
@[simp] theorem PR_fld : (PR n β).fld = pFld := rfl
@[simp] theorem PR_iadr : (PR n β).iadr = pIadr := rfl
@[simp] theorem PR_idx : (PR n β).idx = pIdx := rfl
@[simp] theorem PR_lenS : (PR n β).lenS = pLenS := rfl
@[simp] theorem PR_len : (PR n β).len = pLen := rfl
@[simp] theorem PR_sliceS : (PR n β).sliceS = pSliceS := rfl
@[simp] theorem PR_slice : (PR n β).slice = pSlice := rfl
@[simp] theorem PR_app : (PR n β).app = pApp := rfl
@[simp] theorem PR_appS : (PR n β).appS = pAppS := rfl
@[simp] theorem PR_bin : (PR n β).bin = pBin := rfl
@[simp] theorem PR_binB : (PR n β).binB = pBinB := rfl
@[simp] theorem PR_binA : (PR n β).binA = pBinA := rfl
@[simp] theorem PR_un : (PR n β).un = pUn := rfl
@[simp] theorem PR_pick : (PR n β).pick = pPick := rfl
@[simp] theorem PR_cvI : (PR n β).cvI = pCvI := rfl
@[simp] theorem PR_cvSS : (PR n β).cvSS = pCvSS := rfl
@[simp] theorem PR_cvBS : (PR n β).cvBS = pCvBS := rfl
@[simp] theorem PR_cvSB : (PR n β).cvSB = pCvSB := rfl
@[simp] theorem PR_extr : (PR n β).extr = pExtr := rfl
@[simp] theorem PR_nil : (PR n β).nil = pNil := rfl
@[simp] theorem PR_fill : (PR n β).fill = fun a l k => (fillA a l).bind k := rfl
@[simp] theorem PR_make : (PR n β).make = pMake := rfl
@[simp] theorem PR_guard : (PR n β).guard = pGuard := rfl
@[simp] theorem PR_cond : (PR n β).cond = pCond := rfl
@[simp] theorem PR_clear : (PR n β).clear = pClear := rfl
@[simp] theorem PR_both : (PR n β).both = pBoth := rfl
@[simp] theorem PR_apart : (PR n β).apart = pApart := rfl
@[simp] theorem PR_same : (PR n β).same = pSame := rfl
noncomputable def plainF (f : Nat) : Bool := E0.hm f || (E0.ext f).isSome
theorem plain_hm {f : Nat} (h : plainF f = false) : E0.hm f = false := by
 unfold plainF at h
 simp only [Bool.or_eq_false_iff] at h
 exact h.1
theorem plain_ext {f : Nat} (h : plainF f = false) : E0.ext f = none := by
 unfold plainF at h
 simp only [Bool.or_eq_false_iff] at h
 simpa using h.2
theorem PR_call {ty : Nat} {f : FuncId} {args vs : List AV} {t : AV} (hh : plainF f = false) (hv : args.mapM (viewV H 8) = some vs) (ht : tree E0 n ty f vs = some t) :
  (PR n β).call ty (.fn f [] []) args H k = k (instT ti0 E0.tp H.length ty t).1 (H ++ (instT ti0 E0.tp H.length ty t).2) := by
 show callF E0 (evalFn E0 n) ty f ([] ++ args ++ []) H k = _
 simp only [callF, plain_ext hh, plain_hm hh, List.nil_append, List.append_nil, Bool.false_eq_true, if_false, callT, hv, Option.bind_some]
 have ht : treeOf E0 (evalFn E0 n) ty f vs = some t := ht
 rw [ht]
 rfl
theorem PR_ext {ty : Nat} {f : FuncId} {g : Nat → List AV → Option AV} {args vs : List AV} {t : AV} (hg : E0.ext f = some g) (hv : args.mapM (viewV H 8) = some vs) (ht : g ty vs = some t) :
  (PR n β).call ty (.fn f [] []) args H k = k (instT ti0 E0.tp H.length ty t).1 (H ++ (instT ti0 E0.tp H.length ty t).2) := by
 show callF E0 (evalFn E0 n) ty f ([] ++ args ++ []) H k = _
 simp only [callF, hg, List.nil_append, List.append_nil, callX, hv, Option.bind_some, ht]
 rfl
end
theorem tree_def (n ty : Nat) (f : FuncId) (args : List AV) : tree E0 n ty f args = evalFn E0 n AV f args [] fun x H => ownTree ti0 E0.tp ty H x := rfl
@[simp] theorem own_scalar {ti : Nat → Option TI} {tp : Nat → Option (List Nat)} (ty : Nat) (H : Heap) (v : Value) : ownTree ti tp ty H (.sc v) = some (.sc v) := rfl
theorem ownT_sl {ti : Nat → Option TI} {tp : Nat → Option (List Nat)} {H : Heap} {d ty id off n z : Nat} : ownT ti tp H (d + 1) ty (.sl id off n z) = (ti ty).bind fun i => (ti i.elem).bind fun j => if z = j.size then (if isApp H id then (rdCells H id off (n * z)).bind fun cs => (ownL (ownT ti tp H d) (List.replicate n j.cty).flatten cs).bind fun q => some (.ro n q.1, id :: q.2) else none) else none := rfl
theorem ownT_agg {ti : Nat → Option TI} {tp : Nat → Option (List Nat)} {H : Heap} {d ty : Nat} {cs : List AV} : ownT ti tp H (d + 1) ty (.agg cs) = (ti ty).bind fun i => (ownL (ownT ti tp H d) i.cty cs).bind fun q => some (.agg q.1, q.2) := rfl
theorem ownT_tup {ti : Nat → Option TI} {tp : Nat → Option (List Nat)} {H : Heap} {d ty : Nat} {cs : List AV} : ownT ti tp H (d + 1) ty (.tup cs) = (tp ty).bind fun ts => (ownL (ownT ti tp H d) ts cs).bind fun q => some (.tup q.1, q.2) := rfl
theorem ownT_sc {ti : Nat → Option TI} {tp : Nat → Option (List Nat)} {H : Heap} {d ty : Nat} {v : Value} : ownT ti tp H (d + 1) ty (.sc v) = some (.sc v, []) := rfl
theorem instT_sc {ti : Nat → Option TI} {tp : Nat → Option (List Nat)} {n ty : Nat} {v : Value} : instT ti tp n ty (.sc v) = (.sc v, []) := rfl
theorem instT_agg {ti : Nat → Option TI} {tp : Nat → Option (List Nat)} {n ty : Nat} {cs : List AV} : instT ti tp n ty (.agg cs) = (.agg (instL ti tp n ((ti ty).getD default).cty cs).1, (instL ti tp n ((ti ty).getD default).cty cs).2) := rfl
theorem instT_tup {ti : Nat → Option TI} {tp : Nat → Option (List Nat)} {n ty : Nat} {cs : List AV} : instT ti tp n ty (.tup cs) = (.tup (instL ti tp n ((tp ty).getD []) cs).1, (instL ti tp n ((tp ty).getD []) cs).2) := rfl
theorem viewV_sl {H : Heap} {d id off n z : Nat} : viewV H (d + 1) (.sl id off n z) = (rdCells H id off (n * z)).bind fun cs => (cs.mapM (viewV H d)).bind fun vs => some (.ro n vs) := rfl
theorem viewV_agg {H : Heap} {d : Nat} {cs : List AV} : viewV H (d + 1) (.agg cs) = (cs.mapM (viewV H d)).bind fun vs => some (.agg vs) := rfl
theorem viewV_sc {H : Heap} {d : Nat} {v : Value} : viewV H (d + 1) (.sc v) = some (.sc v) := rfl
theorem viewV_ro {H : Heap} {d n : Nat} {cs : List AV} : viewV H (d + 1) (.ro n cs) = some (.ro n cs) := rfl
theorem splice_next (l : List AV) (i j : Nat) (z : AV) (hi : i < l.length) : splice (l.take i ++ List.replicate (j + 1) z) i [l[i]] = l.take (i + 1) ++ List.replicate j z := by
 have hlen : (l.take i).length = i := by simp; omega
 have e1 : (l.take i ++ List.replicate (j + 1) z).take i = l.take i := List.take_left' hlen
 have e2 : (l.take i ++ List.replicate (j + 1) z).drop (i + 1) = List.replicate j z := by
  rw [List.drop_append, hlen, List.drop_of_length_le (by omega), List.nil_append, Nat.add_sub_cancel_left, List.replicate_succ, List.drop_one, List.tail_cons]
 unfold splice
 rw [e1, List.length_singleton, e2, List.take_succ_eq_append_getElem hi]
theorem mapM_sc {H : Heap} {d : Nat} : ∀ (l : List Value), (l.map AV.sc).mapM (viewV H (d + 1)) = some (l.map AV.sc)
 | [] => rfl
 | x :: l => by
  have e : viewV H (d + 1) (.sc x) = some (.sc x) := rfl
  simp only [List.map_cons, List.mapM_cons, e, Option.pure_def, Option.bind_eq_bind, Option.bind_some, mapM_sc l]
theorem ownL_sc {ti : Nat → Option TI} {tp : Nat → Option (List Nat)} {H : Heap} {d : Nat} : ∀ (ts : List Nat) (l : List Value), ts.length = l.length → ownL (ownT ti tp H (d + 1)) ts (l.map AV.sc) = some (l.map AV.sc, [])
 | [], [], _ => rfl
 | t :: ts, x :: l, h => by
  have e : ownT ti tp H (d + 1) t (.sc x) = some (.sc x, []) := rfl
  simp only [List.map_cons, ownL, e, Option.bind_some, ownL_sc ts l (by simpa using h), List.append_nil]
 | [], _ :: _, h => by simp at h
 | _ :: _, [], h => by simp at h
theorem instL_sc {ti : Nat → Option TI} {tp : Nat → Option (List Nat)} {n : Nat} : ∀ (ts : List Nat) (l : List Value), instL ti tp n ts (l.map AV.sc) = (l.map AV.sc, [])
 | ts, [] => rfl
 | ts, x :: l => by
  simp only [List.map_cons, instL, instT, instL_sc _ l, List.nil_append]
def bv (s : ByteArray) : List Value := s.data.toList.map fun b => .int .u8 b.toNat
theorem bytesAV_eq (s : ByteArray) : bytesAV s = (bv s).map AV.sc := by simp [bytesAV, bv]
theorem bv_len (s : ByteArray) : (bv s).length = s.size := by simp [bv]
theorem bytesAV_len (s : ByteArray) : (bytesAV s).length = s.size := by simp [bytesAV]
theorem bytesAV_leaf (s : ByteArray) : (bytesAV s).all isLeaf = true := by
 simp only [bytesAV, List.all_map, List.all_eq_true]
 intro b _
 rfl
theorem byteOf_bytes : ∀ (l : List UInt8), (l.map fun b => AV.sc (.int .u8 (b.toNat : Int))).mapM byteOf = some l
 | [] => rfl
 | b :: l => by
  have e : byteOf (.sc (.int .u8 (b.toNat : Int))) = some b := by simp [byteOf]
  simp only [List.map_cons, List.mapM_cons, e, byteOf_bytes l, Option.pure_def, Option.bind_eq_bind, Option.bind_some]
end Go.Proofs.YtejjggnchdldoaaGreatDoor.Abs
