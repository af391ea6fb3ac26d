/- What the proof needs, part 3: a sound evaluator over trees, the program's functions on it, and what they come to. -/
import Derived.Test.YtlcpigdmekgajaaGreatDoorMob
import Derived.Shelf.Strings.IndexAnyAll
import Derived.Shelf.Small.Utf8
import Derived.Lib.TrimUEq
import Derived.Lib.QuoteLoop
import Derived.Laws.RangeAny
import Derived.Laws.Runes
import Derived.WalkKit
import Derived.WalkMore
import Derived.Below
import Derived.LoopTactic
import Derived.Shelf.RegionOpenPlain
import Derived.Test.YtlcpigdmekgajaaGreatDoorChecked
import Derived.Shelf.Unicode.ValidAny
import Derived.Shelf.Strings.Split
import Derived.Shelf.Vars
import Derived.Lib.ValidLaws
set_option linter.unusedVariables false
set_option linter.unusedSimpArgs false
set_option maxRecDepth 100000
namespace Go.Proofs.YtlcpigdmekgajaaGreatDoor.Abs
open _root_.Bool renaming false_eq_true → zaa, and_eq_true → zae, not_true → zax, false_or → zaC, true_or → zbg, eq_iff_iff → zbq
open _root_.Option renaming bind_some → zac, getD_some → zaG, map_eq_some_iff → zaK, bind_eq_bind → zaO, pure_def → zbd
open _root_.List renaming getElem?_eq_some_iff → zad, length_append → zaf, nil_append → zag, replicate → zah, append_assoc → zai, getElem?_append_right → zak, length_cons → zal, getElem?_append_left → zam, append_nil → zan, length_nil → zao, length_singleton → zaq, all_cons → zas, map_cons → zat, cons_append → zau, mem_cons_of_mem → zay, mem_cons_self → za1, map_append → za2, flatten_cons → za3, mapM_cons → za4, all_eq_true → za6, drop_eq_getElem_cons → zaA, map_nil → zaB, mem_append_left → zaF, take_length → zaL, mem_append_right → zaM, drop_append_of_le_length → zaQ, mem_append → zaV, drop_zero → zaW, getElem?_map → zaX, take_of_length_le → zaY, drop_of_length_le → zbh, getElem?_cons_zero → zbl, replicate_succ → zbp, flatten_append → zbr, flatten_nil → zbw, drop_length → zb5, drop_drop → zb6, any_cons → zbB, mem_cons → zbF, map_map → zbK
open _root_.Nat renaming le_refl → zap, zero_add → zav, le_trans → za9, add_assoc → zaN, eq_of_beq_eq_true → zaU, add_zero → zba, mul_one → zbs, beq → zb7, add_comm → zbE, succ_mul → zbJ
open _root_.Array renaming getElem?_eq_some_iff → za8, ext' → zbf, replicate → zb2, getElem?_setIfInBounds_ne → zb3
open _root_.Int renaming natCast_zero → zaI, toNat_natCast → zbo
section
open Go
variable {β : Type} (p : Pr β)
noncomputable def Rh (p : Pr β) (n : Nat)  (k : KO β) : Nat → AV → AV → AV → KO β
 | 0, _, _, _, _, _ => none
 | m + 1, t1, t3, t4, t7, H => p.fadr 23 t1 fun t183 =>
   p.load false 1 t183 H fun t184 =>
   p.len t184 fun t185 =>
   p.bin .lss t7 t185 fun t186 =>
   p.cond t186
   (p.fadr 23 t1 fun t190 =>
   p.load false 1 t190 H fun t191 =>
   p.iadr 1 t191 t7 fun t193 =>
   p.load false 1 t193 H fun t194 =>
   p.ca 22 93 [t4, t194] H fun t195 H =>
   p.bin .add t7 (si 1) fun t188 =>
   Rh p n  k m t1 t3 t195 t188 H)
   (p.cvI .u8 t3 fun t197 =>
   p.fill [(su 0)] [(0, 1, t197)] fun ct198 => p.newSl 1 1 ct198 true H fun t198 H =>
   p.len t4 fun t200 =>
   p.ca 22 97 [t198, t200] H fun t201 H =>
   p.app 1 1 t201 t4 H fun t203 H =>
   k t203 H)
noncomputable def Ok (p : Pr β) (n : Nat)  (k : KO β) : Nat → AV → AV → AV → KO β
 | 0, _, _, _, _, _ => none
 | m + 1, t1, t3, t4, t6, H => p.fadr 24 t1 fun t167 =>
   p.load false 1 t167 H fun t168 =>
   p.len t168 fun t169 =>
   p.bin .lss t6 t169 fun t170 =>
   p.cond t170
   (p.fadr 24 t1 fun t174 =>
   p.load false 1 t174 H fun t175 =>
   p.iadr 1 t175 t6 fun t177 =>
   p.load false 1 t177 H fun t178 =>
   p.cvI .u8 t178 fun t179 =>
   p.fill [(su 0)] [(0, 1, t179)] fun ct180 => p.newSl 1 1 ct180 true H fun t180 H =>
   p.app 1 1 t4 t180 H fun t181 H =>
   p.bin .add t6 (si 1) fun t172 =>
   Ok p n  k m t1 t3 t181 t172 H)
   (Rh p n  k n t1 t3 t4 i0 H)
noncomputable def Oj (p : Pr β) (n : Nat)  (k : KO β) : Nat → AV → AV → AV → KO β
 | 0, _, _, _, _, _ => none
 | m + 1, t1, t3, t4, t5, H => p.fadr 22 t1 fun t143 =>
   p.load false 1 t143 H fun t144 =>
   p.len t144 fun t145 =>
   p.bin .lss t5 t145 fun t146 =>
   p.cond t146
   (p.fadr 22 t1 fun t150 =>
   p.load false 1 t150 H fun t151 =>
   p.iadr 2 t151 t5 fun t153 =>
   p.fl 0 t153 1 H fun t155 =>
   p.fl 22 t1 1 H fun t158 =>
   p.iadr 2 t158 t5 fun t160 =>
   p.fl 1 t160 1 H fun t162 =>
   p.cvI .u8 t162 fun t163 =>
   E1 (fun (t1 t3 t4 t5 : AV) (H : Ac) => p.bin .add t5 (si 1) fun t148 =>
   Oj p n  k m t1 t3 t4 t148 H) fun j1 =>
   p.both
   (p.ca 22 93 [t4, t155] H fun t156 H =>
   p.fill [(su 0)] [(0, 1, t163)] fun ct164 => p.newSl 1 1 ct164 true H fun t164 H =>
   p.app 1 1 t156 t164 H fun t165 H =>
   j1 t1 t3 t165 t5 H)
   (p.fill [(su 0)] [(0, 1, t163)] fun ct164 => p.newSl 1 1 ct164 true H fun t164 H =>
   p.ca 22 93 [t4, t155] H fun t156 H =>
   p.app 1 1 t156 t164 H fun t165 H =>
   j1 t1 t3 t165 t5 H))
   (Ok p n  k n t1 t3 t4 i0 H)
noncomputable def f66 (n : Nat) (a0 : AV) (H : Ac) (k : KO β) : Option β :=
 p.box a0 H fun t1 H =>
 p.load true 25 t1 H fun t8 =>
 p.ca 4 64 [t8] H fun t9 H =>
 p.un .not t9 fun t10 =>
 p.cond t10
 (k .nl H)
 (p.fadr 0 t1 fun t12 =>
 p.load false 1 t12 H fun t13 =>
 p.bin .mul (si 16) t13 fun t14 =>
 p.fl 0 t1 1 H fun t17 =>
 p.bin .eql t17 (si 1) fun t19 =>
 E1 (fun (t1 t3 t4 : AV) (H : Ac) => p.fadr 0 t1 fun t130 =>
 p.load false 1 t130 H fun t131 =>
 p.bin .neq t131 (si 3) fun t132 =>
 p.lT t132 H 4 t1 1 fun t135 H =>
 p.gT t132 H (p.bin .gtr t135 i0) fun t136 H =>
 p.pick t132 t136 bF fun t137 =>
 E1 (fun (t1 t3 t4 : AV) (H : Ac) => Oj p n  k n t1 t3 t4 i0 H) fun j2 =>
 p.cond t137
 (p.fadr 4 t1 fun t139 =>
 p.load false 1 t139 H fun t140 =>
 p.ca 22 95 [t4, t140] H fun t141 H =>
 j2 t1 t3 t141 H)
 (j2 t1 t3 t4 H)) fun j1 =>
 p.cond t19
 (p.fadr 8 t1 fun t22 =>
 p.load false 1 t22 H fun t23 =>
 p.cvI .u8 t23 fun t24 =>
 E1 (fun (t1 t3 t4 : AV) (H : Ac) => p.fadr 9 t1 fun t28 =>
 p.load false 1 t28 H fun t29 =>
 p.fl 11 t1 1 H fun t32 =>
 p.fl 14 t1 1 H fun t36 =>
 p.bin .mul (si 8) t36 fun t37 =>
 p.fl 15 t1 1 H fun t40 =>
 p.fl 18 t1 1 H fun t44 =>
 p.fl 16 t1 1 H fun t48 =>
 p.ca 3 94 [t29, (si 2)] H fun t30 H =>
 p.ca 3 94 [t32, (si 4)] H fun t33 H =>
 p.bin .add t30 t33 fun t34 =>
 p.bin .add t34 t37 fun t38 =>
 p.ca 3 94 [t40, (si 32)] H fun t41 H =>
 p.bin .add t38 t41 fun t42 =>
 p.ca 3 94 [t44, (si 64)] H fun t45 H =>
 p.bin .add t42 t45 fun t46 =>
 p.ca 3 94 [t48, (si 128)] H fun t49 H =>
 p.bin .add t46 t49 fun t50 =>
 p.cvI .u8 t50 fun t51 =>
 p.fill [(su 0)] [(0, 1, t51)] fun ct52 => p.newSl 1 1 ct52 true H fun t52 H =>
 p.app 1 1 t4 t52 H fun t53 H =>
 p.fl 10 t1 1 H fun t56 =>
 p.fl 7 t1 1 H fun t59 =>
 p.ca 22 95 [t53, t56] H fun t57 H =>
 p.ca 22 93 [t57, t59] H fun t60 H =>
 p.fl 11 t1 1 H fun t62 =>
 E1 (fun (t1 t3 t4 : AV) (H : Ac) => p.fadr 16 t1 fun t70 =>
 p.load false 1 t70 H fun t71 =>
 E1 (fun (t1 t3 t4 : AV) (H : Ac) => p.fadr 18 t1 fun t76 =>
 p.load false 1 t76 H fun t77 =>
 p.cond t77
 (p.fadr 19 t1 fun t79 =>
 p.load false 1 t79 H fun t80 =>
 p.ca 22 96 [t4, t80] H fun t81 H =>
 j1 t1 t3 t81 H)
 (j1 t1 t3 t4 H)) fun j5 =>
 p.cond t71
 (p.fadr 17 t1 fun t73 =>
 p.load false 1 t73 H fun t74 =>
 p.ca 22 93 [t4, t74] H fun t75 H =>
 j5 t1 t3 t75 H)
 (j5 t1 t3 t4 H)) fun j4 =>
 p.cond t62
 (p.fadr 12 t1 fun t64 =>
 p.load false 1 t64 H fun t65 =>
 p.fl 13 t1 1 H fun t68 =>
 p.ca 22 93 [t60, t65] H fun t66 H =>
 p.ca 22 96 [t66, t68] H fun t69 H =>
 j4 t1 t3 t69 H)
 (j4 t1 t3 t60 H)) fun j3 =>
 p.both
 (p.ca 22 93 [.nl, (.sc (.string ⟨#[77, 81, 84, 84]⟩))] H fun t21 H =>
 p.fill [(su 0)] [(0, 1, t24)] fun ct25 => p.newSl 1 1 ct25 true H fun t25 H =>
 p.app 1 1 t21 t25 H fun t26 H =>
 j3 t1 t14 t26 H)
 (p.fill [(su 0)] [(0, 1, t24)] fun ct25 => p.newSl 1 1 ct25 true H fun t25 H =>
 p.ca 22 93 [.nl, (.sc (.string ⟨#[77, 81, 84, 84]⟩))] H fun t21 H =>
 p.app 1 1 t21 t25 H fun t26 H =>
 j3 t1 t14 t26 H))
 (p.bin .eql t17 (si 2) fun t83 =>
 p.cond t83
 (p.fadr 21 t1 fun t85 =>
 p.load false 1 t85 H fun t86 =>
 p.fl 20 t1 1 H fun t90 =>
 p.cvI .u8 t90 fun t91 =>
 p.ca 3 94 [t86, (si 1)] H fun t87 H =>
 p.cvI .u8 t87 fun t88 =>
 p.fill [(su 0), (su 0)] [(0, 1, t88), (1, 1, t91)] fun ct92 => p.newSl 2 1 ct92 true H fun t92 H =>
 p.app 1 1 .nl t92 H fun t93 H =>
 j1 t1 t14 t93 H)
 (p.bin .eql t17 (si 3) fun t95 =>
 p.cond t95
 (p.fadr 1 t1 fun t97 =>
 p.load false 1 t97 H fun t98 =>
 p.fl 2 t1 1 H fun t102 =>
 p.bin .mul (si 2) t102 fun t103 =>
 p.fl 3 t1 1 H fun t106 =>
 p.ca 3 94 [t98, (si 8)] H fun t99 H =>
 p.bin .add t14 t99 fun t100 =>
 p.bin .add t100 t103 fun t104 =>
 p.ca 3 94 [t106, (si 1)] H fun t107 H =>
 p.bin .add t104 t107 fun t108 =>
 p.fl 5 t1 1 H fun t111 =>
 p.ca 22 93 [.nl, t111] H fun t112 H =>
 p.fl 2 t1 1 H fun t114 =>
 p.bin .gtr t114 i0 fun t115 =>
 E1 (fun (t1 t3 t4 : AV) (H : Ac) => p.fadr 6 t1 fun t121 =>
 p.load false 1 t121 H fun t122 =>
 p.app 1 1 t4 t122 H fun t123 H =>
 j1 t1 t3 t123 H) fun j6 =>
 p.cond t115
 (p.fadr 4 t1 fun t117 =>
 p.load false 1 t117 H fun t118 =>
 p.ca 22 95 [t112, t118] H fun t119 H =>
 j6 t1 t108 t119 H)
 (j6 t1 t108 t112 H))
 (p.bin .eql t17 (si 6) fun t125 =>
 E1 (fun (t1 t3 t4 t124 : AV) (H : Ac) => p.cond t124
 (p.bin .add t3 (si 2) fun t129 =>
 j1 t1 t129 t4 H)
 (j1 t1 t3 t4 H)) fun j7 =>
 p.cond t125
 (j7 t1 t14 .nl t125 H)
 (p.bin .eql t17 (si 8) fun t126 =>
 p.cond t126
 (j7 t1 t14 .nl t126 H)
 (p.bin .eql t17 (si 10) fun t127 =>
 j7 t1 t14 .nl t127 H))))))
noncomputable def Agd (p : Pr β) (n : Nat)  (k : KO β) (m : Nat) (tm : Tm) (H : Ac) : Option β :=
 Dw 204 (fun tm H k => Ak As p o66 204 n (cd c66 [1, 1, 1, 1, 1, 1, 1, 1, 0, 1, 0, 0]) tm H k) (Ez 5 (Eg (fun tm H => Ak As p o66 204 n (cd c66 [1, 1, 1, 1, 1, 1, 1, 1, 1]) tm H (Cp As p fi66.results k)) (Cp As p fi66.results k))) m tm H
noncomputable def Agc (p : Pr β) (n : Nat)  (k : KO β) (m : Nat) (tm : Tm) (H : Ac) : Option β :=
 Dw 204 (fun tm H k => Ak As p o66 204 n (cd c66 [1, 1, 1, 1, 1, 1, 1, 0, 1, 0, 0]) tm H k) (Ez 3 (Eg (fun tm H => Ak As p o66 204 n (cd c66 [1, 1, 1, 1, 1, 1, 1, 1]) tm H (Cp As p fi66.results k)) (Cp As p fi66.results k))) m tm H
noncomputable def Agb (p : Pr β) (n : Nat)  (k : KO β) (m : Nat) (tm : Tm) (H : Ac) : Option β :=
 Dw 204 (fun tm H k => Ak As p o66 204 n (cd c66 [1, 1, 1, 1, 1, 1, 0, 1, 0, 0]) tm H k) (Ez 1 (Eg (fun tm H => Ak As p o66 204 n (cd c66 [1, 1, 1, 1, 1, 1, 1]) tm H (Cp As p fi66.results k)) (Cp As p fi66.results k))) m tm H
theorem X6 (p : Pr β) (n : Nat)  (k : KO β) (m2 : Nat) : ∀ (t : Nat → AV) (H : Ac), Agd p n  k m2 (tf 204 0 t) H = Rh p n  k m2 (t 1) (t 3) (t 4) (t 7) H := by
 induction m2 with
 | zero => intros; rfl
 | succ m2 ih =>
  intro t H
  refine Eq.trans (Bq (nt := 204) (m := m2) (g := fun t H => Rh p n  k m2 (t 1) (t 3) (t 4) (t 7) H) ih rfl) ?_
  kernel_rfl
theorem Aa1 (p : Pr β) (n : Nat)  (k : KO β) (m1 : Nat) (t : Nat → AV) (H : Ac) : Ak As p o66 204 n (cd c66 [1, 1, 1, 1, 1, 1, 1, 0, 1, 0, 0]) (tf 204 0 t) H (Eg (fun tm H => Ok p n  k m1 (gt tm 1) (gt tm 3) (gt tm 4) (gt tm 6) H) (Ez 3 (Eg (fun tm H => Ak As p o66 204 n (cd c66 [1, 1, 1, 1, 1, 1, 1, 1]) tm H (Cp As p fi66.results k)) (Cp As p fi66.results k)))) =
 p.fadr 24 (t 1) fun t167 =>
 p.load false 1 t167 H fun t168 =>
 p.len t168 fun t169 =>
 p.bin .lss (t 6) t169 fun t170 =>
 p.cond t170
 (p.fadr 24 (t 1) fun t174 =>
 p.load false 1 t174 H fun t175 =>
 p.iadr 1 t175 (t 6) fun t177 =>
 p.load false 1 t177 H fun t178 =>
 p.cvI .u8 t178 fun t179 =>
 p.fill [(su 0)] [(0, 1, t179)] fun ct180 => p.newSl 1 1 ct180 true H fun t180 H =>
 p.app 1 1 (t 4) t180 H fun t181 H =>
 p.bin .add (t 6) (si 1) fun t172 =>
 Ok p n  k m1 (t 1) (t 3) t181 t172 H)
 (Agd p n  k n (tf 204 0 (ud [(7, i0), (166, (t 6)), (167, t167), (168, t168), (169, t169), (170, t170)] t)) H) := by kernel_rfl
theorem X3 (p : Pr β) (n : Nat)  (k : KO β) (m1 : Nat) : ∀ (t : Nat → AV) (H : Ac), Agc p n  k m1 (tf 204 0 t) H = Ok p n  k m1 (t 1) (t 3) (t 4) (t 6) H := by
 induction m1 with
 | zero => intros; rfl
 | succ m1 ih =>
  intro t H
  refine Eq.trans (Bq (nt := 204) (m := m1) (g := fun t H => Ok p n  k m1 (t 1) (t 3) (t 4) (t 6) H) ih rfl) ?_
  refine Eq.trans (Aa1 p n  k m1 t H) ?_
  simp only [X6]
  kernel_rfl
theorem Aa0 (p : Pr β) (n : Nat)  (k : KO β) (m0 : Nat) (t : Nat → AV) (H : Ac) : Ak As p o66 204 n (cd c66 [1, 1, 1, 1, 1, 1, 0, 1, 0, 0]) (tf 204 0 t) H (Eg (fun tm H => Oj p n  k m0 (gt tm 1) (gt tm 3) (gt tm 4) (gt tm 5) H) (Ez 1 (Eg (fun tm H => Ak As p o66 204 n (cd c66 [1, 1, 1, 1, 1, 1, 1]) tm H (Cp As p fi66.results k)) (Cp As p fi66.results k)))) =
 p.fadr 22 (t 1) fun t143 =>
 p.load false 1 t143 H fun t144 =>
 p.len t144 fun t145 =>
 p.bin .lss (t 5) t145 fun t146 =>
 p.cond t146
 (p.fadr 22 (t 1) fun t150 =>
 p.load false 1 t150 H fun t151 =>
 p.iadr 2 t151 (t 5) fun t153 =>
 p.fadr 0 t153 fun t154 =>
 p.load false 1 t154 H fun t155 =>
 p.fadr 22 (t 1) fun t157 =>
 p.load false 1 t157 H fun t158 =>
 p.iadr 2 t158 (t 5) fun t160 =>
 p.fadr 1 t160 fun t161 =>
 p.load false 1 t161 H fun t162 =>
 p.cvI .u8 t162 fun t163 =>
 E1 (fun (t : Nat → AV) (H : Ac) => p.bin .add (t 5) (si 1) fun t148 =>
 Oj p n  k m0 (t 1) (t 3) (t 4) t148 H) fun j1 =>
 p.both
 (p.call 22 (.fn 93 [] []) [(t 4), t155] H fun t156 H =>
 p.fill [(su 0)] [(0, 1, t163)] fun ct164 => p.newSl 1 1 ct164 true H fun t164 H =>
 p.app 1 1 t156 t164 H fun t165 H =>
 j1 (ud [(4, t165), (142, (t 5)), (143, t143), (144, t144), (145, t145), (146, t146), (149, (t 4)), (150, t150), (151, t151), (152, (t 5)), (153, t153), (154, t154), (155, t155), (156, t156), (157, t157), (158, t158), (159, (t 5)), (160, t160), (161, t161), (162, t162), (163, t163), (164, t164), (165, t165)] t) H)
 (p.fill [(su 0)] [(0, 1, t163)] fun ct164 => p.newSl 1 1 ct164 true H fun t164 H =>
 p.call 22 (.fn 93 [] []) [(t 4), t155] H fun t156 H =>
 p.app 1 1 t156 t164 H fun t165 H =>
 j1 (ud [(4, t165), (142, (t 5)), (143, t143), (144, t144), (145, t145), (146, t146), (149, (t 4)), (150, t150), (151, t151), (152, (t 5)), (153, t153), (154, t154), (155, t155), (156, t156), (157, t157), (158, t158), (159, (t 5)), (160, t160), (161, t161), (162, t162), (163, t163), (164, t164), (165, t165)] t) H))
 (Agc p n  k n (tf 204 0 (ud [(6, i0), (142, (t 5)), (143, t143), (144, t144), (145, t145), (146, t146)] t)) H) := by kernel_rfl
theorem Aet (p : Pr β) (n : Nat)  (k : KO β) (m0 : Nat) : ∀ (t : Nat → AV) (H : Ac), Agb p n  k m0 (tf 204 0 t) H = Oj p n  k m0 (t 1) (t 3) (t 4) (t 5) H := by
 induction m0 with
 | zero => intros; rfl
 | succ m0 ih =>
  intro t H
  refine Eq.trans (Bq (nt := 204) (m := m0) (g := fun t H => Oj p n  k m0 (t 1) (t 3) (t 4) (t 5) H) ih rfl) ?_
  refine Eq.trans (Aa0 p n  k m0 t H) ?_
  simp only [X3]
  kernel_rfl
theorem Aji (p : Pr β) (n : Nat) (a0 : AV) (H : Ac) (k : KO β) : Cj As p n fi66 [a0] H k =
 p.box a0 H fun t1 H =>
 p.load true 25 t1 H fun t8 =>
 p.call 4 (.fn 64 [] []) [t8] H fun t9 H =>
 p.un .not t9 fun t10 =>
 p.cond t10
 (k .nl H)
 (p.fadr 0 t1 fun t12 =>
 p.load false 1 t12 H fun t13 =>
 p.bin .mul (si 16) t13 fun t14 =>
 p.fadr 0 t1 fun t16 =>
 p.load false 1 t16 H fun t17 =>
 p.bin .eql t17 (si 1) fun t19 =>
 E1 (fun (t : Nat → AV) (H : Ac) => p.fadr 0 (t 1) fun t130 =>
 p.load false 1 t130 H fun t131 =>
 p.bin .neq t131 (si 3) fun t132 =>
 p.gT t132 H (p.fadr 4 (t 1)) fun t134 H =>
 p.gT t132 H (p.load false 1 t134 H) fun t135 H =>
 p.gT t132 H (p.bin .gtr t135 i0) fun t136 H =>
 p.pick t132 t136 bF fun t137 =>
 E1 (fun (t : Nat → AV) (H : Ac) => Agb p n  k n (tf 204 0 (ud [(5, i0)] t)) H) fun j2 =>
 p.cond t137
 (p.fadr 4 (t 1) fun t139 =>
 p.load false 1 t139 H fun t140 =>
 p.call 22 (.fn 95 [] []) [(t 4), t140] H fun t141 H =>
 j2 (ud [(4, t141), (130, t130), (131, t131), (132, t132), (133, t132), (134, t134), (135, t135), (136, t136), (137, t137), (138, (t 4)), (139, t139), (140, t140), (141, t141)] t) H)
 (j2 (ud [(130, t130), (131, t131), (132, t132), (133, t132), (134, t134), (135, t135), (136, t136), (137, t137)] t) H)) fun j1 =>
 p.cond t19
 (p.fadr 8 t1 fun t22 =>
 p.load false 1 t22 H fun t23 =>
 p.cvI .u8 t23 fun t24 =>
 E1 (fun (t : Nat → AV) (H : Ac) => p.fadr 9 (t 1) fun t28 =>
 p.load false 1 t28 H fun t29 =>
 p.fadr 11 (t 1) fun t31 =>
 p.load false 1 t31 H fun t32 =>
 p.fadr 14 (t 1) fun t35 =>
 p.load false 1 t35 H fun t36 =>
 p.bin .mul (si 8) t36 fun t37 =>
 p.fadr 15 (t 1) fun t39 =>
 p.load false 1 t39 H fun t40 =>
 p.fadr 18 (t 1) fun t43 =>
 p.load false 1 t43 H fun t44 =>
 p.fadr 16 (t 1) fun t47 =>
 p.load false 1 t47 H fun t48 =>
 p.call 3 (.fn 94 [] []) [t29, (si 2)] H fun t30 H =>
 p.call 3 (.fn 94 [] []) [t32, (si 4)] H fun t33 H =>
 p.bin .add t30 t33 fun t34 =>
 p.bin .add t34 t37 fun t38 =>
 p.call 3 (.fn 94 [] []) [t40, (si 32)] H fun t41 H =>
 p.bin .add t38 t41 fun t42 =>
 p.call 3 (.fn 94 [] []) [t44, (si 64)] H fun t45 H =>
 p.bin .add t42 t45 fun t46 =>
 p.call 3 (.fn 94 [] []) [t48, (si 128)] H fun t49 H =>
 p.bin .add t46 t49 fun t50 =>
 p.cvI .u8 t50 fun t51 =>
 p.fill [(su 0)] [(0, 1, t51)] fun ct52 => p.newSl 1 1 ct52 true H fun t52 H =>
 p.app 1 1 (t 4) t52 H fun t53 H =>
 p.fadr 10 (t 1) fun t55 =>
 p.load false 1 t55 H fun t56 =>
 p.fadr 7 (t 1) fun t58 =>
 p.load false 1 t58 H fun t59 =>
 p.call 22 (.fn 95 [] []) [t53, t56] H fun t57 H =>
 p.call 22 (.fn 93 [] []) [t57, t59] H fun t60 H =>
 p.fadr 11 (t 1) fun t61 =>
 p.load false 1 t61 H fun t62 =>
 E1 (fun (t : Nat → AV) (H : Ac) => p.fadr 16 (t 1) fun t70 =>
 p.load false 1 t70 H fun t71 =>
 E1 (fun (t : Nat → AV) (H : Ac) => p.fadr 18 (t 1) fun t76 =>
 p.load false 1 t76 H fun t77 =>
 p.cond t77
 (p.fadr 19 (t 1) fun t79 =>
 p.load false 1 t79 H fun t80 =>
 p.call 22 (.fn 96 [] []) [(t 4), t80] H fun t81 H =>
 j1 (ud [(4, t81), (76, t76), (77, t77), (78, (t 4)), (79, t79), (80, t80), (81, t81)] t) H)
 (j1 (ud [(76, t76), (77, t77)] t) H)) fun j5 =>
 p.cond t71
 (p.fadr 17 (t 1) fun t73 =>
 p.load false 1 t73 H fun t74 =>
 p.call 22 (.fn 93 [] []) [(t 4), t74] H fun t75 H =>
 j5 (ud [(4, t75), (70, t70), (71, t71), (72, (t 4)), (73, t73), (74, t74), (75, t75)] t) H)
 (j5 (ud [(70, t70), (71, t71)] t) H)) fun j4 =>
 p.cond t62
 (p.fadr 12 (t 1) fun t64 =>
 p.load false 1 t64 H fun t65 =>
 p.fadr 13 (t 1) fun t67 =>
 p.load false 1 t67 H fun t68 =>
 p.call 22 (.fn 93 [] []) [t60, t65] H fun t66 H =>
 p.call 22 (.fn 96 [] []) [t66, t68] H fun t69 H =>
 j4 (ud [(4, t69), (27, (t 4)), (28, t28), (29, t29), (30, t30), (31, t31), (32, t32), (33, t33), (34, t34), (35, t35), (36, t36), (37, t37), (38, t38), (39, t39), (40, t40), (41, t41), (42, t42), (43, t43), (44, t44), (45, t45), (46, t46), (47, t47), (48, t48), (49, t49), (50, t50), (51, t51), (52, t52), (53, t53), (54, t53), (55, t55), (56, t56), (57, t57), (58, t58), (59, t59), (60, t60), (61, t61), (62, t62), (63, t60), (64, t64), (65, t65), (66, t66), (67, t67), (68, t68), (69, t69)] t) H)
 (j4 (ud [(4, t60), (27, (t 4)), (28, t28), (29, t29), (30, t30), (31, t31), (32, t32), (33, t33), (34, t34), (35, t35), (36, t36), (37, t37), (38, t38), (39, t39), (40, t40), (41, t41), (42, t42), (43, t43), (44, t44), (45, t45), (46, t46), (47, t47), (48, t48), (49, t49), (50, t50), (51, t51), (52, t52), (53, t53), (54, t53), (55, t55), (56, t56), (57, t57), (58, t58), (59, t59), (60, t60), (61, t61), (62, t62)] t) H)) fun j3 =>
 p.both
 (p.call 22 (.fn 93 [] []) [.nl, (.sc (.string ⟨#[77, 81, 84, 84]⟩))] H fun t21 H =>
 p.fill [(su 0)] [(0, 1, t24)] fun ct25 => p.newSl 1 1 ct25 true H fun t25 H =>
 p.app 1 1 t21 t25 H fun t26 H =>
 j3 (ud [(0, a0), (1, t1), (2, .nl), (3, t14), (4, t26), (8, t8), (9, t9), (10, t10), (12, t12), (13, t13), (14, t14), (15, .nl), (16, t16), (17, t17), (18, t19), (19, t19), (20, .nl), (21, t21), (22, t22), (23, t23), (24, t24), (25, t25), (26, t26)] ut) H)
 (p.fill [(su 0)] [(0, 1, t24)] fun ct25 => p.newSl 1 1 ct25 true H fun t25 H =>
 p.call 22 (.fn 93 [] []) [.nl, (.sc (.string ⟨#[77, 81, 84, 84]⟩))] H fun t21 H =>
 p.app 1 1 t21 t25 H fun t26 H =>
 j3 (ud [(0, a0), (1, t1), (2, .nl), (3, t14), (4, t26), (8, t8), (9, t9), (10, t10), (12, t12), (13, t13), (14, t14), (15, .nl), (16, t16), (17, t17), (18, t19), (19, t19), (20, .nl), (21, t21), (22, t22), (23, t23), (24, t24), (25, t25), (26, t26)] ut) H))
 (p.bin .eql t17 (si 2) fun t83 =>
 p.cond t83
 (p.fadr 21 t1 fun t85 =>
 p.load false 1 t85 H fun t86 =>
 p.fadr 20 t1 fun t89 =>
 p.load false 1 t89 H fun t90 =>
 p.cvI .u8 t90 fun t91 =>
 p.call 3 (.fn 94 [] []) [t86, (si 1)] H fun t87 H =>
 p.cvI .u8 t87 fun t88 =>
 p.fill [(su 0), (su 0)] [(0, 1, t88), (1, 1, t91)] fun ct92 => p.newSl 2 1 ct92 true H fun t92 H =>
 p.app 1 1 .nl t92 H fun t93 H =>
 j1 (ud [(0, a0), (1, t1), (2, .nl), (3, t14), (4, t93), (8, t8), (9, t9), (10, t10), (12, t12), (13, t13), (14, t14), (15, .nl), (16, t16), (17, t17), (18, t19), (19, t19), (82, t83), (83, t83), (84, .nl), (85, t85), (86, t86), (87, t87), (88, t88), (89, t89), (90, t90), (91, t91), (92, t92), (93, t93)] ut) H)
 (p.bin .eql t17 (si 3) fun t95 =>
 p.cond t95
 (p.fadr 1 t1 fun t97 =>
 p.load false 1 t97 H fun t98 =>
 p.fadr 2 t1 fun t101 =>
 p.load false 1 t101 H fun t102 =>
 p.bin .mul (si 2) t102 fun t103 =>
 p.fadr 3 t1 fun t105 =>
 p.load false 1 t105 H fun t106 =>
 p.call 3 (.fn 94 [] []) [t98, (si 8)] H fun t99 H =>
 p.bin .add t14 t99 fun t100 =>
 p.bin .add t100 t103 fun t104 =>
 p.call 3 (.fn 94 [] []) [t106, (si 1)] H fun t107 H =>
 p.bin .add t104 t107 fun t108 =>
 p.fadr 5 t1 fun t110 =>
 p.load false 1 t110 H fun t111 =>
 p.call 22 (.fn 93 [] []) [.nl, t111] H fun t112 H =>
 p.fadr 2 t1 fun t113 =>
 p.load false 1 t113 H fun t114 =>
 p.bin .gtr t114 i0 fun t115 =>
 E1 (fun (t : Nat → AV) (H : Ac) => p.fadr 6 (t 1) fun t121 =>
 p.load false 1 t121 H fun t122 =>
 p.app 1 1 (t 4) t122 H fun t123 H =>
 j1 (ud [(4, t123), (120, (t 4)), (121, t121), (122, t122), (123, t123)] t) H) fun j6 =>
 p.cond t115
 (p.fadr 4 t1 fun t117 =>
 p.load false 1 t117 H fun t118 =>
 p.call 22 (.fn 95 [] []) [t112, t118] H fun t119 H =>
 j6 (ud [(0, a0), (1, t1), (2, .nl), (3, t108), (4, t119), (8, t8), (9, t9), (10, t10), (12, t12), (13, t13), (14, t14), (15, .nl), (16, t16), (17, t17), (18, t19), (19, t19), (82, t83), (83, t83), (94, t95), (95, t95), (96, t14), (97, t97), (98, t98), (99, t99), (100, t100), (101, t101), (102, t102), (103, t103), (104, t104), (105, t105), (106, t106), (107, t107), (108, t108), (109, .nl), (110, t110), (111, t111), (112, t112), (113, t113), (114, t114), (115, t115), (116, t112), (117, t117), (118, t118), (119, t119)] ut) H)
 (j6 (ud [(0, a0), (1, t1), (2, .nl), (3, t108), (4, t112), (8, t8), (9, t9), (10, t10), (12, t12), (13, t13), (14, t14), (15, .nl), (16, t16), (17, t17), (18, t19), (19, t19), (82, t83), (83, t83), (94, t95), (95, t95), (96, t14), (97, t97), (98, t98), (99, t99), (100, t100), (101, t101), (102, t102), (103, t103), (104, t104), (105, t105), (106, t106), (107, t107), (108, t108), (109, .nl), (110, t110), (111, t111), (112, t112), (113, t113), (114, t114), (115, t115)] ut) H))
 (p.bin .eql t17 (si 6) fun t125 =>
 E1 (fun (t : Nat → AV) (H : Ac) => p.cond (t 124)
 (p.bin .add (t 3) (si 2) fun t129 =>
 j1 (ud [(3, t129), (128, (t 3)), (129, t129)] t) H)
 (j1 t H)) fun j7 =>
 p.cond t125
 (j7 (ud [(0, a0), (1, t1), (2, .nl), (3, t14), (4, .nl), (8, t8), (9, t9), (10, t10), (12, t12), (13, t13), (14, t14), (15, .nl), (16, t16), (17, t17), (18, t19), (19, t19), (82, t83), (83, t83), (94, t95), (95, t95), (124, t125), (125, t125)] ut) H)
 (p.bin .eql t17 (si 8) fun t126 =>
 p.cond t126
 (j7 (ud [(0, a0), (1, t1), (2, .nl), (3, t14), (4, .nl), (8, t8), (9, t9), (10, t10), (12, t12), (13, t13), (14, t14), (15, .nl), (16, t16), (17, t17), (18, t19), (19, t19), (82, t83), (83, t83), (94, t95), (95, t95), (124, t126), (125, t125), (126, t126)] ut) H)
 (p.bin .eql t17 (si 10) fun t127 =>
 j7 (ud [(0, a0), (1, t1), (2, .nl), (3, t14), (4, .nl), (8, t8), (9, t9), (10, t10), (12, t12), (13, t13), (14, t14), (15, .nl), (16, t16), (17, t17), (18, t19), (19, t19), (82, t83), (83, t83), (94, t95), (95, t95), (124, t127), (125, t125), (126, t126), (127, t127)] ut) H)))))) := by kernel_rfl
theorem Age : Kv fi66 @f66 := fun p n a0 H k => by
 rw [Aji]
 simp only [X6, X3, Aet]
 kernel_rfl
noncomputable def f31 (n : Nat) (a0 : AV) (H : Ac) (k : KO β) : Option β :=
 p.new Ep H fun t2 H =>
 p.len a0 fun t10 =>
 p.bin .eql t10 i0 fun t11 =>
 p.cond t11
 (p.fill Ep [] fun ct12 =>
 p.store 25 t2 (.agg ct12) H fun H =>
 p.load true 25 t2 H fun r0 =>
 k (Dk [r0, i0, (si 1)]) H)
 (p.iadr 1 a0 i0 fun t14 =>
 p.load false 1 t14 H fun t15 =>
 p.cvI .i64 t15 fun t16 =>
 p.ca 4 61 [t16] H fun t17 H =>
 p.un .not t17 fun t18 =>
 p.cond t18
 (p.fill Ep [] fun ct19 =>
 p.store 25 t2 (.agg ct19) H fun H =>
 p.load true 25 t2 H fun r0 =>
 k (Dk [r0, i0, (si 2)]) H)
 (p.ca 85 62 [a0, (si 1)] H fun t22 H =>
 p.extr t22 0 fun t23 =>
 p.extr t22 1 fun t24 =>
 p.extr t22 2 fun t25 =>
 p.bin .neq t25 i0 fun t27 =>
 p.cond t27
 (p.fill Ep [] fun ct28 =>
 p.store 25 t2 (.agg ct28) H fun H =>
 p.load true 25 t2 H fun r0 =>
 k (Dk [r0, i0, t25]) H)
 (p.bin .gtr t23 (si 340) fun t31 =>
 p.cond t31
 (p.fill Ep [] fun ct32 =>
 p.store 25 t2 (.agg ct32) H fun H =>
 p.load true 25 t2 H fun r0 =>
 k (Dk [r0, i0, (si 2)]) H)
 (p.len a0 fun t35 =>
 p.bin .sub t35 t24 fun t37 =>
 p.bin .gtr t23 t37 fun t38 =>
 p.cond t38
 (p.fill Ep [] fun ct39 =>
 p.store 25 t2 (.agg ct39) H fun H =>
 p.load true 25 t2 H fun r0 =>
 k (Dk [r0, i0, (si 1)]) H)
 (p.iadr 1 a0 i0 fun t41 =>
 p.load false 1 t41 H fun t42 =>
 p.cvI .i64 t42 fun t43 =>
 p.bin .add t24 t23 fun t48 =>
 p.slice 1 a0 (some t24) (some t48) fun t49 =>
 E1 (fun (t0 t2 t5 t6 t8 : AV) (H : Ac) => p.load true 25 t8 H fun t51 =>
 p.ca 4 64 [t51] H fun t52 H =>
 p.un .not t52 fun t53 =>
 p.gF t53 H (p.load true 25 t8 H) fun t55 H =>
 p.kF t53 H t0 fun t57 H =>
 p.kF t53 H t6 fun t58 H =>
 p.kF t53 H t5 fun t59 H =>
 p.gF t53 H (p.bin .add t58 t59) fun t60 H =>
 p.gF t53 H (p.slice 1 t57 none (some t60)) fun t61 H =>
 p.hF t53 H (p.ca 22 66 [t55] H) fun t56 H =>
 p.hF t53 H (p.ca 4 65 [t56, t61] H) fun t62 H =>
 p.gF t53 H (p.un .not t62) fun t63 H =>
 p.pick t53 bT t63 fun t64 =>
 p.cond t64
 (p.fill Ep [] fun ct65 =>
 p.store 25 t2 (.agg ct65) H fun H =>
 p.load true 25 t2 H fun r0 =>
 k (Dk [r0, i0, (si 2)]) H)
 (p.load true 25 t8 H fun t66 =>
 p.bin .add t6 t5 fun t69 =>
 p.store 25 t2 t66 H fun H =>
 p.load true 25 t2 H fun r0 =>
 k (Dk [r0, t69, i0]) H)) fun j1 =>
 p.both
 (p.ca 59 63 [t43, t49] H fun t50 H =>
 p.new Ep H fun t8 H =>
 p.store 25 t8 t50 H fun H =>
 j1 a0 t2 t23 t24 t8 H)
 (p.new Ep H fun t8 H =>
 p.ca 59 63 [t43, t49] H fun t50 H =>
 p.store 25 t8 t50 H fun H =>
 j1 a0 t2 t23 t24 t8 H))))))
theorem AfB : Kv AmW @f31 := fun p n a0 H k => by kernel_rfl
noncomputable def f29 (n : Nat) (a0 : AV) (H : Ac) (k : KO β) : Option β :=
 p.box a0 H fun t1 H =>
 p.fl 0 t1 1 H fun t7 =>
 p.len t7 fun t8 =>
 p.bin .eql t8 i0 fun t9 =>
 p.cond t9
 (k bT H)
 (p.fadr 0 t1 fun t11 =>
 p.load false 1 t11 H fun t12 =>
 p.ca 60 31 [t12] H fun t13 H =>
 p.extr t13 0 fun t14 =>
 p.extr t13 1 fun t15 =>
 p.extr t13 2 fun t16 =>
 p.new Ep H fun t3 H =>
 p.store 25 t3 t14 H fun H =>
 p.bin .eql t16 (si 1) fun t18 =>
 p.lT t18 H 1 t1 1 fun t21 H =>
 p.gT t18 H (p.un .not t21) fun t22 H =>
 p.pick t18 t22 bF fun t23 =>
 k t23 H)
theorem Af9 : Kv AmU @f29 := fun p n a0 H k => by kernel_rfl
noncomputable def f79 (n : Nat) (a0 : AV) (H : Ac) (k : KO β) : Option β :=
 p.box a0 H fun t1 H =>
 p.fadr 0 t1 fun t3 =>
 p.load false 1 t3 H fun t4 =>
 p.call 4 (.fn 91 [] []) [t4] H fun t5 H =>
 p.gT t5 H (p.fadr 1 t1) fun t7 H =>
 p.gT t5 H (p.load false 1 t7 H) fun t8 H =>
 p.gT t5 H (p.len t8) fun t9 H =>
 p.gT t5 H (p.bin .leq t9 (si 40)) fun t10 H =>
 p.pick t5 t10 bF fun t11 =>
 p.gT t11 H (p.fadr 2 t1) fun t13 H =>
 p.gT t11 H (p.load false 1 t13 H) fun t14 H =>
 p.hT t11 H (p.call 4 (.fn 81 [] []) [t14, i0, (si 2)] H) fun t15 H =>
 p.pick t11 t15 bF fun t16 =>
 k t16 H
theorem Agw : Kv Anl @f79 := fun p n a0 H k => by kernel_rfl
noncomputable def Re (p : Pr β) (n : Nat)  (k : KO β) : Nat → AV → KO β
 | 0, _, _, _ => none
 | m + 1, t1, t3, H => p.fadr 4 t1 fun t71 =>
   p.load false 1 t71 H fun t72 =>
   p.len t72 fun t73 =>
   p.bin .lss t3 t73 fun t74 =>
   p.cond t74
   (p.fadr 4 t1 fun t77 =>
   p.load false 1 t77 H fun t78 =>
   p.iadr 25 t78 t3 fun t80 =>
   p.load true 25 t80 H fun t81 =>
   p.ca 4 64 [t81] H fun t82 H =>
   p.un .not t82 fun t83 =>
   p.cond t83
   (k bF H)
   (p.bin .add t3 (si 1) fun t76 =>
   Re p n  k m t1 t76 H))
   (p.fadr 1 t1 fun t84 =>
   p.load false 1 t84 H fun t85 =>
   p.bin .lss t85 (si 1) fun t86 =>
   p.gF t86 H (p.fadr 2 t1) fun t88 H =>
   p.gF t86 H (p.load true 2 t88 H) fun t89 H =>
   p.hF t86 H (p.ca 4 29 [t89] H) fun t90 H =>
   p.gF t86 H (p.un .not t90) fun t91 H =>
   p.pick t86 bT t91 fun t92 =>
   p.lF t92 H 4 t1 1 fun t95 H =>
   p.gF t92 H (p.len t95) fun t96 H =>
   p.gF t92 H (p.bin .gtr t96 (si 6)) fun t97 H =>
   p.pick t92 bT t97 fun t98 =>
   p.lF t98 H 8 t1 1 fun t101 H =>
   p.gF t98 H (p.bin .lss t101 i0) fun t102 H =>
   p.pick t98 bT t102 fun t103 =>
   p.cond t103
   (k bF H)
   (p.fadr 5 t1 fun t104 =>
   p.load false 1 t104 H fun t105 =>
   p.un .not t105 fun t106 =>
   p.cond t106
   (p.fadr 6 t1 fun t107 =>
   p.load false 1 t107 H fun t108 =>
   p.bin .eql t108 sE fun t109 =>
   p.lT t109 H 7 t1 1 fun t112 H =>
   p.gT t109 H (p.bin .eql t112 i0) fun t113 H =>
   p.pick t109 t113 bF fun t114 =>
   p.lT t114 H 9 t1 1 fun t117 H =>
   p.gT t114 H (p.un .not t117) fun t118 H =>
   p.pick t114 t118 bF fun t119 =>
   p.gT t119 H (p.fadr 10 t1) fun t121 H =>
   p.gT t119 H (p.load true 4 t121 H) fun t122 H =>
   p.hT t119 H (p.ca 4 78 [t122] H) fun t123 H =>
   p.pick t119 t123 bF fun t124 =>
   k t124 H)
   (p.fadr 9 t1 fun t125 =>
   p.load false 1 t125 H fun t126 =>
   p.gT t126 H (p.fadr 10 t1) fun t128 H =>
   p.gT t126 H (p.load true 4 t128 H) fun t129 H =>
   p.hT t126 H (p.ca 4 79 [t129] H) fun t130 H =>
   p.gT t126 H (p.un .not t130) fun t131 H =>
   p.pick t126 t131 bF fun t132 =>
   p.lF t132 H 9 t1 1 fun t135 H =>
   p.gF t132 H (p.un .not t135) fun t136 H =>
   p.kF t132 H t136 fun t137 H =>
   p.gT t137 H (p.fadr 10 t1) fun t138 H =>
   p.gT t137 H (p.load true 4 t138 H) fun t139 H =>
   p.hT t137 H (p.ca 4 78 [t139] H) fun t140 H =>
   p.gT t137 H (p.un .not t140) fun t141 H =>
   p.gF t132 H (p.pick t137 t141 bF) fun t142 H =>
   p.pick t132 bT t142 fun t143 =>
   p.cond t143
   (k bF H)
   (p.fadr 6 t1 fun t144 =>
   p.load false 1 t144 H fun t145 =>
   p.ca 4 80 [t145] H fun t146 H =>
   p.lT t146 H 6 t1 1 fun t149 H =>
   p.gT t146 H (p.bin .neq t149 sE) fun t150 H =>
   p.pick t146 t150 bF fun t151 =>
   p.lT t151 H 7 t1 1 fun t154 H =>
   p.hT t151 H (p.ca 4 81 [t154, i0, (si 65535)] H) fun t155 H =>
   p.pick t151 t155 bF fun t156 =>
   k t156 H))))
noncomputable def f43 (n : Nat) (a0 : AV) (H : Ac) (k : KO β) : Option β :=
 p.box a0 H fun t1 H =>
 p.fl 0 t1 1 H fun t5 =>
 p.un .not t5 fun t6 =>
 p.cond t6
 (p.fadr 1 t1 fun t7 =>
 p.load false 1 t7 H fun t8 =>
 p.bin .eql t8 i0 fun t9 =>
 p.gT t9 H (p.fadr 2 t1) fun t11 H =>
 p.lT t9 H 0 t11 1 fun t13 H =>
 p.gT t9 H (p.len t13) fun t14 H =>
 p.gT t9 H (p.bin .eql t14 i0) fun t15 H =>
 p.pick t9 t15 bF fun t16 =>
 p.gT t16 H (p.fadr 2 t1) fun t18 H =>
 p.lT t16 H 1 t18 1 fun t20 H =>
 p.gT t16 H (p.un .not t20) fun t21 H =>
 p.pick t16 t21 bF fun t22 =>
 p.lT t22 H 4 t1 1 fun t25 H =>
 p.gT t22 H (p.len t25) fun t26 H =>
 p.gT t22 H (p.bin .eql t26 i0) fun t27 H =>
 p.pick t22 t27 bF fun t28 =>
 p.lT t28 H 5 t1 1 fun t31 H =>
 p.gT t28 H (p.un .not t31) fun t32 H =>
 p.pick t28 t32 bF fun t33 =>
 p.lT t33 H 6 t1 1 fun t36 H =>
 p.gT t33 H (p.bin .eql t36 sE) fun t37 H =>
 p.pick t33 t37 bF fun t38 =>
 p.lT t38 H 7 t1 1 fun t41 H =>
 p.gT t38 H (p.bin .eql t41 i0) fun t42 H =>
 p.pick t38 t42 bF fun t43 =>
 p.lT t43 H 8 t1 1 fun t46 H =>
 p.gT t43 H (p.bin .eql t46 i0) fun t47 H =>
 p.pick t43 t47 bF fun t48 =>
 p.lT t48 H 9 t1 1 fun t51 H =>
 p.gT t48 H (p.un .not t51) fun t52 H =>
 p.pick t48 t52 bF fun t53 =>
 p.gT t53 H (p.fadr 10 t1) fun t55 H =>
 p.gT t53 H (p.load true 4 t55 H) fun t56 H =>
 p.hT t53 H (p.ca 4 78 [t56] H) fun t57 H =>
 p.pick t53 t57 bF fun t58 =>
 p.lT t58 H 14 t1 1 fun t61 H =>
 p.gT t58 H (p.un .not t61) fun t62 H =>
 p.pick t58 t62 bF fun t63 =>
 p.lT t63 H 15 t1 1 fun t66 H =>
 p.gT t63 H (p.len t66) fun t67 H =>
 p.gT t63 H (p.bin .eql t67 i0) fun t68 H =>
 p.pick t63 t68 bF fun t69 =>
 k t69 H)
 (Re p n  k n t1 i0 H)
noncomputable def AfI (p : Pr β) (n : Nat)  (k : KO β) (m : Nat) (tm : Tm) (H : Ac) : Option β :=
 Dw 157 (fun tm H k => Ak As p [] 157 n (cd c43 [1, 1, 0, 1, 0, 0]) tm H k) (Ez 0 (Eg (fun tm H => Ak As p [] 157 n (cd c43 [1, 1, 1]) tm H (Cp As p fi43.results k)) (Cp As p fi43.results k))) m tm H
theorem Aek (p : Pr β) (n : Nat)  (k : KO β) (m0 : Nat) : ∀ (t : Nat → AV) (H : Ac), AfI p n  k m0 (tf 157 0 t) H = Re p n  k m0 (t 1) (t 3) H := by
 induction m0 with
 | zero => intros; rfl
 | succ m0 ih =>
  intro t H
  refine Eq.trans (Bq (nt := 157) (m := m0) (g := fun t H => Re p n  k m0 (t 1) (t 3) H) ih rfl) ?_
  kernel_rfl
theorem Ajb (p : Pr β) (n : Nat) (a0 : AV) (H : Ac) (k : KO β) : Cj As p n fi43 [a0] H k =
 p.box a0 H fun t1 H =>
 p.fadr 0 t1 fun t4 =>
 p.load false 1 t4 H fun t5 =>
 p.un .not t5 fun t6 =>
 p.cond t6
 (p.fadr 1 t1 fun t7 =>
 p.load false 1 t7 H fun t8 =>
 p.bin .eql t8 i0 fun t9 =>
 p.gT t9 H (p.fadr 2 t1) fun t11 H =>
 p.gT t9 H (p.fadr 0 t11) fun t12 H =>
 p.gT t9 H (p.load false 1 t12 H) fun t13 H =>
 p.gT t9 H (p.len t13) fun t14 H =>
 p.gT t9 H (p.bin .eql t14 i0) fun t15 H =>
 p.pick t9 t15 bF fun t16 =>
 p.gT t16 H (p.fadr 2 t1) fun t18 H =>
 p.gT t16 H (p.fadr 1 t18) fun t19 H =>
 p.gT t16 H (p.load false 1 t19 H) fun t20 H =>
 p.gT t16 H (p.un .not t20) fun t21 H =>
 p.pick t16 t21 bF fun t22 =>
 p.gT t22 H (p.fadr 4 t1) fun t24 H =>
 p.gT t22 H (p.load false 1 t24 H) fun t25 H =>
 p.gT t22 H (p.len t25) fun t26 H =>
 p.gT t22 H (p.bin .eql t26 i0) fun t27 H =>
 p.pick t22 t27 bF fun t28 =>
 p.gT t28 H (p.fadr 5 t1) fun t30 H =>
 p.gT t28 H (p.load false 1 t30 H) fun t31 H =>
 p.gT t28 H (p.un .not t31) fun t32 H =>
 p.pick t28 t32 bF fun t33 =>
 p.gT t33 H (p.fadr 6 t1) fun t35 H =>
 p.gT t33 H (p.load false 1 t35 H) fun t36 H =>
 p.gT t33 H (p.bin .eql t36 sE) fun t37 H =>
 p.pick t33 t37 bF fun t38 =>
 p.gT t38 H (p.fadr 7 t1) fun t40 H =>
 p.gT t38 H (p.load false 1 t40 H) fun t41 H =>
 p.gT t38 H (p.bin .eql t41 i0) fun t42 H =>
 p.pick t38 t42 bF fun t43 =>
 p.gT t43 H (p.fadr 8 t1) fun t45 H =>
 p.gT t43 H (p.load false 1 t45 H) fun t46 H =>
 p.gT t43 H (p.bin .eql t46 i0) fun t47 H =>
 p.pick t43 t47 bF fun t48 =>
 p.gT t48 H (p.fadr 9 t1) fun t50 H =>
 p.gT t48 H (p.load false 1 t50 H) fun t51 H =>
 p.gT t48 H (p.un .not t51) fun t52 H =>
 p.pick t48 t52 bF fun t53 =>
 p.gT t53 H (p.fadr 10 t1) fun t55 H =>
 p.gT t53 H (p.load true 4 t55 H) fun t56 H =>
 p.hT t53 H (p.call 4 (.fn 78 [] []) [t56] H) fun t57 H =>
 p.pick t53 t57 bF fun t58 =>
 p.gT t58 H (p.fadr 14 t1) fun t60 H =>
 p.gT t58 H (p.load false 1 t60 H) fun t61 H =>
 p.gT t58 H (p.un .not t61) fun t62 H =>
 p.pick t58 t62 bF fun t63 =>
 p.gT t63 H (p.fadr 15 t1) fun t65 H =>
 p.gT t63 H (p.load false 1 t65 H) fun t66 H =>
 p.gT t63 H (p.len t66) fun t67 H =>
 p.gT t63 H (p.bin .eql t67 i0) fun t68 H =>
 p.pick t63 t68 bF fun t69 =>
 k t69 H)
 (AfI p n  k n (tf 157 0 (ud [(0, a0), (1, t1), (2, bF), (3, i0), (4, t4), (5, t5), (6, t6)] ut)) H) := by kernel_rfl
theorem AfJ : Kv fi43 @f43 := fun p n a0 H k => by
 rw [Ajb]
 simp only [Aek]
 kernel_rfl
noncomputable def f71 (n : Nat) (a0 a1 : AV) (H : Ac) (k : KO β) : Option β :=
 p.cvBS a0 H fun t6 =>
 p.cvBS a1 H fun t8 =>
 p.bin .eql t6 t8 fun t9 =>
 k t9 H
theorem Agk : Kb Ani @f71 := fun p n a0 a1 H k => by kernel_rfl
noncomputable def f116 (n : Nat) (a0 a1 : AV) (H : Ac) (k : KO β) : Option β :=
 p.box a0 H fun t2 H =>
 p.box a1 H fun t3 H =>
 p.fl 0 t2 1 H fun t6 =>
 p.fl 0 t3 1 H fun t8 =>
 p.bin .eql t6 t8 fun t9 =>
 p.lT t9 H 1 t2 1 fun t12 H =>
 p.lT t9 H 1 t3 1 fun t14 H =>
 p.hT t9 H (p.ca 4 71 [t12, t14] H) fun t15 H =>
 p.pick t9 t15 bF fun t16 =>
 p.lT t16 H 2 t2 1 fun t19 H =>
 p.lT t16 H 2 t3 1 fun t21 H =>
 p.gT t16 H (p.bin .eql t19 t21) fun t22 H =>
 p.pick t16 t22 bF fun t23 =>
 p.lT t23 H 3 t2 1 fun t26 H =>
 p.lT t23 H 3 t3 1 fun t28 H =>
 p.gT t23 H (p.binB .eql t26 t28) fun t29 H =>
 p.pick t23 t29 bF fun t30 =>
 k t30 H
theorem AdC : Kb Aks @f116 := fun p n a0 a1 H k => by kernel_rfl
noncomputable def f117 (n : Nat) (a0 : AV) (H : Ac) (k : KO β) : Option β :=
 p.ca 4 135 [a0] H fun t4 H =>
 p.kT t4 H a0 fun t6 H =>
 p.gT t4 H (p.bin .neq t6 sE) fun t7 H =>
 p.pick t4 t7 bF fun t8 =>
 k t8 H
theorem AdD : Kv Akt @f117 := fun p n a0 H k => by kernel_rfl
noncomputable def f98 (n : Nat) (a0 a1 a2 : AV) (H : Ac) (k : KO β) : Option β :=
 p.bin .geq a0 a1 fun t9 =>
 p.kT t9 H a0 fun t11 H =>
 p.kT t9 H a2 fun t12 H =>
 p.gT t9 H (p.bin .leq t11 t12) fun t13 H =>
 p.pick t9 t13 bF fun t14 =>
 k t14 H
theorem AgK : Bd3 An2 @f98 := fun p n a0 a1 a2 H k => by kernel_rfl
noncomputable def f118 (n : Nat) (a0 : AV) (H : Ac) (k : KO β) : Option β :=
 p.call 4 (.fn 98 [] []) [a0, i0, (si 65535)] H fun t4 H =>
 k t4 H
theorem AdE : Kv Aku @f118 := fun p n a0 H k => by kernel_rfl
noncomputable def f137 (n : Nat) (a0 : AV) (H : Ac) (k : KO β) : Option β :=
 p.call 56 (.fn 149 [] []) [a0, (.sc (.string ⟨#[47]⟩))] H fun t4 H =>
 k t4 H
theorem AdV : Kv Ak1 @f137 := fun p n a0 H k => by kernel_rfl
noncomputable def f108 (n : Nat) (a0 : AV) (H : Ac) (k : KO β) : Option β :=
 p.call 4 (.fn 135 [] []) [a0] H fun t4 H =>
 p.kT t4 H a0 fun t6 H =>
 p.gT t4 H (p.bin .neq t6 sE) fun t7 H =>
 p.pick t4 t7 bF fun t8 =>
 p.kT t8 H a0 fun t10 H =>
 p.hT t8 H (p.call 4 (.fn 136 [] []) [t10, (.sc (.string ⟨#[43, 35]⟩))] H) fun t11 H =>
 p.gT t8 H (p.un .not t11) fun t12 H =>
 p.pick t8 t12 bF fun t13 =>
 p.kT t13 H a0 fun t15 H =>
 p.hT t13 H (p.call 56 (.fn 137 [] []) [t15] H) fun t16 H =>
 p.gT t13 H (p.len t16) fun t17 H =>
 p.gT t13 H (p.bin .leq t17 (si 6)) fun t18 H =>
 p.pick t13 t18 bF fun t19 =>
 k t19 H
theorem Ad4 : Kv Ako @f108 := fun p n a0 H k => by kernel_rfl
noncomputable def f107 (n : Nat) (a0 : AV) (H : Ac) (k : KO β) : Option β :=
 p.call 4 (.fn 98 [] []) [a0, i0, (si 2)] H fun t4 H =>
 k t4 H
theorem Ad3 : Kv Akn @f107 := fun p n a0 H k => by kernel_rfl
noncomputable def f119 (n : Nat) (a0 : AV) (H : Ac) (k : KO β) : Option β :=
 p.box a0 H fun t1 H =>
 p.fadr 0 t1 fun t3 =>
 p.load false 1 t3 H fun t4 =>
 p.call 4 (.fn 108 [] []) [t4] H fun t5 H =>
 p.gT t5 H (p.fadr 1 t1) fun t7 H =>
 p.gT t5 H (p.load false 1 t7 H) fun t8 H =>
 p.gT t5 H (p.len t8) fun t9 H =>
 p.gT t5 H (p.bin .leq t9 (si 40)) fun t10 H =>
 p.pick t5 t10 bF fun t11 =>
 p.gT t11 H (p.fadr 2 t1) fun t13 H =>
 p.gT t11 H (p.load false 1 t13 H) fun t14 H =>
 p.hT t11 H (p.call 4 (.fn 107 [] []) [t14] H) fun t15 H =>
 p.pick t11 t15 bF fun t16 =>
 k t16 H
theorem AdF : Kv Akv @f119 := fun p n a0 H k => by kernel_rfl
noncomputable def f83 (n : Nat) (a0 : AV) (H : Ac) (k : KO β) : Option β :=
 p.box a0 H fun t1 H =>
 p.fl 5 t1 1 H fun t4 =>
 p.un .not t4 fun t5 =>
 p.cond t5
 (p.fadr 6 t1 fun t6 =>
 p.load false 1 t6 H fun t7 =>
 p.bin .eql t7 sE fun t8 =>
 p.lT t8 H 7 t1 1 fun t11 H =>
 p.gT t8 H (p.bin .eql t11 i0) fun t12 H =>
 p.pick t8 t12 bF fun t13 =>
 p.lT t13 H 9 t1 1 fun t16 H =>
 p.gT t13 H (p.un .not t16) fun t17 H =>
 p.pick t13 t17 bF fun t18 =>
 p.gT t18 H (p.fadr 10 t1) fun t20 H =>
 p.gT t18 H (p.load true 4 t20 H) fun t21 H =>
 p.guard t18 true H (fun k' => p.fill [sE, .nl, i0, bF] [] fun ct' => k' (.agg ct') H) fun t22 H =>
 p.hT t18 H (p.ca 4 116 [t21, t22] H) fun t23 H =>
 p.pick t18 t23 bF fun t24 =>
 k t24 H)
 (p.fadr 6 t1 fun t25 =>
 p.load false 1 t25 H fun t26 =>
 p.ca 4 117 [t26] H fun t27 H =>
 p.lT t27 H 7 t1 1 fun t30 H =>
 p.hT t27 H (p.ca 4 118 [t30] H) fun t31 H =>
 p.pick t27 t31 bF fun t32 =>
 p.lT t32 H 9 t1 1 fun t35 H =>
 p.kT t32 H t35 fun t36 H =>
 p.gT t36 H (p.fadr 10 t1) fun t37 H =>
 p.gT t36 H (p.load true 4 t37 H) fun t38 H =>
 p.hT t36 H (p.ca 4 119 [t38] H) fun t39 H =>
 p.gT t32 H (p.pick t36 t39 bF) fun t40 H =>
 p.kT t32 H t40 fun t41 H =>
 p.lF t41 H 9 t1 1 fun t43 H =>
 p.gF t41 H (p.un .not t43) fun t44 H =>
 p.kF t41 H t44 fun t45 H =>
 p.gT t45 H (p.fadr 10 t1) fun t46 H =>
 p.gT t45 H (p.load true 4 t46 H) fun t47 H =>
 p.guard t45 true H (fun k' => p.fill [sE, .nl, i0, bF] [] fun ct' => k' (.agg ct') H) fun t48 H =>
 p.hT t45 H (p.ca 4 116 [t47, t48] H) fun t49 H =>
 p.gF t41 H (p.pick t45 t49 bF) fun t50 H =>
 p.gT t32 H (p.pick t41 bT t50) fun t51 H =>
 p.pick t32 t51 bF fun t52 =>
 k t52 H)
theorem Ag0 : Kv Anp @f83 := fun p n a0 H k => by kernel_rfl
noncomputable def f82 (n : Nat) (a0 : AV) (H : Ac) (k : KO β) : Option β :=
 p.box a0 H fun t1 H =>
 p.fadr 2 t1 fun t4 =>
 p.fl 0 t4 1 H fun t6 =>
 p.len t6 fun t7 =>
 p.bin .eql t7 i0 fun t8 =>
 p.gT t8 H (p.fadr 2 t1) fun t10 H =>
 p.lT t8 H 1 t10 1 fun t12 H =>
 p.gT t8 H (p.un .not t12) fun t13 H =>
 p.pick t8 t13 bF fun t14 =>
 p.lT t14 H 4 t1 1 fun t17 H =>
 p.gT t14 H (p.len t17) fun t18 H =>
 p.gT t14 H (p.bin .eql t18 i0) fun t19 H =>
 p.pick t14 t19 bF fun t20 =>
 p.lT t20 H 15 t1 1 fun t23 H =>
 p.gT t20 H (p.len t23) fun t24 H =>
 p.gT t20 H (p.bin .eql t24 i0) fun t25 H =>
 p.pick t20 t25 bF fun t26 =>
 p.lT t26 H 1 t1 1 fun t30 H =>
 p.gT t26 H (p.bin .eql t30 i0) fun t31 H =>
 p.pick t26 t31 bF fun t32 =>
 p.lT t32 H 5 t1 1 fun t35 H =>
 p.gT t32 H (p.un .not t35) fun t36 H =>
 p.pick t32 t36 bF fun t37 =>
 p.lT t37 H 8 t1 1 fun t40 H =>
 p.gT t37 H (p.bin .eql t40 i0) fun t41 H =>
 p.pick t37 t41 bF fun t42 =>
 p.lT t42 H 14 t1 1 fun t45 H =>
 p.gT t42 H (p.un .not t45) fun t46 H =>
 p.pick t42 t46 bF fun t47 =>
 p.gT t47 H (p.load true 16 t1 H) fun t49 H =>
 p.hT t47 H (p.ca 4 83 [t49] H) fun t50 H =>
 p.pick t47 t50 bF fun t51 =>
 k t51 H
theorem Agz : Kv Ano @f82 := fun p n a0 H k => by kernel_rfl
noncomputable def f105 (n : Nat) (a0 : AV) (H : Ac) (k : KO β) : Option β :=
 p.box a0 H fun t1 H =>
 p.new Ep H fun t2 H =>
 p.fadr 0 t1 fun t4 =>
 p.load false 1 t4 H fun t5 =>
 p.fill Ep [(0, 1, t5)] fun ct6 =>
 p.new Ep H fun t3 H =>
 p.store 25 t3 (.agg ct6) H fun H =>
 p.fadr 0 t1 fun t7 =>
 p.load false 1 t7 H fun t8 =>
 p.bin .eql t8 (si 1) fun t10 =>
 p.cond t10
 (p.fadr 7 t1 fun t11 =>
 p.load false 1 t11 H fun t12 =>
 p.fadr 8 t1 fun t13 =>
 p.fadr 9 t1 fun t15 =>
 p.fadr 10 t1 fun t17 =>
 p.fadr 11 t1 fun t19 =>
 p.fadr 16 t1 fun t21 =>
 p.fadr 7 t3 fun t23 =>
 p.apart t13 [t3] H
 (p.load false 1 t13 H fun t14 =>
 p.apart t15 [t3] H
 (p.load false 1 t15 H fun t16 =>
 p.apart t17 [t3] H
 (p.load false 1 t17 H fun t18 =>
 p.apart t19 [t3] H
 (p.load false 1 t19 H fun t20 =>
 p.apart t21 [t3] H
 (p.load false 1 t21 H fun t22 =>
 p.same t23 t3
 (p.store 1 t23 t12 H fun H =>
 p.fadr 8 t3 fun t24 =>
 p.same t24 t3
 (p.store 1 t24 t14 H fun H =>
 p.fadr 9 t3 fun t25 =>
 p.same t25 t3
 (p.store 1 t25 t16 H fun H =>
 p.fadr 10 t3 fun t26 =>
 p.same t26 t3
 (p.store 1 t26 t18 H fun H =>
 p.fadr 11 t3 fun t27 =>
 p.same t27 t3
 (p.store 1 t27 t20 H fun H =>
 p.fadr 16 t3 fun t28 =>
 p.store 1 t28 t22 H fun H =>
 p.fadr 11 t1 fun t29 =>
 p.load false 1 t29 H fun t30 =>
 E1 (fun (t1 t2 t3 : AV) (H : Ac) => p.fadr 16 t1 fun t43 =>
 p.load false 1 t43 H fun t44 =>
 E1 (fun (t1 t2 t3 : AV) (H : Ac) => p.fadr 18 t3 fun t51 =>
 p.load false 1 t51 H fun t52 =>
 p.cond t52
 (p.fadr 19 t1 fun t53 =>
 p.load false 1 t53 H fun t54 =>
 p.fadr 19 t3 fun t55 =>
 p.store 1 t55 t54 H fun H =>
 p.load true 25 t3 H fun t120 =>
 p.store 25 t2 t120 H fun H =>
 p.load true 25 t2 H fun r0 =>
 k r0 H)
 (p.load true 25 t3 H fun t120 =>
 p.store 25 t2 t120 H fun H =>
 p.load true 25 t2 H fun r0 =>
 k r0 H)) fun j2 =>
 p.cond t44
 (p.fadr 17 t1 fun t45 =>
 p.load false 1 t45 H fun t46 =>
 p.fadr 18 t1 fun t47 =>
 p.fadr 17 t3 fun t49 =>
 p.apart t47 [t3] H
 (p.load false 1 t47 H fun t48 =>
 p.same t49 t3
 (p.store 1 t49 t46 H fun H =>
 p.fadr 18 t3 fun t50 =>
 p.store 1 t50 t48 H fun H =>
 j2 t1 t2 t3 H)))
 (j2 t1 t2 t3 H)) fun j1 =>
 p.cond t30
 (p.fadr 12 t1 fun t31 =>
 p.load false 1 t31 H fun t32 =>
 p.fadr 13 t1 fun t33 =>
 p.fadr 14 t1 fun t35 =>
 p.fadr 15 t1 fun t37 =>
 p.fadr 12 t3 fun t39 =>
 p.apart t33 [t3] H
 (p.load false 1 t33 H fun t34 =>
 p.apart t35 [t3] H
 (p.load false 1 t35 H fun t36 =>
 p.apart t37 [t3] H
 (p.load false 1 t37 H fun t38 =>
 p.same t39 t3
 (p.store 1 t39 t32 H fun H =>
 p.fadr 13 t3 fun t40 =>
 p.same t40 t3
 (p.store 1 t40 t34 H fun H =>
 p.fadr 14 t3 fun t41 =>
 p.same t41 t3
 (p.store 1 t41 t36 H fun H =>
 p.fadr 15 t3 fun t42 =>
 p.store 1 t42 t38 H fun H =>
 j1 t1 t2 t3 H)))))))
 (j1 t1 t2 t3 H))))))))))))
 (p.bin .eql t8 (si 2) fun t57 =>
 p.cond t57
 (p.fadr 20 t1 fun t58 =>
 p.load false 1 t58 H fun t59 =>
 p.fadr 21 t1 fun t60 =>
 p.fadr 20 t3 fun t62 =>
 p.apart t60 [t3] H
 (p.load false 1 t60 H fun t61 =>
 p.same t62 t3
 (p.store 1 t62 t59 H fun H =>
 p.fadr 21 t3 fun t63 =>
 p.store 1 t63 t61 H fun H =>
 p.load true 25 t3 H fun t120 =>
 p.store 25 t2 t120 H fun H =>
 p.load true 25 t2 H fun r0 =>
 k r0 H)))
 (p.bin .eql t8 (si 3) fun t65 =>
 p.cond t65
 (p.fadr 2 t1 fun t66 =>
 p.load false 1 t66 H fun t67 =>
 p.fadr 3 t1 fun t68 =>
 p.fadr 5 t1 fun t70 =>
 p.fadr 6 t1 fun t72 =>
 p.fadr 2 t3 fun t74 =>
 p.apart t68 [t3] H
 (p.load false 1 t68 H fun t69 =>
 p.apart t70 [t3] H
 (p.load false 1 t70 H fun t71 =>
 p.apart t72 [t3] H
 (p.load false 1 t72 H fun t73 =>
 p.same t74 t3
 (p.store 1 t74 t67 H fun H =>
 p.fadr 3 t3 fun t75 =>
 p.same t75 t3
 (p.store 1 t75 t69 H fun H =>
 p.fadr 5 t3 fun t76 =>
 p.same t76 t3
 (p.store 1 t76 t71 H fun H =>
 p.fadr 6 t3 fun t77 =>
 p.store 1 t77 t73 H fun H =>
 p.fadr 2 t1 fun t78 =>
 p.load false 1 t78 H fun t79 =>
 p.bin .gtr t79 i0 fun t80 =>
 p.cond t80
 (p.fadr 1 t1 fun t81 =>
 p.load false 1 t81 H fun t82 =>
 p.fadr 4 t1 fun t83 =>
 p.fadr 1 t3 fun t85 =>
 p.apart t83 [t3] H
 (p.load false 1 t83 H fun t84 =>
 p.same t85 t3
 (p.store 1 t85 t82 H fun H =>
 p.fadr 4 t3 fun t86 =>
 p.store 1 t86 t84 H fun H =>
 p.load true 25 t3 H fun t120 =>
 p.store 25 t2 t120 H fun H =>
 p.load true 25 t2 H fun r0 =>
 k r0 H)))
 (p.load true 25 t3 H fun t120 =>
 p.store 25 t2 t120 H fun H =>
 p.load true 25 t2 H fun r0 =>
 k r0 H))))))))
 (p.bin .eql t8 (si 4) fun t88 =>
 E1 (fun (t1 t2 t3 t8 t87 : AV) (H : Ac) => p.cond t87
 (p.fadr 4 t1 fun t93 =>
 p.load false 1 t93 H fun t94 =>
 p.fadr 4 t3 fun t95 =>
 p.store 1 t95 t94 H fun H =>
 p.load true 25 t3 H fun t120 =>
 p.store 25 t2 t120 H fun H =>
 p.load true 25 t2 H fun r0 =>
 k r0 H)
 (p.bin .eql t8 (si 8) fun t97 =>
 p.cond t97
 (p.fadr 4 t1 fun t98 =>
 p.load false 1 t98 H fun t99 =>
 p.fadr 22 t1 fun t100 =>
 p.fadr 4 t3 fun t102 =>
 p.apart t100 [t3] H
 (p.load false 1 t100 H fun t101 =>
 p.same t102 t3
 (p.store 1 t102 t99 H fun H =>
 p.fadr 22 t3 fun t103 =>
 p.store 1 t103 t101 H fun H =>
 p.load true 25 t3 H fun t120 =>
 p.store 25 t2 t120 H fun H =>
 p.load true 25 t2 H fun r0 =>
 k r0 H)))
 (p.bin .eql t8 (si 9) fun t105 =>
 p.cond t105
 (p.fadr 4 t1 fun t106 =>
 p.load false 1 t106 H fun t107 =>
 p.fadr 24 t1 fun t108 =>
 p.fadr 4 t3 fun t110 =>
 p.apart t108 [t3] H
 (p.load false 1 t108 H fun t109 =>
 p.same t110 t3
 (p.store 1 t110 t107 H fun H =>
 p.fadr 24 t3 fun t111 =>
 p.store 1 t111 t109 H fun H =>
 p.load true 25 t3 H fun t120 =>
 p.store 25 t2 t120 H fun H =>
 p.load true 25 t2 H fun r0 =>
 k r0 H)))
 (p.bin .eql t8 (si 10) fun t113 =>
 p.cond t113
 (p.fadr 4 t1 fun t114 =>
 p.load false 1 t114 H fun t115 =>
 p.fadr 23 t1 fun t116 =>
 p.fadr 4 t3 fun t118 =>
 p.apart t116 [t3] H
 (p.load false 1 t116 H fun t117 =>
 p.same t118 t3
 (p.store 1 t118 t115 H fun H =>
 p.fadr 23 t3 fun t119 =>
 p.store 1 t119 t117 H fun H =>
 p.load true 25 t3 H fun t120 =>
 p.store 25 t2 t120 H fun H =>
 p.load true 25 t2 H fun r0 =>
 k r0 H)))
 (p.load true 25 t3 H fun t120 =>
 p.store 25 t2 t120 H fun H =>
 p.load true 25 t2 H fun r0 =>
 k r0 H))))) fun j3 =>
 p.cond t88
 (j3 t1 t2 t3 t8 t88 H)
 (p.bin .eql t8 (si 5) fun t89 =>
 p.cond t89
 (j3 t1 t2 t3 t8 t89 H)
 (p.bin .eql t8 (si 6) fun t90 =>
 p.cond t90
 (j3 t1 t2 t3 t8 t90 H)
 (p.bin .eql t8 (si 7) fun t91 =>
 p.cond t91
 (j3 t1 t2 t3 t8 t91 H)
 (p.bin .eql t8 (si 11) fun t92 =>
 j3 t1 t2 t3 t8 t92 H)))))))
theorem Ad1 : Kv Akl @f105 := fun p n a0 H k => by kernel_rfl
noncomputable def R7 (p : Pr β) (n : Nat)  (k : KO β) : Nat → AV → AV → AV → KO β
 | 0, _, _, _, _, _ => none
 | m + 1, t0, t1, t12, t13, H => p.bin .lss t13 t12 fun t14 =>
   p.cond t14
   (p.iadr 2 t0 t13 fun t18 =>
   p.load true 2 t18 H fun t19 =>
   p.iadr 2 t1 t13 fun t22 =>
   p.load true 2 t22 H fun t23 =>
   p.binA .neq [1, 0] t19 t23 fun t24 =>
   p.cond t24
   (k bF H)
   (p.bin .add t13 (si 1) fun t25 =>
   R7 p n  k m t0 t1 t12 t25 H))
   (k bT H)
noncomputable def f132 (n : Nat) (a0 a1 : AV) (H : Ac) (k : KO β) : Option β :=
 p.len a0 fun t7 =>
 p.len a1 fun t9 =>
 p.bin .neq t7 t9 fun t10 =>
 p.cond t10
 (k bF H)
 (p.len a0 fun t12 =>
 R7 p n  k n a0 a1 t12 i0 H)
noncomputable def AcH (p : Pr β) (n : Nat)  (k : KO β) (m : Nat) (tm : Tm) (H : Ac) : Option β :=
 Dw 26 (fun tm H k => Ak As p Amu 26 n (cd AkY [1, 1, 0, 1, 0, 0]) tm H k) (Ez 0 (Eg (fun tm H => Ak As p Amu 26 n (cd AkY [1, 1, 1]) tm H (Cp As p fi132.results k)) (Cp As p fi132.results k))) m tm H
theorem AbD (p : Pr β) (n : Nat)  (k : KO β) (m0 : Nat) : ∀ (t : Nat → AV) (H : Ac), AcH p n  k m0 (tf 26 0 t) H = R7 p n  k m0 (t 0) (t 1) (t 12) (t 13) H := by
 induction m0 with
 | zero => intros; rfl
 | succ m0 ih =>
  intro t H
  refine Eq.trans (Bq (nt := 26) (m := m0) (g := fun t H => R7 p n  k m0 (t 0) (t 1) (t 12) (t 13) H) ih rfl) ?_
  kernel_rfl
theorem Afx (p : Pr β) (n : Nat) (a0 a1 : AV) (H : Ac) (k : KO β) : Cj As p n fi132 [a0, a1] H k =
 p.len a0 fun t7 =>
 p.len a1 fun t9 =>
 p.bin .neq t7 t9 fun t10 =>
 p.cond t10
 (k bF H)
 (p.len a0 fun t12 =>
 AcH p n  k n (tf 26 0 (ud [(0, a0), (1, a1), (4, bF), (6, a0), (7, t7), (8, a1), (9, t9), (10, t10), (11, a0), (12, t12), (13, i0)] ut)) H) := by kernel_rfl
theorem AdS : Kb fi132 @f132 := fun p n a0 a1 H k => by
 rw [Afx]
 simp only [AbD]
 kernel_rfl
noncomputable def R8 (p : Pr β) (n : Nat)  (k : KO β) : Nat → AV → AV → AV → KO β
 | 0, _, _, _, _, _ => none
 | m + 1, t0, t1, t12, t13, H => p.bin .lss t13 t12 fun t14 =>
   p.cond t14
   (p.iadr 1 t0 t13 fun t18 =>
   p.load false 1 t18 H fun t19 =>
   p.iadr 1 t1 t13 fun t22 =>
   p.load false 1 t22 H fun t23 =>
   p.bin .neq t19 t23 fun t24 =>
   p.cond t24
   (k bF H)
   (p.bin .add t13 (si 1) fun t25 =>
   R8 p n  k m t0 t1 t12 t25 H))
   (k bT H)
noncomputable def f133 (n : Nat) (a0 a1 : AV) (H : Ac) (k : KO β) : Option β :=
 p.len a0 fun t7 =>
 p.len a1 fun t9 =>
 p.bin .neq t7 t9 fun t10 =>
 p.cond t10
 (k bF H)
 (p.len a0 fun t12 =>
 R8 p n  k n a0 a1 t12 i0 H)
noncomputable def AcI (p : Pr β) (n : Nat)  (k : KO β) (m : Nat) (tm : Tm) (H : Ac) : Option β :=
 Dw 26 (fun tm H k => Ak As p Amv 26 n (cd AkZ [1, 1, 0, 1, 0, 0]) tm H k) (Ez 0 (Eg (fun tm H => Ak As p Amv 26 n (cd AkZ [1, 1, 1]) tm H (Cp As p fi133.results k)) (Cp As p fi133.results k))) m tm H
theorem AbE (p : Pr β) (n : Nat)  (k : KO β) (m0 : Nat) : ∀ (t : Nat → AV) (H : Ac), AcI p n  k m0 (tf 26 0 t) H = R8 p n  k m0 (t 0) (t 1) (t 12) (t 13) H := by
 induction m0 with
 | zero => intros; rfl
 | succ m0 ih =>
  intro t H
  refine Eq.trans (Bq (nt := 26) (m := m0) (g := fun t H => R8 p n  k m0 (t 0) (t 1) (t 12) (t 13) H) ih rfl) ?_
  kernel_rfl
theorem Afy (p : Pr β) (n : Nat) (a0 a1 : AV) (H : Ac) (k : KO β) : Cj As p n fi133 [a0, a1] H k =
 p.len a0 fun t7 =>
 p.len a1 fun t9 =>
 p.bin .neq t7 t9 fun t10 =>
 p.cond t10
 (k bF H)
 (p.len a0 fun t12 =>
 AcI p n  k n (tf 26 0 (ud [(0, a0), (1, a1), (4, bF), (6, a0), (7, t7), (8, a1), (9, t9), (10, t10), (11, a0), (12, t12), (13, i0)] ut)) H) := by kernel_rfl
theorem AdT : Kb fi133 @f133 := fun p n a0 a1 H k => by
 rw [Afy]
 simp only [AbE]
 kernel_rfl
noncomputable def R9 (p : Pr β) (n : Nat)  (k : KO β) : Nat → AV → AV → AV → KO β
 | 0, _, _, _, _, _ => none
 | m + 1, t0, t1, t12, t13, H => p.bin .lss t13 t12 fun t14 =>
   p.cond t14
   (p.iadr 1 t0 t13 fun t18 =>
   p.load false 1 t18 H fun t19 =>
   p.iadr 1 t1 t13 fun t22 =>
   p.load false 1 t22 H fun t23 =>
   p.bin .neq t19 t23 fun t24 =>
   p.cond t24
   (k bF H)
   (p.bin .add t13 (si 1) fun t25 =>
   R9 p n  k m t0 t1 t12 t25 H))
   (k bT H)
noncomputable def f134 (n : Nat) (a0 a1 : AV) (H : Ac) (k : KO β) : Option β :=
 p.len a0 fun t7 =>
 p.len a1 fun t9 =>
 p.bin .neq t7 t9 fun t10 =>
 p.cond t10
 (k bF H)
 (p.len a0 fun t12 =>
 R9 p n  k n a0 a1 t12 i0 H)
noncomputable def AcJ (p : Pr β) (n : Nat)  (k : KO β) (m : Nat) (tm : Tm) (H : Ac) : Option β :=
 Dw 26 (fun tm H k => Ak As p Amw 26 n (cd Ala [1, 1, 0, 1, 0, 0]) tm H k) (Ez 0 (Eg (fun tm H => Ak As p Amw 26 n (cd Ala [1, 1, 1]) tm H (Cp As p fi134.results k)) (Cp As p fi134.results k))) m tm H
theorem AbF (p : Pr β) (n : Nat)  (k : KO β) (m0 : Nat) : ∀ (t : Nat → AV) (H : Ac), AcJ p n  k m0 (tf 26 0 t) H = R9 p n  k m0 (t 0) (t 1) (t 12) (t 13) H := by
 induction m0 with
 | zero => intros; rfl
 | succ m0 ih =>
  intro t H
  refine Eq.trans (Bq (nt := 26) (m := m0) (g := fun t H => R9 p n  k m0 (t 0) (t 1) (t 12) (t 13) H) ih rfl) ?_
  kernel_rfl
theorem Afz (p : Pr β) (n : Nat) (a0 a1 : AV) (H : Ac) (k : KO β) : Cj As p n fi134 [a0, a1] H k =
 p.len a0 fun t7 =>
 p.len a1 fun t9 =>
 p.bin .neq t7 t9 fun t10 =>
 p.cond t10
 (k bF H)
 (p.len a0 fun t12 =>
 AcJ p n  k n (tf 26 0 (ud [(0, a0), (1, a1), (4, bF), (6, a0), (7, t7), (8, a1), (9, t9), (10, t10), (11, a0), (12, t12), (13, i0)] ut)) H) := by kernel_rfl
theorem AdU : Kb fi134 @f134 := fun p n a0 a1 H k => by
 rw [Afz]
 simp only [AbF]
 kernel_rfl
noncomputable def f104 (n : Nat) (a0 a1 : AV) (H : Ac) (k : KO β) : Option β :=
 p.box a0 H fun t2 H =>
 p.box a1 H fun t3 H =>
 p.fadr 0 t2 fun t9 =>
 p.load false 1 t9 H fun t10 =>
 p.fadr 0 t3 fun t11 =>
 p.load false 1 t11 H fun t12 =>
 p.bin .eql t10 t12 fun t13 =>
 p.gT t13 H (p.fadr 1 t2) fun t15 H =>
 p.gT t13 H (p.load false 1 t15 H) fun t16 H =>
 p.gT t13 H (p.fadr 1 t3) fun t17 H =>
 p.gT t13 H (p.load false 1 t17 H) fun t18 H =>
 p.gT t13 H (p.binB .eql t16 t18) fun t19 H =>
 p.pick t13 t19 bF fun t20 =>
 p.gT t20 H (p.fadr 2 t2) fun t22 H =>
 p.gT t20 H (p.load false 1 t22 H) fun t23 H =>
 p.gT t20 H (p.fadr 2 t3) fun t24 H =>
 p.gT t20 H (p.load false 1 t24 H) fun t25 H =>
 p.gT t20 H (p.bin .eql t23 t25) fun t26 H =>
 p.pick t20 t26 bF fun t27 =>
 p.gT t27 H (p.fadr 3 t2) fun t29 H =>
 p.gT t27 H (p.load false 1 t29 H) fun t30 H =>
 p.gT t27 H (p.fadr 3 t3) fun t31 H =>
 p.gT t27 H (p.load false 1 t31 H) fun t32 H =>
 p.gT t27 H (p.binB .eql t30 t32) fun t33 H =>
 p.pick t27 t33 bF fun t34 =>
 p.gT t34 H (p.fadr 4 t2) fun t36 H =>
 p.gT t34 H (p.load false 1 t36 H) fun t37 H =>
 p.gT t34 H (p.fadr 4 t3) fun t38 H =>
 p.gT t34 H (p.load false 1 t38 H) fun t39 H =>
 p.gT t34 H (p.bin .eql t37 t39) fun t40 H =>
 p.pick t34 t40 bF fun t41 =>
 p.gT t41 H (p.fadr 5 t2) fun t43 H =>
 p.gT t41 H (p.load false 1 t43 H) fun t44 H =>
 p.gT t41 H (p.fadr 5 t3) fun t45 H =>
 p.gT t41 H (p.load false 1 t45 H) fun t46 H =>
 p.gT t41 H (p.bin .eql t44 t46) fun t47 H =>
 p.pick t41 t47 bF fun t48 =>
 p.gT t48 H (p.fadr 6 t2) fun t50 H =>
 p.gT t48 H (p.load false 1 t50 H) fun t51 H =>
 p.gT t48 H (p.fadr 6 t3) fun t52 H =>
 p.gT t48 H (p.load false 1 t52 H) fun t53 H =>
 p.hT t48 H (p.call 4 (.fn 71 [] []) [t51, t53] H) fun t54 H =>
 p.pick t48 t54 bF fun t55 =>
 p.fadr 7 t2 fun t56 =>
 p.load false 1 t56 H fun t57 =>
 p.fadr 7 t3 fun t58 =>
 p.load false 1 t58 H fun t59 =>
 p.bin .eql t57 t59 fun t60 =>
 p.gT t60 H (p.fadr 8 t2) fun t62 H =>
 p.gT t60 H (p.load false 1 t62 H) fun t63 H =>
 p.gT t60 H (p.fadr 8 t3) fun t64 H =>
 p.gT t60 H (p.load false 1 t64 H) fun t65 H =>
 p.gT t60 H (p.bin .eql t63 t65) fun t66 H =>
 p.pick t60 t66 bF fun t67 =>
 p.gT t67 H (p.fadr 9 t2) fun t69 H =>
 p.gT t67 H (p.load false 1 t69 H) fun t70 H =>
 p.gT t67 H (p.fadr 9 t3) fun t71 H =>
 p.gT t67 H (p.load false 1 t71 H) fun t72 H =>
 p.gT t67 H (p.binB .eql t70 t72) fun t73 H =>
 p.pick t67 t73 bF fun t74 =>
 p.gT t74 H (p.fadr 10 t2) fun t76 H =>
 p.gT t74 H (p.load false 1 t76 H) fun t77 H =>
 p.gT t74 H (p.fadr 10 t3) fun t78 H =>
 p.gT t74 H (p.load false 1 t78 H) fun t79 H =>
 p.gT t74 H (p.bin .eql t77 t79) fun t80 H =>
 p.pick t74 t80 bF fun t81 =>
 p.gT t81 H (p.fadr 16 t2) fun t83 H =>
 p.gT t81 H (p.load false 1 t83 H) fun t84 H =>
 p.gT t81 H (p.fadr 16 t3) fun t85 H =>
 p.gT t81 H (p.load false 1 t85 H) fun t86 H =>
 p.gT t81 H (p.binB .eql t84 t86) fun t87 H =>
 p.pick t81 t87 bF fun t88 =>
 p.gT t88 H (p.fadr 17 t2) fun t90 H =>
 p.gT t88 H (p.load false 1 t90 H) fun t91 H =>
 p.gT t88 H (p.fadr 17 t3) fun t92 H =>
 p.gT t88 H (p.load false 1 t92 H) fun t93 H =>
 p.gT t88 H (p.bin .eql t91 t93) fun t94 H =>
 p.pick t88 t94 bF fun t95 =>
 p.gT t95 H (p.fadr 18 t2) fun t97 H =>
 p.gT t95 H (p.load false 1 t97 H) fun t98 H =>
 p.gT t95 H (p.fadr 18 t3) fun t99 H =>
 p.gT t95 H (p.load false 1 t99 H) fun t100 H =>
 p.gT t95 H (p.binB .eql t98 t100) fun t101 H =>
 p.pick t95 t101 bF fun t102 =>
 p.gT t102 H (p.fadr 19 t2) fun t104 H =>
 p.gT t102 H (p.load false 1 t104 H) fun t105 H =>
 p.gT t102 H (p.fadr 19 t3) fun t106 H =>
 p.gT t102 H (p.load false 1 t106 H) fun t107 H =>
 p.hT t102 H (p.call 4 (.fn 71 [] []) [t105, t107] H) fun t108 H =>
 p.pick t102 t108 bF fun t109 =>
 p.fadr 11 t2 fun t110 =>
 p.load false 1 t110 H fun t111 =>
 p.fadr 11 t3 fun t112 =>
 p.load false 1 t112 H fun t113 =>
 p.binB .eql t111 t113 fun t114 =>
 p.gT t114 H (p.fadr 12 t2) fun t116 H =>
 p.gT t114 H (p.load false 1 t116 H) fun t117 H =>
 p.gT t114 H (p.fadr 12 t3) fun t118 H =>
 p.gT t114 H (p.load false 1 t118 H) fun t119 H =>
 p.gT t114 H (p.bin .eql t117 t119) fun t120 H =>
 p.pick t114 t120 bF fun t121 =>
 p.gT t121 H (p.fadr 13 t2) fun t123 H =>
 p.gT t121 H (p.load false 1 t123 H) fun t124 H =>
 p.gT t121 H (p.fadr 13 t3) fun t125 H =>
 p.gT t121 H (p.load false 1 t125 H) fun t126 H =>
 p.hT t121 H (p.call 4 (.fn 71 [] []) [t124, t126] H) fun t127 H =>
 p.pick t121 t127 bF fun t128 =>
 p.gT t128 H (p.fadr 14 t2) fun t130 H =>
 p.gT t128 H (p.load false 1 t130 H) fun t131 H =>
 p.gT t128 H (p.fadr 14 t3) fun t132 H =>
 p.gT t128 H (p.load false 1 t132 H) fun t133 H =>
 p.gT t128 H (p.bin .eql t131 t133) fun t134 H =>
 p.pick t128 t134 bF fun t135 =>
 p.gT t135 H (p.fadr 15 t2) fun t137 H =>
 p.gT t135 H (p.load false 1 t137 H) fun t138 H =>
 p.gT t135 H (p.fadr 15 t3) fun t139 H =>
 p.gT t135 H (p.load false 1 t139 H) fun t140 H =>
 p.gT t135 H (p.binB .eql t138 t140) fun t141 H =>
 p.pick t135 t141 bF fun t142 =>
 p.fadr 22 t2 fun t143 =>
 p.load false 1 t143 H fun t144 =>
 p.fadr 22 t3 fun t145 =>
 p.load false 1 t145 H fun t146 =>
 p.call 4 (.fn 132 [] []) [t144, t146] H fun t147 H =>
 p.gT t147 H (p.fadr 23 t2) fun t149 H =>
 p.gT t147 H (p.load false 1 t149 H) fun t150 H =>
 p.gT t147 H (p.fadr 23 t3) fun t151 H =>
 p.gT t147 H (p.load false 1 t151 H) fun t152 H =>
 p.hT t147 H (p.call 4 (.fn 133 [] []) [t150, t152] H) fun t153 H =>
 p.pick t147 t153 bF fun t154 =>
 p.gT t154 H (p.fadr 24 t2) fun t156 H =>
 p.gT t154 H (p.load false 1 t156 H) fun t157 H =>
 p.gT t154 H (p.fadr 24 t3) fun t158 H =>
 p.gT t154 H (p.load false 1 t158 H) fun t159 H =>
 p.hT t154 H (p.call 4 (.fn 134 [] []) [t157, t159] H) fun t160 H =>
 p.pick t154 t160 bF fun t161 =>
 p.kT t55 H t109 fun t164 H =>
 p.pick t55 t164 bF fun t165 =>
 p.kT t165 H t142 fun t167 H =>
 p.pick t165 t167 bF fun t168 =>
 p.kT t168 H t161 fun t170 H =>
 p.pick t168 t170 bF fun t171 =>
 p.gT t171 H (p.fadr 20 t2) fun t173 H =>
 p.gT t171 H (p.load false 1 t173 H) fun t174 H =>
 p.gT t171 H (p.fadr 20 t3) fun t175 H =>
 p.gT t171 H (p.load false 1 t175 H) fun t176 H =>
 p.gT t171 H (p.bin .eql t174 t176) fun t177 H =>
 p.pick t171 t177 bF fun t178 =>
 p.gT t178 H (p.fadr 21 t2) fun t180 H =>
 p.gT t178 H (p.load false 1 t180 H) fun t181 H =>
 p.gT t178 H (p.fadr 21 t3) fun t182 H =>
 p.gT t178 H (p.load false 1 t182 H) fun t183 H =>
 p.gT t178 H (p.binB .eql t181 t183) fun t184 H =>
 p.pick t178 t184 bF fun t185 =>
 k t185 H
theorem Ad0 : Kb Akk @f104 := fun p n a0 a1 H k => by kernel_rfl
noncomputable def f106 (n : Nat) (a0 : AV) (H : Ac) (k : KO β) : Option β :=
 p.box a0 H fun t1 H =>
 p.fl 11 t1 1 H fun t5 =>
 p.un .not t5 fun t6 =>
 p.lF t6 H 12 t1 1 fun t9 H =>
 p.hF t6 H (p.ca 4 108 [t9] H) fun t10 H =>
 p.kF t6 H t10 fun t11 H =>
 p.lT t11 H 13 t1 1 fun t13 H =>
 p.gT t11 H (p.len t13) fun t14 H =>
 p.gT t11 H (p.bin .leq t14 (si 40)) fun t15 H =>
 p.gF t6 H (p.pick t11 t15 bF) fun t16 H =>
 p.kF t6 H t16 fun t17 H =>
 p.lT t17 H 14 t1 1 fun t19 H =>
 p.hT t17 H (p.ca 4 107 [t19] H) fun t20 H =>
 p.gF t6 H (p.pick t17 t20 bF) fun t21 H =>
 p.pick t6 bT t21 fun t22 =>
 p.fl 8 t1 1 H fun t24 =>
 p.ca 4 98 [t24, i0, (si 255)] H fun t25 H =>
 p.lT t25 H 7 t1 1 fun t28 H =>
 p.hT t25 H (p.ca 4 135 [t28] H) fun t29 H =>
 p.pick t25 t29 bF fun t30 =>
 p.lT t30 H 10 t1 1 fun t33 H =>
 p.hT t30 H (p.ca 4 118 [t33] H) fun t34 H =>
 p.pick t30 t34 bF fun t35 =>
 p.kT t35 H t22 fun t37 H =>
 p.pick t35 t37 bF fun t38 =>
 p.lT t38 H 17 t1 1 fun t41 H =>
 p.hT t38 H (p.ca 4 135 [t41] H) fun t42 H =>
 p.pick t38 t42 bF fun t43 =>
 p.lT t43 H 19 t1 1 fun t46 H =>
 p.gT t43 H (p.len t46) fun t47 H =>
 p.gT t43 H (p.bin .leq t47 (si 60)) fun t48 H =>
 p.pick t43 t48 bF fun t49 =>
 k t49 H
theorem Ad2 : Kv Akm @f106 := fun p n a0 H k => by kernel_rfl
noncomputable def f109 (n : Nat) (a0 : AV) (H : Ac) (k : KO β) : Option β :=
 p.call 4 (.fn 98 [] []) [a0, (si 1), (si 65535)] H fun t4 H =>
 k t4 H
theorem Ad5 : Kv Akp @f109 := fun p n a0 H k => by kernel_rfl
noncomputable def f150 (n : Nat) (a0 a1 : AV) (H : Ac) (k : KO β) : Option β :=
 p.call 4 (.fn 136 [] []) [a0, (.sc (.string ⟨#[43, 35]⟩))] H fun t6 H =>
 p.un .not t6 fun t7 =>
 p.kF t7 H a0 fun t9 H =>
 p.gF t7 H (p.bin .eql t9 (.sc (.string ⟨#[43]⟩))) fun t10 H =>
 p.pick t7 bT t10 fun t11 =>
 p.kF t11 H a0 fun t13 H =>
 p.gF t11 H (p.bin .eql t13 (.sc (.string ⟨#[35]⟩))) fun t14 H =>
 p.kF t11 H t14 fun t15 H =>
 p.kT t15 H a1 fun t16 H =>
 p.gF t11 H (p.pick t15 t16 bF) fun t17 H =>
 p.pick t11 bT t17 fun t18 =>
 k t18 H
theorem Aef : Kb Ak9 @f150 := fun p n a0 a1 H k => by kernel_rfl
noncomputable def Oi (p : Pr β) (n : Nat)  (k : KO β) : Nat → AV → AV → AV → AV → KO β
 | 0, _, _, _, _, _, _ => none
 | m + 1, t0, t3, t8, t9, t10, H => p.bin .lss t10 t9 fun t11 =>
   p.cond t11
   (p.iadr 1 t8 t10 fun t13 =>
   p.load false 1 t13 H fun t14 =>
   p.len t3 fun t18 =>
   p.bin .sub t18 (si 1) fun t19 =>
   p.bin .eql t10 t19 fun t20 =>
   p.call 4 (.fn 150 [] []) [t14, t20] H fun t21 H =>
   p.un .not t21 fun t22 =>
   p.cond t22
   (k bF H)
   (p.bin .add t10 (si 1) fun t23 =>
   Oi p n  k m t0 t3 t8 t9 t23 H))
   (p.call 4 (.fn 135 [] []) [t0] H fun t25 H =>
   p.kT t25 H t0 fun t27 H =>
   p.gT t25 H (p.bin .neq t27 sE) fun t28 H =>
   p.pick t25 t28 bF fun t29 =>
   p.kT t29 H t3 fun t31 H =>
   p.gT t29 H (p.len t31) fun t32 H =>
   p.gT t29 H (p.bin .leq t32 (si 6)) fun t33 H =>
   p.pick t29 t33 bF fun t34 =>
   k t34 H)
noncomputable def f138 (n : Nat) (a0 : AV) (H : Ac) (k : KO β) : Option β :=
 p.call 56 (.fn 137 [] []) [a0] H fun t7 H =>
 p.len t7 fun t9 =>
 Oi p n  k n a0 t7 t7 t9 i0 H
noncomputable def AcK (p : Pr β) (n : Nat)  (k : KO β) (m : Nat) (tm : Tm) (H : Ac) : Option β :=
 Dw 35 (fun tm H k => Ak As p [] 35 n (cd Alb [1, 1, 0, 1, 0, 0]) tm H k) (Ez 0 (Eg (fun tm H => Ak As p [] 35 n (cd Alb [1, 1, 1]) tm H (Cp As p fi138.results k)) (Cp As p fi138.results k))) m tm H
theorem AbG (p : Pr β) (n : Nat)  (k : KO β) (m0 : Nat) : ∀ (t : Nat → AV) (H : Ac), AcK p n  k m0 (tf 35 0 t) H = Oi p n  k m0 (t 0) (t 3) (t 8) (t 9) (t 10) H := by
 induction m0 with
 | zero => intros; rfl
 | succ m0 ih =>
  intro t H
  refine Eq.trans (Bq (nt := 35) (m := m0) (g := fun t H => Oi p n  k m0 (t 0) (t 3) (t 8) (t 9) (t 10) H) ih rfl) ?_
  kernel_rfl
theorem Af0 (p : Pr β) (n : Nat) (a0 : AV) (H : Ac) (k : KO β) : Cj As p n fi138 [a0] H k =
 p.call 56 (.fn 137 [] []) [a0] H fun t7 H =>
 p.len t7 fun t9 =>
 AcK p n  k n (tf 35 0 (ud [(0, a0), (2, bF), (3, t7), (6, a0), (7, t7), (8, t7), (9, t9), (10, i0)] ut)) H := by kernel_rfl
theorem AdW : Kv fi138 @f138 := fun p n a0 H k => by
 rw [Af0]
 simp only [AbG]
 kernel_rfl
noncomputable def Oe (p : Pr β) (n : Nat)  (k : KO β) : Nat → AV → AV → AV → KO β
 | 0, _, _, _, _, _ => none
 | m + 1, t1, t39, t40, t41, H => p.bin .lss t41 t40 fun t42 =>
   p.cond t42
   (p.iadr 1 t39 t41 fun t43 =>
   p.load false 1 t43 H fun t44 =>
   p.ca 4 107 [t44] H fun t46 H =>
   p.un .not t46 fun t47 =>
   p.kT t47 H t44 fun t49 H =>
   p.gT t47 H (p.bin .neq t49 (si 128)) fun t50 H =>
   p.pick t47 t50 bF fun t51 =>
   p.cond t51
   (k bF H)
   (p.bin .add t41 (si 1) fun t52 =>
   Oe p n  k m t1 t39 t40 t52 H))
   (p.fadr 22 t1 fun t53 =>
   p.load false 1 t53 H fun t54 =>
   p.len t54 fun t55 =>
   p.fl 23 t1 1 H fun t57 =>
   p.len t57 fun t58 =>
   p.bin .add t55 t58 fun t59 =>
   p.fl 24 t1 1 H fun t61 =>
   p.len t61 fun t62 =>
   p.bin .add t59 t62 fun t63 =>
   p.ca 4 98 [t63, (si 1), (si 4)] H fun t64 H =>
   k t64 H)
noncomputable def Lm (p : Pr β) (n : Nat)  (k : KO β) : Nat → AV → AV → AV → KO β
 | 0, _, _, _, _, _ => none
 | m + 1, t1, t28, t29, t30, H => p.bin .lss t30 t29 fun t31 =>
   p.cond t31
   (p.iadr 1 t28 t30 fun t32 =>
   p.load false 1 t32 H fun t33 =>
   p.ca 4 138 [t33] H fun t35 H =>
   p.un .not t35 fun t36 =>
   p.cond t36
   (k bF H)
   (p.bin .add t30 (si 1) fun t37 =>
   Lm p n  k m t1 t28 t29 t37 H))
   (p.fadr 24 t1 fun t38 =>
   p.load false 1 t38 H fun t39 =>
   p.len t39 fun t40 =>
   Oe p n  k n t1 t39 t40 i0 H)
noncomputable def Ll (p : Pr β) (n : Nat)  (k : KO β) : Nat → AV → AV → AV → KO β
 | 0, _, _, _, _, _ => none
 | m + 1, t1, t10, t11, t12, H => p.bin .lss t12 t11 fun t13 =>
   p.cond t13
   (p.iadr 2 t10 t12 fun t14 =>
   p.load true 2 t14 H fun t15 =>
   p.new [sE, i0] H fun t4 H =>
   p.store 2 t4 t15 H fun H =>
   p.fl 0 t4 1 H fun t17 =>
   p.ca 4 138 [t17] H fun t18 H =>
   p.un .not t18 fun t19 =>
   p.lF t19 H 1 t4 1 fun t22 H =>
   p.hF t19 H (p.ca 4 107 [t22] H) fun t23 H =>
   p.gF t19 H (p.un .not t23) fun t24 H =>
   p.pick t19 bT t24 fun t25 =>
   p.cond t25
   (k bF H)
   (p.bin .add t12 (si 1) fun t26 =>
   Ll p n  k m t1 t10 t11 t26 H))
   (p.fadr 23 t1 fun t27 =>
   p.load false 1 t27 H fun t28 =>
   p.len t28 fun t29 =>
   Lm p n  k n t1 t28 t29 i0 H)
noncomputable def f110 (n : Nat) (a0 : AV) (H : Ac) (k : KO β) : Option β :=
 p.box a0 H fun t1 H =>
 p.fl 22 t1 1 H fun t10 =>
 p.len t10 fun t11 =>
 Ll p n  k n t1 t10 t11 i0 H
noncomputable def Ac4 (p : Pr β) (n : Nat)  (k : KO β) (m : Nat) (tm : Tm) (H : Ac) : Option β :=
 Dw 65 (fun tm H k => Ak As p [] 65 n (cd Va [1, 1, 1, 0, 1, 0, 0]) tm H k) (Ez 4 (Eg (fun tm H => Ak As p [] 65 n (cd Va [1, 1, 1, 1]) tm H (Cp As p fi110.results k)) (Cp As p fi110.results k))) m tm H
noncomputable def Ac3 (p : Pr β) (n : Nat)  (k : KO β) (m : Nat) (tm : Tm) (H : Ac) : Option β :=
 Dw 65 (fun tm H k => Ak As p [] 65 n (cd Va [1, 1, 0, 1, 0, 0]) tm H k) (Ez 2 (Eg (fun tm H => Ak As p [] 65 n (cd Va [1, 1, 1]) tm H (Cp As p fi110.results k)) (Cp As p fi110.results k))) m tm H
noncomputable def Ac2 (p : Pr β) (n : Nat)  (k : KO β) (m : Nat) (tm : Tm) (H : Ac) : Option β :=
 Dw 65 (fun tm H k => Ak As p [] 65 n (cd Va [1, 0, 1, 0, 0]) tm H k) (Ez 0 (Eg (fun tm H => Ak As p [] 65 n (cd Va [1, 1]) tm H (Cp As p fi110.results k)) (Cp As p fi110.results k))) m tm H
theorem Vn (p : Pr β) (n : Nat)  (k : KO β) (m2 : Nat) : ∀ (t : Nat → AV) (H : Ac), Ac4 p n  k m2 (tf 65 0 t) H = Oe p n  k m2 (t 1) (t 39) (t 40) (t 41) H := by
 induction m2 with
 | zero => intros; rfl
 | succ m2 ih =>
  intro t H
  refine Eq.trans (Bq (nt := 65) (m := m2) (g := fun t H => Oe p n  k m2 (t 1) (t 39) (t 40) (t 41) H) ih rfl) ?_
  kernel_rfl
theorem Zg (p : Pr β) (n : Nat)  (k : KO β) (m1 : Nat) (t : Nat → AV) (H : Ac) : Ak As p [] 65 n (cd Va [1, 1, 0, 1, 0, 0]) (tf 65 0 t) H (Eg (fun tm H => Lm p n  k m1 (gt tm 1) (gt tm 28) (gt tm 29) (gt tm 30) H) (Ez 2 (Eg (fun tm H => Ak As p [] 65 n (cd Va [1, 1, 1]) tm H (Cp As p fi110.results k)) (Cp As p fi110.results k)))) =
 p.bin .lss (t 30) (t 29) fun t31 =>
 p.cond t31
 (p.iadr 1 (t 28) (t 30) fun t32 =>
 p.load false 1 t32 H fun t33 =>
 p.call 4 (.fn 138 [] []) [t33] H fun t35 H =>
 p.un .not t35 fun t36 =>
 p.cond t36
 (k bF H)
 (p.bin .add (t 30) (si 1) fun t37 =>
 Lm p n  k m1 (t 1) (t 28) (t 29) t37 H))
 (p.fadr 24 (t 1) fun t38 =>
 p.load false 1 t38 H fun t39 =>
 p.len t39 fun t40 =>
 Ac4 p n  k n (tf 65 0 (ud [(31, t31), (38, t38), (39, t39), (40, t40), (41, i0)] t)) H) := by kernel_rfl
theorem Vm (p : Pr β) (n : Nat)  (k : KO β) (m1 : Nat) : ∀ (t : Nat → AV) (H : Ac), Ac3 p n  k m1 (tf 65 0 t) H = Lm p n  k m1 (t 1) (t 28) (t 29) (t 30) H := by
 induction m1 with
 | zero => intros; rfl
 | succ m1 ih =>
  intro t H
  refine Eq.trans (Bq (nt := 65) (m := m1) (g := fun t H => Lm p n  k m1 (t 1) (t 28) (t 29) (t 30) H) ih rfl) ?_
  refine Eq.trans (Zg p n  k m1 t H) ?_
  simp only [Vn]
  kernel_rfl
theorem Zf (p : Pr β) (n : Nat)  (k : KO β) (m0 : Nat) (t : Nat → AV) (H : Ac) : Ak As p [] 65 n (cd Va [1, 0, 1, 0, 0]) (tf 65 0 t) H (Eg (fun tm H => Ll p n  k m0 (gt tm 1) (gt tm 10) (gt tm 11) (gt tm 12) H) (Ez 0 (Eg (fun tm H => Ak As p [] 65 n (cd Va [1, 1]) tm H (Cp As p fi110.results k)) (Cp As p fi110.results k)))) =
 p.bin .lss (t 12) (t 11) fun t13 =>
 p.cond t13
 (p.iadr 2 (t 10) (t 12) fun t14 =>
 p.load true 2 t14 H fun t15 =>
 p.new [sE, i0] H fun t4 H =>
 p.store 2 t4 t15 H fun H =>
 p.fadr 0 t4 fun t16 =>
 p.load false 1 t16 H fun t17 =>
 p.call 4 (.fn 138 [] []) [t17] H fun t18 H =>
 p.un .not t18 fun t19 =>
 p.gF t19 H (p.fadr 1 t4) fun t21 H =>
 p.gF t19 H (p.load false 1 t21 H) fun t22 H =>
 p.hF t19 H (p.call 4 (.fn 107 [] []) [t22] H) fun t23 H =>
 p.gF t19 H (p.un .not t23) fun t24 H =>
 p.pick t19 bT t24 fun t25 =>
 p.cond t25
 (k bF H)
 (p.bin .add (t 12) (si 1) fun t26 =>
 Ll p n  k m0 (t 1) (t 10) (t 11) t26 H))
 (p.fadr 23 (t 1) fun t27 =>
 p.load false 1 t27 H fun t28 =>
 p.len t28 fun t29 =>
 Ac3 p n  k n (tf 65 0 (ud [(13, t13), (27, t27), (28, t28), (29, t29), (30, i0)] t)) H) := by kernel_rfl
theorem Ab2 (p : Pr β) (n : Nat)  (k : KO β) (m0 : Nat) : ∀ (t : Nat → AV) (H : Ac), Ac2 p n  k m0 (tf 65 0 t) H = Ll p n  k m0 (t 1) (t 10) (t 11) (t 12) H := by
 induction m0 with
 | zero => intros; rfl
 | succ m0 ih =>
  intro t H
  refine Eq.trans (Bq (nt := 65) (m := m0) (g := fun t H => Ll p n  k m0 (t 1) (t 10) (t 11) (t 12) H) ih rfl) ?_
  refine Eq.trans (Zf p n  k m0 t H) ?_
  simp only [Vm]
  kernel_rfl
theorem Afk (p : Pr β) (n : Nat) (a0 : AV) (H : Ac) (k : KO β) : Cj As p n fi110 [a0] H k =
 p.box a0 H fun t1 H =>
 p.fadr 22 t1 fun t9 =>
 p.load false 1 t9 H fun t10 =>
 p.len t10 fun t11 =>
 Ac2 p n  k n (tf 65 0 (ud [(0, a0), (1, t1), (2, bF), (9, t9), (10, t10), (11, t11), (12, i0)] ut)) H := by kernel_rfl
theorem Ad6 : Kv fi110 @f110 := fun p n a0 H k => by
 rw [Afk]
 simp only [Vn, Vm, Ab2]
 kernel_rfl
noncomputable def f70 (n : Nat) (a0 : AV) (H : Ac) (k : KO β) : Option β :=
 p.box a0 H fun t1 H =>
 p.fl 0 t1 1 H fun t4 =>
 p.ca 4 98 [t4, (si 1), (si 14)] H fun t5 H =>
 p.un .not t5 fun t6 =>
 p.gF t6 H (p.load true 25 t1 H) fun t9 H =>
 p.both
 (p.gF t6 H (p.load true 25 t1 H) fun t8 H =>
 p.hF t6 H (p.ca 59 105 [t9] H) fun t10 H =>
 p.hF t6 H (p.ca 4 104 [t8, t10] H) fun t11 H =>
 p.gF t6 H (p.un .not t11) fun t12 H =>
 p.pick t6 bT t12 fun t13 =>
 p.cond t13
 (k bF H)
 (p.fadr 0 t1 fun t14 =>
 p.load false 1 t14 H fun t15 =>
 p.bin .eql t15 (si 1) fun t17 =>
 p.cond t17
 (p.load true 25 t1 H fun t18 =>
 p.ca 4 106 [t18] H fun t19 H =>
 k t19 H)
 (p.bin .eql t15 (si 2) fun t21 =>
 p.cond t21
 (p.fadr 20 t1 fun t22 =>
 p.load false 1 t22 H fun t23 =>
 p.ca 4 98 [t23, i0, (si 5)] H fun t24 H =>
 p.lT t24 H 21 t1 1 fun t27 H =>
 p.gT t24 H (p.un .not t27) fun t28 H =>
 p.kT t24 H t28 fun t29 H =>
 p.lF t29 H 20 t1 1 fun t31 H =>
 p.gF t29 H (p.bin .eql t31 i0) fun t32 H =>
 p.gT t24 H (p.pick t29 bT t32) fun t33 H =>
 p.pick t24 t33 bF fun t34 =>
 k t34 H)
 (p.bin .eql t15 (si 3) fun t36 =>
 p.cond t36
 (p.fadr 2 t1 fun t37 =>
 p.load false 1 t37 H fun t38 =>
 p.ca 4 107 [t38] H fun t39 H =>
 p.lT t39 H 5 t1 1 fun t42 H =>
 p.hT t39 H (p.ca 4 108 [t42] H) fun t43 H =>
 p.pick t39 t43 bF fun t44 =>
 p.lT t44 H 6 t1 1 fun t47 H =>
 p.gT t44 H (p.len t47) fun t48 H =>
 p.gT t44 H (p.bin .leq t48 (si 40)) fun t49 H =>
 p.pick t44 t49 bF fun t50 =>
 p.lT t50 H 2 t1 1 fun t53 H =>
 p.gT t50 H (p.bin .eql t53 i0) fun t54 H =>
 p.kT t50 H t54 fun t55 H =>
 p.lF t55 H 4 t1 1 fun t57 H =>
 p.hF t55 H (p.ca 4 109 [t57] H) fun t58 H =>
 p.gT t50 H (p.pick t55 bT t58) fun t59 H =>
 p.pick t50 t59 bF fun t60 =>
 k t60 H)
 (p.bin .eql t15 (si 4) fun t62 =>
 E1 (fun (t1 t15 t61 : AV) (H : Ac) => p.cond t61
 (p.fadr 4 t1 fun t67 =>
 p.load false 1 t67 H fun t68 =>
 p.ca 4 109 [t68] H fun t69 H =>
 k t69 H)
 (p.bin .eql t15 (si 8) fun t71 =>
 E1 (fun (t1 t70 : AV) (H : Ac) => p.cond t70
 (p.fadr 4 t1 fun t74 =>
 p.load false 1 t74 H fun t75 =>
 p.ca 4 109 [t75] H fun t76 H =>
 p.gT t76 H (p.load true 25 t1 H) fun t78 H =>
 p.hT t76 H (p.ca 4 110 [t78] H) fun t79 H =>
 p.pick t76 t79 bF fun t80 =>
 k t80 H)
 (k bT H)) fun j2 =>
 p.cond t71
 (j2 t1 t71 H)
 (p.bin .eql t15 (si 9) fun t72 =>
 p.cond t72
 (j2 t1 t72 H)
 (p.bin .eql t15 (si 10) fun t73 =>
 j2 t1 t73 H)))) fun j1 =>
 p.cond t62
 (j1 t1 t15 t62 H)
 (p.bin .eql t15 (si 5) fun t63 =>
 p.cond t63
 (j1 t1 t15 t63 H)
 (p.bin .eql t15 (si 6) fun t64 =>
 p.cond t64
 (j1 t1 t15 t64 H)
 (p.bin .eql t15 (si 7) fun t65 =>
 p.cond t65
 (j1 t1 t15 t65 H)
 (p.bin .eql t15 (si 11) fun t66 =>
 j1 t1 t15 t66 H)))))))))
 (p.hF t6 H (p.ca 59 105 [t9] H) fun t10 H =>
 p.gF t6 H (p.load true 25 t1 H) fun t8 H =>
 p.hF t6 H (p.ca 4 104 [t8, t10] H) fun t11 H =>
 p.gF t6 H (p.un .not t11) fun t12 H =>
 p.pick t6 bT t12 fun t13 =>
 p.cond t13
 (k bF H)
 (p.fadr 0 t1 fun t14 =>
 p.load false 1 t14 H fun t15 =>
 p.bin .eql t15 (si 1) fun t17 =>
 p.cond t17
 (p.load true 25 t1 H fun t18 =>
 p.ca 4 106 [t18] H fun t19 H =>
 k t19 H)
 (p.bin .eql t15 (si 2) fun t21 =>
 p.cond t21
 (p.fadr 20 t1 fun t22 =>
 p.load false 1 t22 H fun t23 =>
 p.ca 4 98 [t23, i0, (si 5)] H fun t24 H =>
 p.lT t24 H 21 t1 1 fun t27 H =>
 p.gT t24 H (p.un .not t27) fun t28 H =>
 p.kT t24 H t28 fun t29 H =>
 p.lF t29 H 20 t1 1 fun t31 H =>
 p.gF t29 H (p.bin .eql t31 i0) fun t32 H =>
 p.gT t24 H (p.pick t29 bT t32) fun t33 H =>
 p.pick t24 t33 bF fun t34 =>
 k t34 H)
 (p.bin .eql t15 (si 3) fun t36 =>
 p.cond t36
 (p.fadr 2 t1 fun t37 =>
 p.load false 1 t37 H fun t38 =>
 p.ca 4 107 [t38] H fun t39 H =>
 p.lT t39 H 5 t1 1 fun t42 H =>
 p.hT t39 H (p.ca 4 108 [t42] H) fun t43 H =>
 p.pick t39 t43 bF fun t44 =>
 p.lT t44 H 6 t1 1 fun t47 H =>
 p.gT t44 H (p.len t47) fun t48 H =>
 p.gT t44 H (p.bin .leq t48 (si 40)) fun t49 H =>
 p.pick t44 t49 bF fun t50 =>
 p.lT t50 H 2 t1 1 fun t53 H =>
 p.gT t50 H (p.bin .eql t53 i0) fun t54 H =>
 p.kT t50 H t54 fun t55 H =>
 p.lF t55 H 4 t1 1 fun t57 H =>
 p.hF t55 H (p.ca 4 109 [t57] H) fun t58 H =>
 p.gT t50 H (p.pick t55 bT t58) fun t59 H =>
 p.pick t50 t59 bF fun t60 =>
 k t60 H)
 (p.bin .eql t15 (si 4) fun t62 =>
 E1 (fun (t1 t15 t61 : AV) (H : Ac) => p.cond t61
 (p.fadr 4 t1 fun t67 =>
 p.load false 1 t67 H fun t68 =>
 p.ca 4 109 [t68] H fun t69 H =>
 k t69 H)
 (p.bin .eql t15 (si 8) fun t71 =>
 E1 (fun (t1 t70 : AV) (H : Ac) => p.cond t70
 (p.fadr 4 t1 fun t74 =>
 p.load false 1 t74 H fun t75 =>
 p.ca 4 109 [t75] H fun t76 H =>
 p.gT t76 H (p.load true 25 t1 H) fun t78 H =>
 p.hT t76 H (p.ca 4 110 [t78] H) fun t79 H =>
 p.pick t76 t79 bF fun t80 =>
 k t80 H)
 (k bT H)) fun j4 =>
 p.cond t71
 (j4 t1 t71 H)
 (p.bin .eql t15 (si 9) fun t72 =>
 p.cond t72
 (j4 t1 t72 H)
 (p.bin .eql t15 (si 10) fun t73 =>
 j4 t1 t73 H)))) fun j3 =>
 p.cond t62
 (j3 t1 t15 t62 H)
 (p.bin .eql t15 (si 5) fun t63 =>
 p.cond t63
 (j3 t1 t15 t63 H)
 (p.bin .eql t15 (si 6) fun t64 =>
 p.cond t64
 (j3 t1 t15 t64 H)
 (p.bin .eql t15 (si 7) fun t65 =>
 p.cond t65
 (j3 t1 t15 t65 H)
 (p.bin .eql t15 (si 11) fun t66 =>
 j3 t1 t15 t66 H)))))))))
theorem Agj : Kv Anh @f70 := fun p n a0 H k => by kernel_rfl
noncomputable def f67 (n : Nat) (a0 : AV) (H : Ac) (k : KO β) : Option β :=
 p.bin .quo a0 (si 16) fun t7 =>
 p.bin .rem a0 (si 16) fun t9 =>
 p.bin .eql t7 (si 3) fun t12 =>
 p.cond t12
 (p.bin .shr t9 (.sc (.int .u64 1)) fun t14 =>
 p.bin .and t14 (si 3) fun t15 =>
 p.bin .neq t15 (si 3) fun t17 =>
 p.kT t17 H t15 fun t19 H =>
 p.gT t17 H (p.bin .gtr t19 i0) fun t20 H =>
 p.kT t17 H t20 fun t21 H =>
 p.kF t21 H t9 fun t22 H =>
 p.gF t21 H (p.bin .and t22 (si 8)) fun t23 H =>
 p.gF t21 H (p.bin .eql t23 i0) fun t24 H =>
 p.gT t17 H (p.pick t21 bT t24) fun t25 H =>
 p.pick t17 t25 bF fun t26 =>
 k t26 H)
 (p.bin .eql t7 (si 6) fun t28 =>
 E1 (fun (t3 t4 t27 : AV) (H : Ac) => p.cond t27
 (p.bin .eql t4 (si 2) fun t32 =>
 k t32 H)
 (p.ca 4 98 [t3, (si 1), (si 14)] H fun t34 H =>
 p.kT t34 H t4 fun t36 H =>
 p.gT t34 H (p.bin .eql t36 i0) fun t37 H =>
 p.pick t34 t37 bF fun t38 =>
 k t38 H)) fun j1 =>
 p.cond t28
 (j1 t7 t9 t28 H)
 (p.bin .eql t7 (si 8) fun t29 =>
 p.cond t29
 (j1 t7 t9 t29 H)
 (p.bin .eql t7 (si 10) fun t30 =>
 j1 t7 t9 t30 H)))
theorem Agf : Kv Anf @f67 := fun p n a0 H k => by kernel_rfl
noncomputable def Ri (p : Pr β) (n : Nat)  (k : KO β) : Nat → AV → AV → AV → KO β
 | 0, _, _, _, _, _ => none
 | m + 1, t0, t1, t7, t15, H => p.bin .lss t15 (si 4) fun t16 =>
   p.cond t16
   (p.bin .add t1 t15 fun t20 =>
   p.len t0 fun t22 =>
   p.bin .eql t20 t22 fun t23 =>
   p.cond t23
   (k (Dk [i0, i0, (si 1)]) H)
   (p.bin .add t1 t15 fun t27 =>
   p.iadr 1 t0 t27 fun t28 =>
   p.load false 1 t28 H fun t29 =>
   p.cvI .i64 t29 fun t30 =>
   p.bin .and t30 (si 127) fun t33 =>
   p.bin .mul (si 7) t15 fun t35 =>
   p.bin .shl t33 t35 fun t36 =>
   p.bin .or t7 t36 fun t37 =>
   p.bin .gtr t30 (si 127) fun t39 =>
   p.cond t39
   (p.bin .add t15 (si 1) fun t51 =>
   Ri p n  k m t0 t1 t37 t51 H)
   (p.bin .gtr t15 i0 fun t41 =>
   p.kT t41 H t30 fun t43 H =>
   p.gT t41 H (p.bin .eql t43 i0) fun t44 H =>
   p.pick t41 t44 bF fun t45 =>
   p.cond t45
   (k (Dk [i0, i0, (si 2)]) H)
   (p.bin .add t1 t15 fun t49 =>
   p.bin .add t49 (si 1) fun t50 =>
   k (Dk [t37, t50, i0]) H))))
   (k (Dk [i0, i0, (si 2)]) H)
noncomputable def f68 (n : Nat) (a0 a1 : AV) (H : Ac) (k : KO β) : Option β :=
 p.len a0 fun t12 =>
 p.ca 4 98 [a1, i0, t12] H fun t13 H =>
 p.un .not t13 fun t14 =>
 p.cond t14
 (k (Dk [i0, i0, (si 2)]) H)
 (Ri p n  k n a0 a1 i0 i0 H)
noncomputable def Agg (p : Pr β) (n : Nat)  (k : KO β) (m : Nat) (tm : Tm) (H : Ac) : Option β :=
 Dw 52 (fun tm H k => Ak As p [] 52 n (cd c68 [1, 1, 1, 0, 1, 0, 0]) tm H k) (Ez 0 (Eg (fun tm H => Ak As p [] 52 n (cd c68 [1, 1, 1, 1]) tm H (Cp As p fi68.results k)) (Cp As p fi68.results k))) m tm H
theorem Aeu (p : Pr β) (n : Nat)  (k : KO β) (m0 : Nat) : ∀ (t : Nat → AV) (H : Ac), Agg p n  k m0 (tf 52 0 t) H = Ri p n  k m0 (t 0) (t 1) (t 7) (t 15) H := by
 induction m0 with
 | zero => intros; rfl
 | succ m0 ih =>
  intro t H
  refine Eq.trans (Bq (nt := 52) (m := m0) (g := fun t H => Ri p n  k m0 (t 0) (t 1) (t 7) (t 15) H) ih rfl) ?_
  kernel_rfl
theorem Ajj (p : Pr β) (n : Nat) (a0 a1 : AV) (H : Ac) (k : KO β) : Cj As p n fi68 [a0, a1] H k =
 p.len a0 fun t12 =>
 p.call 4 (.fn 98 [] []) [a1, i0, t12] H fun t13 H =>
 p.un .not t13 fun t14 =>
 p.cond t14
 (k (Dk [i0, i0, (si 2)]) H)
 (Agg p n  k n (tf 52 0 (ud [(0, a0), (1, a1), (4, i0), (5, i0), (6, i0), (7, i0), (10, a1), (11, a0), (12, t12), (13, t13), (14, t14), (15, i0)] ut)) H) := by kernel_rfl
theorem Agh : Kb fi68 @f68 := fun p n a0 a1 H k => by
 rw [Ajj]
 simp only [Aeu]
 kernel_rfl
noncomputable def f130 (n : Nat) (a0 a1 : AV) (H : Ac) (k : KO β) : Option β :=
 p.bin .lss a1 i0 fun t8 =>
 p.kF t8 H a1 fun t10 H =>
 p.kF t8 H a0 fun t11 H =>
 p.gF t8 H (p.len t11) fun t12 H =>
 p.gF t8 H (p.bin .sub t12 (si 2)) fun t13 H =>
 p.gF t8 H (p.bin .gtr t10 t13) fun t14 H =>
 p.pick t8 bT t14 fun t15 =>
 p.cond t15
 (k (Dk [i0, i0, bF]) H)
 (p.iadr 1 a0 a1 fun t18 =>
 p.load false 1 t18 H fun t19 =>
 p.cvI .i64 t19 fun t20 =>
 p.bin .shl t20 (.sc (.int .u64 8)) fun t21 =>
 p.bin .add a1 (si 1) fun t24 =>
 p.iadr 1 a0 t24 fun t25 =>
 p.load false 1 t25 H fun t26 =>
 p.cvI .i64 t26 fun t27 =>
 p.bin .or t21 t27 fun t28 =>
 p.bin .add a1 (si 2) fun t30 =>
 k (Dk [t28, t30, bT]) H)
theorem AdQ : Kb Akz @f130 := fun p n a0 a1 H k => by kernel_rfl
noncomputable def Ol (p : Pr β) (n : Nat)  (k : KO β) : Nat → AV → AV → AV → KO β
 | 0, _, _, _, _, _ => none
 | m + 1, t3, t7, t8, t9, H => p.bin .lss t9 t8 fun t10 =>
   p.cond t10
   (p.iadr 1 t7 t9 fun t11 =>
   p.load false 1 t11 H fun t12 =>
   p.app 1 1 t3 t12 H fun t15 H =>
   p.bin .add t9 (si 1) fun t16 =>
   Ol p n  k m t15 t7 t8 t16 H)
   (k t3 H)
noncomputable def f77 (n : Nat) (a0 : AV) (H : Ac) (k : KO β) : Option β :=
 p.len a0 fun t8 =>
 Ol p n  k n .nl a0 t8 i0 H
noncomputable def Ags (p : Pr β) (n : Nat)  (k : KO β) (m : Nat) (tm : Tm) (H : Ac) : Option β :=
 Dw 18 (fun tm H k => Ak As p [] 18 n (cd c77 [1, 1, 0, 1, 0, 0]) tm H k) (Ez 0 (Eg (fun tm H => Ak As p [] 18 n (cd c77 [1, 1, 1]) tm H (Cp As p fi77.results k)) (Cp As p fi77.results k))) m tm H
theorem Aey (p : Pr β) (n : Nat)  (k : KO β) (m0 : Nat) : ∀ (t : Nat → AV) (H : Ac), Ags p n  k m0 (tf 18 0 t) H = Ol p n  k m0 (t 3) (t 7) (t 8) (t 9) H := by
 induction m0 with
 | zero => intros; rfl
 | succ m0 ih =>
  intro t H
  refine Eq.trans (Bq (nt := 18) (m := m0) (g := fun t H => Ol p n  k m0 (t 3) (t 7) (t 8) (t 9) H) ih rfl) ?_
  kernel_rfl
theorem Ajn (p : Pr β) (n : Nat) (a0 : AV) (H : Ac) (k : KO β) : Cj As p n fi77 [a0] H k =
 p.len a0 fun t8 =>
 Ags p n  k n (tf 18 0 (ud [(0, a0), (2, .nl), (3, .nl), (6, .nl), (7, a0), (8, t8), (9, i0)] ut)) H := by kernel_rfl
theorem Agt : Kv fi77 @f77 := fun p n a0 H k => by
 rw [Ajn]
 simp only [Aey]
 kernel_rfl
noncomputable def f146 (n : Nat) (a0 a1 : AV) (H : Ac) (k : KO β) : Option β :=
 p.call 110 (.fn 130 [] []) [a0, a1] H fun t13 H =>
 p.extr t13 0 fun t14 =>
 p.extr t13 1 fun t15 =>
 p.extr t13 2 fun t16 =>
 p.un .not t16 fun t18 =>
 p.kF t18 H t14 fun t20 H =>
 p.gF t18 H (p.bin .gtr t20 (si 60)) fun t21 H =>
 p.pick t18 bT t21 fun t22 =>
 p.kF t22 H t14 fun t24 H =>
 p.kF t22 H a0 fun t25 H =>
 p.gF t22 H (p.len t25) fun t26 H =>
 p.kF t22 H t15 fun t27 H =>
 p.gF t22 H (p.bin .sub t26 t27) fun t28 H =>
 p.gF t22 H (p.bin .gtr t24 t28) fun t29 H =>
 p.pick t22 bT t29 fun t30 =>
 p.cond t30
 (k (Dk [.nl, i0, bF]) H)
 (p.bin .add t15 t14 fun t35 =>
 p.slice 1 a0 (some t15) (some t35) fun t36 =>
 p.fill [.nl] [(0, 1, t36)] fun ct37 => p.newSl 1 1 ct37 true H fun t37 H =>
 p.call 22 (.fn 77 [] []) [t37] H fun t38 H =>
 p.bin .add t15 t14 fun t41 =>
 k (Dk [t38, t41, bT]) H)
theorem Aee : Kb Ak8 @f146 := fun p n a0 a1 H k => by kernel_rfl
noncomputable def f129 (n : Nat) (a0 : AV) (H : Ac) (k : KO β) : Option β :=
 p.nil a0 fun t8 =>
 p.fl 0 t8 1 H fun t10 =>
 p.nil a0 fun t12 =>
 p.fl 1 t12 1 H fun t14 =>
 p.ca 131 146 [t10, t14] H fun t15 H =>
 p.extr t15 0 fun t16 =>
 p.extr t15 1 fun t17 =>
 p.extr t15 2 fun t18 =>
 p.nil a0 fun t20 =>
 p.fl 2 t20 1 H fun t22 =>
 p.kF t22 H t18 fun t24 H =>
 p.gF t22 H (p.un .not t24) fun t25 H =>
 p.pick t22 bT t25 fun t26 =>
 p.cond t26
 (p.nil a0 fun t28 =>
 p.fs 2 t28 1 bT H fun H =>
 k .nl H)
 (p.nil a0 fun t32 =>
 p.fs 1 t32 1 t17 H fun H =>
 k t16 H)
theorem AdP : Kv Aky @f129 := fun p n a0 H k => by kernel_rfl
noncomputable def f101 (n : Nat) (a0 : AV) (H : Ac) (k : KO β) : Option β :=
 p.call 22 (.fn 129 [] []) [a0] H fun t4 H =>
 p.cvBS t4 H fun t5 =>
 k t5 H
theorem Adx : Kv Aki @f101 := fun p n a0 H k => by kernel_rfl
noncomputable def f100 (n : Nat) (a0 : AV) (H : Ac) (k : KO β) : Option β :=
 p.nil a0 fun t4 =>
 p.fl 2 t4 1 H fun t6 =>
 p.kF t6 H a0 fun t8 H =>
 p.gF t6 H (p.nil t8) fun t9 H =>
 p.lF t6 H 1 t9 1 fun t11 H =>
 p.kF t6 H a0 fun t12 H =>
 p.gF t6 H (p.nil t12) fun t13 H =>
 p.lF t6 H 0 t13 1 fun t15 H =>
 p.gF t6 H (p.len t15) fun t16 H =>
 p.gF t6 H (p.bin .geq t11 t16) fun t17 H =>
 p.pick t6 bT t17 fun t18 =>
 p.cond t18
 (p.nil a0 fun t20 =>
 p.fs 2 t20 1 bT H fun H =>
 k i0 H)
 (p.nil a0 fun t23 =>
 p.fl 1 t23 1 H fun t25 =>
 p.bin .add t25 (si 1) fun t26 =>
 p.nil a0 fun t27 =>
 p.fs 1 t27 1 t26 H fun H =>
 p.nil a0 fun t30 =>
 p.fl 0 t30 1 H fun t32 =>
 p.nil a0 fun t34 =>
 p.fl 1 t34 1 H fun t36 =>
 p.bin .sub t36 (si 1) fun t37 =>
 p.iadr 1 t32 t37 fun t38 =>
 p.load false 1 t38 H fun t39 =>
 p.cvI .i64 t39 fun t40 =>
 k t40 H)
theorem Adw : Kv Akh @f100 := fun p n a0 H k => by kernel_rfl
noncomputable def f102 (n : Nat) (a0 : AV) (H : Ac) (k : KO β) : Option β :=
 p.nil a0 fun t8 =>
 p.fl 0 t8 1 H fun t10 =>
 p.nil a0 fun t12 =>
 p.fl 1 t12 1 H fun t14 =>
 p.ca 110 130 [t10, t14] H fun t15 H =>
 p.extr t15 0 fun t16 =>
 p.extr t15 1 fun t17 =>
 p.extr t15 2 fun t18 =>
 p.nil a0 fun t20 =>
 p.fl 2 t20 1 H fun t22 =>
 p.kF t22 H t18 fun t24 H =>
 p.gF t22 H (p.un .not t24) fun t25 H =>
 p.pick t22 bT t25 fun t26 =>
 p.cond t26
 (p.nil a0 fun t28 =>
 p.fs 2 t28 1 bT H fun H =>
 k i0 H)
 (p.nil a0 fun t32 =>
 p.fs 1 t32 1 t17 H fun H =>
 k t16 H)
theorem Ady : Kv Akj @f102 := fun p n a0 H k => by kernel_rfl
noncomputable def f99 (n : Nat) (a0 a1 : AV) (H : Ac) (k : KO β) : Option β :=
 p.ca 9 101 [a0] H fun t6 H =>
 p.ca 3 100 [a0] H fun t9 H =>
 p.nil a1 fun t10 =>
 p.fs 8 t10 1 t9 H fun H =>
 p.ca 3 100 [a0] H fun t13 H =>
 p.ca 3 102 [a0] H fun t16 H =>
 p.nil a1 fun t17 =>
 p.fs 10 t17 1 t16 H fun H =>
 p.ca 9 101 [a0] H fun t21 H =>
 p.nil a1 fun t22 =>
 p.fs 7 t22 1 t21 H fun H =>
 p.bin .and t13 (si 2) fun t29 =>
 p.bin .neq t29 i0 fun t30 =>
 p.bin .and t13 (si 4) fun t32 =>
 p.bin .neq t32 i0 fun t33 =>
 p.bin .and t13 (si 64) fun t35 =>
 p.bin .neq t35 i0 fun t36 =>
 p.bin .and t13 (si 128) fun t38 =>
 p.bin .neq t38 i0 fun t39 =>
 p.nil a1 fun t40 =>
 p.fs 9 t40 1 t30 H fun H =>
 p.nil a1 fun t42 =>
 p.fs 11 t42 1 t33 H fun H =>
 p.nil a1 fun t44 =>
 p.fs 18 t44 1 t36 H fun H =>
 p.nil a1 fun t46 =>
 p.fs 16 t46 1 t39 H fun H =>
 p.nil a1 fun t49 =>
 p.fl 11 t49 1 H fun t51 =>
 E1 (fun (t0 t1 : AV) (H : Ac) => p.nil t1 fun t75 =>
 p.fl 16 t75 1 H fun t77 =>
 E1 (fun (t0 t1 : AV) (H : Ac) => p.nil t1 fun t84 =>
 p.fl 18 t84 1 H fun t86 =>
 p.cond t86
 (p.ca 22 129 [t0] H fun t89 H =>
 p.nil t1 fun t90 =>
 p.fs 19 t90 1 t89 H fun H =>
 k (Dk []) H)
 (k (Dk []) H)) fun j2 =>
 p.cond t77
 (p.ca 9 101 [t0] H fun t80 H =>
 p.nil t1 fun t81 =>
 p.fs 17 t81 1 t80 H fun H =>
 j2 t0 t1 H)
 (j2 t0 t1 H)) fun j1 =>
 p.cond t51
 (p.bin .shr t13 (.sc (.int .u64 3)) fun t55 =>
 p.bin .and t55 (si 3) fun t56 =>
 p.bin .and t13 (si 32) fun t58 =>
 p.bin .neq t58 i0 fun t59 =>
 p.nil a1 fun t60 =>
 p.fs 14 t60 1 t56 H fun H =>
 p.nil a1 fun t62 =>
 p.fs 15 t62 1 t59 H fun H =>
 p.ca 9 101 [a0] H fun t66 H =>
 p.nil a1 fun t67 =>
 p.fs 12 t67 1 t66 H fun H =>
 p.ca 22 129 [a0] H fun t71 H =>
 p.nil a1 fun t72 =>
 p.fs 13 t72 1 t71 H fun H =>
 j1 a0 a1 H)
 (j1 a0 a1 H)
theorem AgL : Kb An3 @f99 := fun p n a0 a1 H k => by kernel_rfl
noncomputable def f131 (n : Nat) (a0 : AV) (H : Ac) (k : KO β) : Option β :=
 p.nil a0 fun t4 =>
 p.fl 2 t4 1 H fun t6 =>
 p.un .not t6 fun t7 =>
 p.kT t7 H a0 fun t9 H =>
 p.gT t7 H (p.nil t9) fun t10 H =>
 p.lT t7 H 1 t10 1 fun t12 H =>
 p.kT t7 H a0 fun t13 H =>
 p.gT t7 H (p.nil t13) fun t14 H =>
 p.lT t7 H 0 t14 1 fun t16 H =>
 p.gT t7 H (p.len t16) fun t17 H =>
 p.gT t7 H (p.bin .lss t12 t17) fun t18 H =>
 p.pick t7 t18 bF fun t19 =>
 k t19 H
theorem AdR : Kv Ak0 @f131 := fun p n a0 H k => by kernel_rfl
noncomputable def Lk (p : Pr β) (n : Nat)  (k : KO β) : Nat → AV → KO β
 | 0, _, _, _ => none
 | m + 1, t0, t1, H => p.ca 4 131 [t0] H fun t8 H =>
   p.kT t8 H t1 fun t10 H =>
   p.gT t8 H (p.nil t10) fun t11 H =>
   p.lT t8 H 22 t11 1 fun t13 H =>
   p.gT t8 H (p.len t13) fun t14 H =>
   p.kT t8 H t1 fun t15 H =>
   p.gT t8 H (p.nil t15) fun t16 H =>
   p.lT t8 H 24 t16 1 fun t18 H =>
   p.gT t8 H (p.len t18) fun t19 H =>
   p.gT t8 H (p.bin .add t14 t19) fun t20 H =>
   p.kT t8 H t1 fun t21 H =>
   p.gT t8 H (p.nil t21) fun t22 H =>
   p.lT t8 H 23 t22 1 fun t24 H =>
   p.gT t8 H (p.len t24) fun t25 H =>
   p.gT t8 H (p.bin .add t20 t25) fun t26 H =>
   p.gT t8 H (p.bin .leq t26 (si 4)) fun t27 H =>
   p.pick t8 t27 bF fun t28 =>
   p.cond t28
   (p.nil t1 fun t30 =>
   p.fl 0 t30 1 H fun t32 =>
   p.bin .eql t32 (si 8) fun t37 =>
   p.cond t37
   (p.fill [sE, i0] [] fun ct38 =>
   p.new [sE, i0] H fun t4 H =>
   p.store 2 t4 (.agg ct38) H fun H =>
   p.ca 9 101 [t0] H fun t40 H =>
   p.fs 0 t4 1 t40 H fun H =>
   p.ca 3 100 [t0] H fun t43 H =>
   p.fs 1 t4 1 t43 H fun H =>
   p.nil t1 fun t47 =>
   p.fl 22 t47 1 H fun t49 =>
   p.load true 2 t4 H fun t50 =>
   p.fill [sE, i0] [(0, 2, t50)] fun ct51 => p.newSl 1 2 ct51 true H fun t51 H =>
   p.app 2 24 t49 t51 H fun t52 H =>
   p.nil t1 fun t53 =>
   p.fs 22 t53 1 t52 H fun H =>
   Lk p n  k m t0 t1 H)
   (p.bin .eql t32 (si 9) fun t56 =>
   p.cond t56
   (p.ca 3 100 [t0] H fun t58 H =>
   p.nil t1 fun t61 =>
   p.fl 24 t61 1 H fun t63 =>
   p.fill [i0] [(0, 1, t58)] fun ct65 => p.newSl 1 1 ct65 true H fun t65 H =>
   p.app 1 8 t63 t65 H fun t66 H =>
   p.nil t1 fun t67 =>
   p.fs 24 t67 1 t66 H fun H =>
   Lk p n  k m t0 t1 H)
   (p.bin .eql t32 (si 10) fun t70 =>
   p.cond t70
   (p.ca 9 101 [t0] H fun t72 H =>
   p.nil t1 fun t75 =>
   p.fl 23 t75 1 H fun t77 =>
   p.fill [sE] [(0, 1, t72)] fun ct79 => p.newSl 1 1 ct79 true H fun t79 H =>
   p.app 1 16 t77 t79 H fun t80 H =>
   p.nil t1 fun t81 =>
   p.fs 23 t81 1 t80 H fun H =>
   Lk p n  k m t0 t1 H)
   (p.nil t0 fun t34 =>
   p.fs 2 t34 1 bT H fun H =>
   Lk p n  k m t0 t1 H))))
   (k (Dk []) H)
noncomputable def f103 (n : Nat) (a0 a1 : AV) (H : Ac) (k : KO β) : Option β :=
 Lk p n  k n a0 a1 H
noncomputable def Ac0 (p : Pr β) (n : Nat)  (k : KO β) (m : Nat) (tm : Tm) (H : Ac) : Option β :=
 Dw 83 (fun tm H k => Ak As p AnI 83 n (cd AmJ [0, 0]) tm H k) (Ez 0 (Cp As p fi103.results k)) m tm H
theorem Ab1 (p : Pr β) (n : Nat)  (k : KO β) (m0 : Nat) : ∀ (t : Nat → AV) (H : Ac), Ac0 p n  k m0 (tf 83 0 t) H = Lk p n  k m0 (t 0) (t 1) H := by
 induction m0 with
 | zero => intros; rfl
 | succ m0 ih =>
  intro t H
  refine Eq.trans (Bq (nt := 83) (m := m0) (g := fun t H => Lk p n  k m0 (t 0) (t 1) H) ih rfl) ?_
  kernel_rfl
theorem Afi (p : Pr β) (n : Nat) (a0 a1 : AV) (H : Ac) (k : KO β) : Cj As p n fi103 [a0, a1] H k =
 Ac0 p n  k n (tf 83 0 (ud [(0, a0), (1, a1)] ut)) H := by kernel_rfl
theorem Adz : Kb fi103 @f103 := fun p n a0 a1 H k => by
 rw [Afi]
 simp only [Ab1]
 kernel_rfl
noncomputable def f69 (n : Nat) (a0 a1 : AV) (H : Ac) (k : KO β) : Option β :=
 p.new Ep H fun t4 H =>
 p.fill [.nl, i0, bF] [(0, 1, a1)] fun ct9 =>
 p.box (.agg ct9) H fun t10 H =>
 p.bin .quo a0 (si 16) fun t12 =>
 p.fill Ep [(0, 1, t12)] fun ct13 =>
 p.new Ep H fun t6 H =>
 p.store 25 t6 (.agg ct13) H fun H =>
 p.fl 0 t6 1 H fun t15 =>
 p.bin .eql t15 (si 1) fun t22 =>
 E1 (fun (t4 t6 : AV) (H : Ac) => p.load true 25 t6 H fun t76 =>
 p.store 25 t4 t76 H fun H =>
 p.load true 25 t4 H fun r0 =>
 k r0 H) fun j1 =>
 p.cond t22
 (p.ca 0 99 [t10, t6] H fun t24 H =>
 j1 t4 t6 H)
 (p.bin .eql t15 (si 2) fun t26 =>
 p.cond t26
 (p.ca 3 100 [t10] H fun t28 H =>
 p.bin .eql t28 (si 1) fun t30 =>
 p.fs 21 t6 1 t30 H fun H =>
 p.ca 3 100 [t10] H fun t33 H =>
 p.fs 20 t6 1 t33 H fun H =>
 j1 t4 t6 H)
 (p.bin .eql t15 (si 3) fun t36 =>
 p.cond t36
 (p.bin .and a0 (si 8) fun t38 =>
 p.bin .neq t38 i0 fun t39 =>
 p.bin .shr a0 (.sc (.int .u64 1)) fun t41 =>
 p.bin .and t41 (si 3) fun t42 =>
 p.bin .and a0 (si 1) fun t44 =>
 p.bin .neq t44 i0 fun t45 =>
 p.fs 1 t6 1 t39 H fun H =>
 p.fs 2 t6 1 t42 H fun H =>
 p.fs 3 t6 1 t45 H fun H =>
 p.ca 9 101 [t10] H fun t50 H =>
 p.fs 5 t6 1 t50 H fun H =>
 p.fl 2 t6 1 H fun t53 =>
 p.bin .gtr t53 i0 fun t54 =>
 E1 (fun (t1 t4 t5 t6 : AV) (H : Ac) => p.nil t5 fun t59 =>
 p.fl 2 t59 1 H fun t61 =>
 p.un .not t61 fun t62 =>
 p.cond t62
 (p.nil t5 fun t65 =>
 p.fl 1 t65 1 H fun t67 =>
 p.slice 1 t1 (some t67) none fun t68 =>
 p.fill [.nl] [(0, 1, t68)] fun ct69 => p.newSl 1 1 ct69 true H fun t69 H =>
 p.ca 22 77 [t69] H fun t70 H =>
 p.fs 6 t6 1 t70 H fun H =>
 j1 t4 t6 H)
 (j1 t4 t6 H)) fun j2 =>
 p.cond t54
 (p.ca 3 102 [t10] H fun t56 H =>
 p.fs 4 t6 1 t56 H fun H =>
 j2 a1 t4 t10 t6 H)
 (j2 a1 t4 t10 t6 H))
 (p.bin .eql t15 (si 12) fun t73 =>
 E1 (fun (t4 t5 t6 t72 : AV) (H : Ac) => p.cond t72
 (j1 t4 t6 H)
 (p.ca 3 102 [t5] H fun t17 H =>
 p.fs 4 t6 1 t17 H fun H =>
 p.ca 0 103 [t5, t6] H fun t20 H =>
 j1 t4 t6 H)) fun j3 =>
 p.cond t73
 (j3 t4 t10 t6 t73 H)
 (p.bin .eql t15 (si 13) fun t74 =>
 p.cond t74
 (j3 t4 t10 t6 t74 H)
 (p.bin .eql t15 (si 14) fun t75 =>
 j3 t4 t10 t6 t75 H)))))
theorem Agi : Kb Ang @f69 := fun p n a0 a1 H k => by kernel_rfl
noncomputable def f140 (n : Nat) (a0 a1 : AV) (H : Ac) (k : KO β) : Option β :=
 p.cond a0
 (k a1 H)
 (k i0 H)
theorem AdY : Kb Ak3 @f140 := fun p n a0 a1 H k => by kernel_rfl
noncomputable def f142 (n : Nat) (a0 a1 : AV) (H : Ac) (k : KO β) : Option β :=
 p.bin .shr a1 (.sc (.int .u64 8)) fun t7 =>
 p.bin .and t7 (si 255) fun t8 =>
 p.cvI .u8 t8 fun t9 =>
 p.bin .and a1 (si 255) fun t11 =>
 p.cvI .u8 t11 fun t12 =>
 p.fill [(su 0), (su 0)] [(0, 1, t9), (1, 1, t12)] fun ct13 => p.newSl 2 1 ct13 true H fun t13 H =>
 p.fill [.nl, .nl] [(0, 1, a0), (1, 1, t13)] fun ct14 => p.newSl 2 1 ct14 true H fun t14 H =>
 p.ca 22 77 [t14] H fun t15 H =>
 k t15 H
theorem Aea : Kb Ak5 @f142 := fun p n a0 a1 H k => by kernel_rfl
noncomputable def f141 (n : Nat) (a0 a1 : AV) (H : Ac) (k : KO β) : Option β :=
 p.ca 4 135 [a1] H fun t6 H =>
 p.un .not t6 fun t7 =>
 p.cond t7
 (p.fill [.nl] [(0, 1, a0)] fun ct9 => p.newSl 1 1 ct9 true H fun t9 H =>
 p.ca 22 77 [t9] H fun t10 H =>
 k t10 H)
 (p.lenS a1 fun t13 =>
 p.ca 22 142 [a0, t13] H fun t14 H =>
 p.cvSB a1 H fun t16 H =>
 p.fill [.nl, .nl] [(0, 1, t14), (1, 1, t16)] fun ct17 => p.newSl 2 1 ct17 true H fun t17 H =>
 p.ca 22 77 [t17] H fun t18 H =>
 k t18 H)
theorem AdZ : Kb Ak4 @f141 := fun p n a0 a1 H k => by kernel_rfl
noncomputable def f151 (n : Nat) (a0 a1 : AV) (H : Ac) (k : KO β) : Option β :=
 p.len a1 fun t6 =>
 p.bin .gtr t6 (si 60) fun t7 =>
 p.cond t7
 (p.fill [.nl] [(0, 1, a0)] fun ct9 => p.newSl 1 1 ct9 true H fun t9 H =>
 p.ca 22 77 [t9] H fun t10 H =>
 k t10 H)
 (p.len a1 fun t13 =>
 p.ca 22 142 [a0, t13] H fun t14 H =>
 p.fill [.nl, .nl] [(0, 1, t14), (1, 1, a1)] fun ct16 => p.newSl 2 1 ct16 true H fun t16 H =>
 p.ca 22 77 [t16] H fun t17 H =>
 k t17 H)
theorem Aeg : Kb AkA @f151 := fun p n a0 a1 H k => by kernel_rfl
noncomputable def f139 (n : Nat) (a0 : AV) (H : Ac) (k : KO β) : Option β :=
 p.box a0 H fun t1 H =>
 p.fl 9 t1 1 H fun t6 =>
 p.fl 11 t1 1 H fun t9 =>
 p.fl 14 t1 1 H fun t13 =>
 p.bin .mul (si 8) t13 fun t14 =>
 p.fl 15 t1 1 H fun t17 =>
 p.fl 18 t1 1 H fun t21 =>
 p.fl 16 t1 1 H fun t25 =>
 p.ca 3 140 [t6, (si 2)] H fun t7 H =>
 p.ca 3 140 [t9, (si 4)] H fun t10 H =>
 p.bin .add t7 t10 fun t11 =>
 p.bin .add t11 t14 fun t15 =>
 p.ca 3 140 [t17, (si 32)] H fun t18 H =>
 p.bin .add t15 t18 fun t19 =>
 p.ca 3 140 [t21, (si 64)] H fun t22 H =>
 p.bin .add t19 t22 fun t23 =>
 p.ca 3 140 [t25, (si 128)] H fun t26 H =>
 p.bin .add t23 t26 fun t27 =>
 p.fl 8 t1 1 H fun t30 =>
 p.cvI .u8 t30 fun t31 =>
 p.cvI .u8 t27 fun t33 =>
 E1 (fun (t1 t4 : AV) (H : Ac) => p.fadr 10 t1 fun t37 =>
 p.load false 1 t37 H fun t38 =>
 p.fl 7 t1 1 H fun t41 =>
 p.ca 22 142 [t4, t38] H fun t39 H =>
 p.ca 22 141 [t39, t41] H fun t42 H =>
 p.fl 11 t1 1 H fun t44 =>
 E1 (fun (t1 t4 : AV) (H : Ac) => p.fadr 16 t1 fun t52 =>
 p.load false 1 t52 H fun t53 =>
 E1 (fun (t1 t4 : AV) (H : Ac) => p.fadr 18 t1 fun t58 =>
 p.load false 1 t58 H fun t59 =>
 E1 (fun (t4 : AV) (H : Ac) => k t4 H) fun j4 =>
 p.cond t59
 (p.fadr 19 t1 fun t61 =>
 p.load false 1 t61 H fun t62 =>
 p.ca 22 151 [t4, t62] H fun t63 H =>
 j4 t63 H)
 (j4 t4 H)) fun j3 =>
 p.cond t53
 (p.fadr 17 t1 fun t55 =>
 p.load false 1 t55 H fun t56 =>
 p.ca 22 141 [t4, t56] H fun t57 H =>
 j3 t1 t57 H)
 (j3 t1 t4 H)) fun j2 =>
 p.cond t44
 (p.fadr 12 t1 fun t46 =>
 p.load false 1 t46 H fun t47 =>
 p.fl 13 t1 1 H fun t50 =>
 p.ca 22 141 [t42, t47] H fun t48 H =>
 p.ca 22 151 [t48, t50] H fun t51 H =>
 j2 t1 t51 H)
 (j2 t1 t42 H)) fun j1 =>
 p.both
 (p.ca 22 141 [.nl, (.sc (.string ⟨#[77, 81, 84, 84]⟩))] H fun t28 H =>
 p.fill [(su 0), (su 0)] [(0, 1, t31), (1, 1, t33)] fun ct34 => p.newSl 2 1 ct34 true H fun t34 H =>
 p.app 1 1 t28 t34 H fun t35 H =>
 j1 t1 t35 H)
 (p.fill [(su 0), (su 0)] [(0, 1, t31), (1, 1, t33)] fun ct34 => p.newSl 2 1 ct34 true H fun t34 H =>
 p.ca 22 141 [.nl, (.sc (.string ⟨#[77, 81, 84, 84]⟩))] H fun t28 H =>
 p.app 1 1 t28 t34 H fun t35 H =>
 j1 t1 t35 H)
theorem AdX : Kv Ak2 @f139 := fun p n a0 H k => by kernel_rfl
noncomputable def Of (p : Pr β) (n : Nat)  (k : KO β) : Nat → AV → AV → AV → KO β
 | 0, _, _, _, _, _ => none
 | m + 1, t3, t85, t86, t87, H => p.bin .lss t87 t86 fun t88 =>
   p.cond t88
   (p.iadr 1 t85 t87 fun t89 =>
   p.load false 1 t89 H fun t90 =>
   p.ca 22 141 [t3, t90] H fun t93 H =>
   p.bin .add t87 (si 1) fun t94 =>
   Of p n  k m t93 t85 t86 t94 H)
   (k t3 H)
noncomputable def Lo (p : Pr β) (n : Nat)  (k : KO β) : Nat → AV → AV → AV → AV → KO β
 | 0, _, _, _, _, _, _ => none
 | m + 1, t1, t3, t72, t73, t74, H => p.bin .lss t74 t73 fun t75 =>
   p.cond t75
   (p.iadr 1 t72 t74 fun t76 =>
   p.load false 1 t76 H fun t77 =>
   p.cvI .u8 t77 fun t80 =>
   p.fill [(su 0)] [(0, 1, t80)] fun ct81 => p.newSl 1 1 ct81 true H fun t81 H =>
   p.app 1 1 t3 t81 H fun t82 H =>
   p.bin .add t74 (si 1) fun t83 =>
   Lo p n  k m t1 t82 t72 t73 t83 H)
   (p.fadr 23 t1 fun t84 =>
   p.load false 1 t84 H fun t85 =>
   p.len t85 fun t86 =>
   Of p n  k n t3 t85 t86 i0 H)
noncomputable def Ln (p : Pr β) (n : Nat)  (k : KO β) : Nat → AV → AV → AV → AV → KO β
 | 0, _, _, _, _, _, _ => none
 | m + 1, t1, t3, t55, t56, t57, H => p.bin .lss t57 t56 fun t58 =>
   p.cond t58
   (p.iadr 2 t55 t57 fun t59 =>
   p.load true 2 t59 H fun t60 =>
   p.new [sE, i0] H fun t5 H =>
   p.store 2 t5 t60 H fun H =>
   p.fl 0 t5 1 H fun t63 =>
   p.fl 1 t5 1 H fun t66 =>
   p.cvI .u8 t66 fun t67 =>
   E1 (fun (t1 t3 t55 t56 t57 : AV) (H : Ac) => p.bin .add t57 (si 1) fun t70 =>
   Ln p n  k m t1 t3 t55 t56 t70 H) fun j1 =>
   p.both
   (p.ca 22 141 [t3, t63] H fun t64 H =>
   p.fill [(su 0)] [(0, 1, t67)] fun ct68 => p.newSl 1 1 ct68 true H fun t68 H =>
   p.app 1 1 t64 t68 H fun t69 H =>
   j1 t1 t69 t55 t56 t57 H)
   (p.fill [(su 0)] [(0, 1, t67)] fun ct68 => p.newSl 1 1 ct68 true H fun t68 H =>
   p.ca 22 141 [t3, t63] H fun t64 H =>
   p.app 1 1 t64 t68 H fun t69 H =>
   j1 t1 t69 t55 t56 t57 H))
   (p.fadr 24 t1 fun t71 =>
   p.load false 1 t71 H fun t72 =>
   p.len t72 fun t73 =>
   Lo p n  k n t1 t3 t72 t73 i0 H)
noncomputable def f111 (n : Nat) (a0 : AV) (H : Ac) (k : KO β) : Option β :=
 p.box a0 H fun t1 H =>
 p.fl 0 t1 1 H fun t12 =>
 p.bin .eql t12 (si 1) fun t14 =>
 E1 (fun (t1 t3 : AV) (H : Ac) => p.fadr 4 t1 fun t51 =>
 p.load false 1 t51 H fun t52 =>
 p.ca 22 142 [t3, t52] H fun t53 H =>
 p.fl 22 t1 1 H fun t55 =>
 p.len t55 fun t56 =>
 Ln p n  k n t1 t53 t55 t56 i0 H) fun j1 =>
 p.cond t14
 (p.load true 25 t1 H fun t15 =>
 p.ca 22 139 [t15] H fun t16 H =>
 k t16 H)
 (p.bin .eql t12 (si 2) fun t18 =>
 p.cond t18
 (p.fadr 21 t1 fun t19 =>
 p.load false 1 t19 H fun t20 =>
 p.fl 20 t1 1 H fun t24 =>
 p.cvI .u8 t24 fun t25 =>
 p.ca 3 140 [t20, (si 1)] H fun t21 H =>
 p.cvI .u8 t21 fun t22 =>
 p.fill [(su 0), (su 0)] [(0, 1, t22), (1, 1, t25)] fun ct26 => p.newSl 2 1 ct26 true H fun t26 H =>
 k t26 H)
 (p.bin .eql t12 (si 3) fun t28 =>
 p.cond t28
 (p.fadr 5 t1 fun t30 =>
 p.load false 1 t30 H fun t31 =>
 p.ca 22 141 [.nl, t31] H fun t32 H =>
 p.fl 2 t1 1 H fun t34 =>
 p.bin .gtr t34 i0 fun t35 =>
 E1 (fun (t1 t3 : AV) (H : Ac) => p.fadr 6 t1 fun t41 =>
 p.load false 1 t41 H fun t42 =>
 p.fill [.nl, .nl] [(0, 1, t3), (1, 1, t42)] fun ct43 => p.newSl 2 1 ct43 true H fun t43 H =>
 p.ca 22 77 [t43] H fun t44 H =>
 k t44 H) fun j2 =>
 p.cond t35
 (p.fadr 4 t1 fun t37 =>
 p.load false 1 t37 H fun t38 =>
 p.ca 22 142 [t32, t38] H fun t39 H =>
 j2 t1 t39 H)
 (j2 t1 t32 H))
 (p.bin .eql t12 (si 12) fun t46 =>
 E1 (fun (t1 t3 t45 : AV) (H : Ac) => p.cond t45
 (k t3 H)
 (j1 t1 t3 H)) fun j3 =>
 p.cond t46
 (j3 t1 .nl t46 H)
 (p.bin .eql t12 (si 13) fun t47 =>
 p.cond t47
 (j3 t1 .nl t47 H)
 (p.bin .eql t12 (si 14) fun t48 =>
 j3 t1 .nl t48 H)))))
noncomputable def Ac7 (p : Pr β) (n : Nat)  (k : KO β) (m : Nat) (tm : Tm) (H : Ac) : Option β :=
 Dw 96 (fun tm H k => Ak As p Wj 96 n (cd Vb [1, 1, 1, 1, 1, 1, 0, 1, 0, 0]) tm H k) (Ez 5 (Eg (fun tm H => Ak As p Wj 96 n (cd Vb [1, 1, 1, 1, 1, 1, 1]) tm H (Cp As p fi111.results k)) (Cp As p fi111.results k))) m tm H
noncomputable def Ac6 (p : Pr β) (n : Nat)  (k : KO β) (m : Nat) (tm : Tm) (H : Ac) : Option β :=
 Dw 96 (fun tm H k => Ak As p Wj 96 n (cd Vb [1, 1, 1, 1, 1, 0, 1, 0, 0]) tm H k) (Ez 3 (Eg (fun tm H => Ak As p Wj 96 n (cd Vb [1, 1, 1, 1, 1, 1]) tm H (Cp As p fi111.results k)) (Cp As p fi111.results k))) m tm H
noncomputable def Ac5 (p : Pr β) (n : Nat)  (k : KO β) (m : Nat) (tm : Tm) (H : Ac) : Option β :=
 Dw 96 (fun tm H k => Ak As p Wj 96 n (cd Vb [1, 1, 1, 1, 0, 1, 0, 0]) tm H k) (Ez 1 (Eg (fun tm H => Ak As p Wj 96 n (cd Vb [1, 1, 1, 1, 1]) tm H (Cp As p fi111.results k)) (Cp As p fi111.results k))) m tm H
theorem Vp (p : Pr β) (n : Nat)  (k : KO β) (m2 : Nat) : ∀ (t : Nat → AV) (H : Ac), Ac7 p n  k m2 (tf 96 0 t) H = Of p n  k m2 (t 3) (t 85) (t 86) (t 87) H := by
 induction m2 with
 | zero => intros; rfl
 | succ m2 ih =>
  intro t H
  refine Eq.trans (Bq (nt := 96) (m := m2) (g := fun t H => Of p n  k m2 (t 3) (t 85) (t 86) (t 87) H) ih rfl) ?_
  kernel_rfl
theorem Zi (p : Pr β) (n : Nat)  (k : KO β) (m1 : Nat) (t : Nat → AV) (H : Ac) : Ak As p Wj 96 n (cd Vb [1, 1, 1, 1, 1, 0, 1, 0, 0]) (tf 96 0 t) H (Eg (fun tm H => Lo p n  k m1 (gt tm 1) (gt tm 3) (gt tm 72) (gt tm 73) (gt tm 74) H) (Ez 3 (Eg (fun tm H => Ak As p Wj 96 n (cd Vb [1, 1, 1, 1, 1, 1]) tm H (Cp As p fi111.results k)) (Cp As p fi111.results k)))) =
 p.bin .lss (t 74) (t 73) fun t75 =>
 p.cond t75
 (p.iadr 1 (t 72) (t 74) fun t76 =>
 p.load false 1 t76 H fun t77 =>
 p.cvI .u8 t77 fun t80 =>
 p.fill [(su 0)] [(0, 1, t80)] fun ct81 => p.newSl 1 1 ct81 true H fun t81 H =>
 p.app 1 1 (t 3) t81 H fun t82 H =>
 p.bin .add (t 74) (si 1) fun t83 =>
 Lo p n  k m1 (t 1) t82 (t 72) (t 73) t83 H)
 (p.fadr 23 (t 1) fun t84 =>
 p.load false 1 t84 H fun t85 =>
 p.len t85 fun t86 =>
 Ac7 p n  k n (tf 96 0 (ud [(75, t75), (84, t84), (85, t85), (86, t86), (87, i0)] t)) H) := by kernel_rfl
theorem Vo (p : Pr β) (n : Nat)  (k : KO β) (m1 : Nat) : ∀ (t : Nat → AV) (H : Ac), Ac6 p n  k m1 (tf 96 0 t) H = Lo p n  k m1 (t 1) (t 3) (t 72) (t 73) (t 74) H := by
 induction m1 with
 | zero => intros; rfl
 | succ m1 ih =>
  intro t H
  refine Eq.trans (Bq (nt := 96) (m := m1) (g := fun t H => Lo p n  k m1 (t 1) (t 3) (t 72) (t 73) (t 74) H) ih rfl) ?_
  refine Eq.trans (Zi p n  k m1 t H) ?_
  simp only [Vp]
  kernel_rfl
theorem Zh (p : Pr β) (n : Nat)  (k : KO β) (m0 : Nat) (t : Nat → AV) (H : Ac) : Ak As p Wj 96 n (cd Vb [1, 1, 1, 1, 0, 1, 0, 0]) (tf 96 0 t) H (Eg (fun tm H => Ln p n  k m0 (gt tm 1) (gt tm 3) (gt tm 55) (gt tm 56) (gt tm 57) H) (Ez 1 (Eg (fun tm H => Ak As p Wj 96 n (cd Vb [1, 1, 1, 1, 1]) tm H (Cp As p fi111.results k)) (Cp As p fi111.results k)))) =
 p.bin .lss (t 57) (t 56) fun t58 =>
 p.cond t58
 (p.iadr 2 (t 55) (t 57) fun t59 =>
 p.load true 2 t59 H fun t60 =>
 p.new [sE, i0] H fun t5 H =>
 p.store 2 t5 t60 H fun H =>
 p.fadr 0 t5 fun t62 =>
 p.load false 1 t62 H fun t63 =>
 p.fadr 1 t5 fun t65 =>
 p.load false 1 t65 H fun t66 =>
 p.cvI .u8 t66 fun t67 =>
 E1 (fun (t : Nat → AV) (H : Ac) => p.bin .add (t 57) (si 1) fun t70 =>
 Ln p n  k m0 (t 1) (t 3) (t 55) (t 56) t70 H) fun j1 =>
 p.both
 (p.call 22 (.fn 141 [] []) [(t 3), t63] H fun t64 H =>
 p.fill [(su 0)] [(0, 1, t67)] fun ct68 => p.newSl 1 1 ct68 true H fun t68 H =>
 p.app 1 1 t64 t68 H fun t69 H =>
 j1 (ud [(3, t69), (5, t5), (58, t58), (59, t59), (60, t60), (61, (t 3)), (62, t62), (63, t63), (64, t64), (65, t65), (66, t66), (67, t67), (68, t68), (69, t69)] t) H)
 (p.fill [(su 0)] [(0, 1, t67)] fun ct68 => p.newSl 1 1 ct68 true H fun t68 H =>
 p.call 22 (.fn 141 [] []) [(t 3), t63] H fun t64 H =>
 p.app 1 1 t64 t68 H fun t69 H =>
 j1 (ud [(3, t69), (5, t5), (58, t58), (59, t59), (60, t60), (61, (t 3)), (62, t62), (63, t63), (64, t64), (65, t65), (66, t66), (67, t67), (68, t68), (69, t69)] t) H))
 (p.fadr 24 (t 1) fun t71 =>
 p.load false 1 t71 H fun t72 =>
 p.len t72 fun t73 =>
 Ac6 p n  k n (tf 96 0 (ud [(58, t58), (71, t71), (72, t72), (73, t73), (74, i0)] t)) H) := by kernel_rfl
theorem Ab3 (p : Pr β) (n : Nat)  (k : KO β) (m0 : Nat) : ∀ (t : Nat → AV) (H : Ac), Ac5 p n  k m0 (tf 96 0 t) H = Ln p n  k m0 (t 1) (t 3) (t 55) (t 56) (t 57) H := by
 induction m0 with
 | zero => intros; rfl
 | succ m0 ih =>
  intro t H
  refine Eq.trans (Bq (nt := 96) (m := m0) (g := fun t H => Ln p n  k m0 (t 1) (t 3) (t 55) (t 56) (t 57) H) ih rfl) ?_
  refine Eq.trans (Zh p n  k m0 t H) ?_
  simp only [Vo]
  kernel_rfl
theorem Afl (p : Pr β) (n : Nat) (a0 : AV) (H : Ac) (k : KO β) : Cj As p n fi111 [a0] H k =
 p.box a0 H fun t1 H =>
 p.fadr 0 t1 fun t11 =>
 p.load false 1 t11 H fun t12 =>
 p.bin .eql t12 (si 1) fun t14 =>
 E1 (fun (t : Nat → AV) (H : Ac) => p.fadr 4 (t 1) fun t51 =>
 p.load false 1 t51 H fun t52 =>
 p.call 22 (.fn 142 [] []) [(t 3), t52] H fun t53 H =>
 p.fadr 22 (t 1) fun t54 =>
 p.load false 1 t54 H fun t55 =>
 p.len t55 fun t56 =>
 Ac5 p n  k n (tf 96 0 (ud [(3, t53), (50, (t 3)), (51, t51), (52, t52), (53, t53), (54, t54), (55, t55), (56, t56), (57, i0)] t)) H) fun j1 =>
 p.cond t14
 (p.load true 25 t1 H fun t15 =>
 p.call 22 (.fn 139 [] []) [t15] H fun t16 H =>
 k t16 H)
 (p.bin .eql t12 (si 2) fun t18 =>
 p.cond t18
 (p.fadr 21 t1 fun t19 =>
 p.load false 1 t19 H fun t20 =>
 p.fadr 20 t1 fun t23 =>
 p.load false 1 t23 H fun t24 =>
 p.cvI .u8 t24 fun t25 =>
 p.call 3 (.fn 140 [] []) [t20, (si 1)] H fun t21 H =>
 p.cvI .u8 t21 fun t22 =>
 p.fill [(su 0), (su 0)] [(0, 1, t22), (1, 1, t25)] fun ct26 => p.newSl 2 1 ct26 true H fun t26 H =>
 k t26 H)
 (p.bin .eql t12 (si 3) fun t28 =>
 p.cond t28
 (p.fadr 5 t1 fun t30 =>
 p.load false 1 t30 H fun t31 =>
 p.call 22 (.fn 141 [] []) [.nl, t31] H fun t32 H =>
 p.fadr 2 t1 fun t33 =>
 p.load false 1 t33 H fun t34 =>
 p.bin .gtr t34 i0 fun t35 =>
 E1 (fun (t : Nat → AV) (H : Ac) => p.fadr 6 (t 1) fun t41 =>
 p.load false 1 t41 H fun t42 =>
 p.fill [.nl, .nl] [(0, 1, (t 3)), (1, 1, t42)] fun ct43 => p.newSl 2 1 ct43 true H fun t43 H =>
 p.call 22 (.fn 77 [] []) [t43] H fun t44 H =>
 k t44 H) fun j2 =>
 p.cond t35
 (p.fadr 4 t1 fun t37 =>
 p.load false 1 t37 H fun t38 =>
 p.call 22 (.fn 142 [] []) [t32, t38] H fun t39 H =>
 j2 (ud [(0, a0), (1, t1), (2, .nl), (3, t39), (10, .nl), (11, t11), (12, t12), (13, t14), (14, t14), (17, t18), (18, t18), (27, t28), (28, t28), (29, .nl), (30, t30), (31, t31), (32, t32), (33, t33), (34, t34), (35, t35), (36, t32), (37, t37), (38, t38), (39, t39)] ut) H)
 (j2 (ud [(0, a0), (1, t1), (2, .nl), (3, t32), (10, .nl), (11, t11), (12, t12), (13, t14), (14, t14), (17, t18), (18, t18), (27, t28), (28, t28), (29, .nl), (30, t30), (31, t31), (32, t32), (33, t33), (34, t34), (35, t35)] ut) H))
 (p.bin .eql t12 (si 12) fun t46 =>
 E1 (fun (t : Nat → AV) (H : Ac) => p.cond (t 45)
 (k (t 3) H)
 (j1 t H)) fun j3 =>
 p.cond t46
 (j3 (ud [(0, a0), (1, t1), (2, .nl), (3, .nl), (10, .nl), (11, t11), (12, t12), (13, t14), (14, t14), (17, t18), (18, t18), (27, t28), (28, t28), (45, t46), (46, t46)] ut) H)
 (p.bin .eql t12 (si 13) fun t47 =>
 p.cond t47
 (j3 (ud [(0, a0), (1, t1), (2, .nl), (3, .nl), (10, .nl), (11, t11), (12, t12), (13, t14), (14, t14), (17, t18), (18, t18), (27, t28), (28, t28), (45, t47), (46, t46), (47, t47)] ut) H)
 (p.bin .eql t12 (si 14) fun t48 =>
 j3 (ud [(0, a0), (1, t1), (2, .nl), (3, .nl), (10, .nl), (11, t11), (12, t12), (13, t14), (14, t14), (17, t18), (18, t18), (27, t28), (28, t28), (45, t48), (46, t46), (47, t47), (48, t48)] ut) H))))) := by kernel_rfl
theorem Ad7 : Kv fi111 @f111 := fun p n a0 H k => by
 rw [Afl]
 simp only [Vp, Vo, Ab3]
 kernel_rfl
noncomputable def f113 (n : Nat) (a0 : AV) (H : Ac) (k : KO β) : Option β :=
 p.box a0 H fun t1 H =>
 p.fl 0 t1 1 H fun t5 =>
 p.bin .mul (si 16) t5 fun t6 =>
 p.fl 0 t1 1 H fun t8 =>
 p.bin .eql t8 (si 3) fun t10 =>
 p.cond t10
 (p.fadr 1 t1 fun t12 =>
 p.load false 1 t12 H fun t13 =>
 p.fl 2 t1 1 H fun t16 =>
 p.bin .mul (si 2) t16 fun t17 =>
 p.fl 3 t1 1 H fun t20 =>
 p.ca 3 140 [t13, (si 8)] H fun t14 H =>
 p.bin .add t14 t17 fun t18 =>
 p.ca 3 140 [t20, (si 1)] H fun t21 H =>
 p.bin .add t18 t21 fun t22 =>
 p.bin .add t6 t22 fun t23 =>
 k t23 H)
 (p.bin .eql t8 (si 6) fun t25 =>
 E1 (fun (t3 t24 : AV) (H : Ac) => p.cond t24
 (p.bin .add t3 (si 2) fun t29 =>
 k t29 H)
 (k t3 H)) fun j1 =>
 p.cond t25
 (j1 t6 t25 H)
 (p.bin .eql t8 (si 8) fun t26 =>
 p.cond t26
 (j1 t6 t26 H)
 (p.bin .eql t8 (si 10) fun t27 =>
 j1 t6 t27 H)))
theorem Ad9 : Kv Akq @f113 := fun p n a0 H k => by kernel_rfl
noncomputable def M5 (p : Pr β) (n : Nat)  (k : KO β) : Nat → AV → KO β
 | 0, _, _, _ => none
 | m + 1, t1, t5, H => p.bin .gtr t1 (si 127) fun t14 =>
   p.cond t14
   (p.bin .rem t1 (si 128) fun t17 =>
   p.bin .add t17 (si 128) fun t18 =>
   p.cvI .u8 t18 fun t19 =>
   p.fill [(su 0)] [(0, 1, t19)] fun ct20 => p.newSl 1 1 ct20 true H fun t20 H =>
   p.app 1 1 t5 t20 H fun t21 H =>
   p.bin .quo t1 (si 128) fun t23 =>
   M5 p n  k m t23 t21 H)
   (p.cvI .u8 t1 fun t26 =>
   p.fill [(su 0)] [(0, 1, t26)] fun ct27 => p.newSl 1 1 ct27 true H fun t27 H =>
   p.app 1 1 t5 t27 H fun t28 H =>
   k t28 H)
noncomputable def f112 (n : Nat) (a0 a1 : AV) (H : Ac) (k : KO β) : Option β :=
 p.fill [.nl] [(0, 1, a0)] fun ct7 => p.newSl 1 1 ct7 true H fun t7 H =>
 p.ca 22 77 [t7] H fun t8 H =>
 p.ca 4 98 [a1, i0, (si 268435455)] H fun t10 H =>
 p.un .not t10 fun t11 =>
 p.cond t11
 (k t8 H)
 (M5 p n  k n a1 t8 H)
noncomputable def Ac8 (p : Pr β) (n : Nat)  (k : KO β) (m : Nat) (tm : Tm) (H : Ac) : Option β :=
 Dw 29 (fun tm H k => Ak As p [] 29 n (cd AkP [1, 1, 1, 0, 0, 0]) tm H k) (Ez 0 (Eg (fun tm H => Ak As p [] 29 n (cd AkP [1, 1, 1, 1]) tm H (Cp As p fi112.results k)) (Cp As p fi112.results k))) m tm H
theorem Ab4 (p : Pr β) (n : Nat)  (k : KO β) (m0 : Nat) : ∀ (t : Nat → AV) (H : Ac), Ac8 p n  k m0 (tf 29 0 t) H = M5 p n  k m0 (t 1) (t 5) H := by
 induction m0 with
 | zero => intros; rfl
 | succ m0 ih =>
  intro t H
  refine Eq.trans (Bq (nt := 29) (m := m0) (g := fun t H => M5 p n  k m0 (t 1) (t 5) H) ih rfl) ?_
  kernel_rfl
theorem Afm (p : Pr β) (n : Nat) (a0 a1 : AV) (H : Ac) (k : KO β) : Cj As p n fi112 [a0, a1] H k =
 p.fill [.nl] [(0, 1, a0)] fun ct7 => p.newSl 1 1 ct7 true H fun t7 H =>
 p.call 22 (.fn 77 [] []) [t7] H fun t8 H =>
 p.call 4 (.fn 98 [] []) [a1, i0, (si 268435455)] H fun t10 H =>
 p.un .not t10 fun t11 =>
 p.cond t11
 (k t8 H)
 (Ac8 p n  k n (tf 29 0 (ud [(0, a0), (1, a1), (4, .nl), (5, t8), (6, a0), (7, t7), (8, t8), (9, a1), (10, t10), (11, t11)] ut)) H) := by kernel_rfl
theorem Ad8 : Kb fi112 @f112 := fun p n a0 a1 H k => by
 rw [Afm]
 simp only [Ab4]
 kernel_rfl
noncomputable def f72 (n : Nat) (a0 : AV) (H : Ac) (k : KO β) : Option β :=
 p.box a0 H fun t1 H =>
 p.load true 25 t1 H fun t4 =>
 p.ca 4 70 [t4] H fun t5 H =>
 p.un .not t5 fun t6 =>
 p.cond t6
 (k .nl H)
 (p.load true 25 t1 H fun t7 =>
 p.ca 22 111 [t7] H fun t8 H =>
 p.load true 25 t1 H fun t9 =>
 p.ca 3 113 [t9] H fun t10 H =>
 p.cvI .u8 t10 fun t11 =>
 p.fill [(su 0)] [(0, 1, t11)] fun ct12 => p.newSl 1 1 ct12 true H fun t12 H =>
 p.len t8 fun t14 =>
 p.ca 22 112 [t12, t14] H fun t15 H =>
 p.fill [.nl, .nl] [(0, 1, t15), (1, 1, t8)] fun ct17 => p.newSl 2 1 ct17 true H fun t17 H =>
 p.ca 22 77 [t17] H fun t18 H =>
 k t18 H)
theorem Agl : Kv Anj @f72 := fun p n a0 H k => by kernel_rfl
noncomputable def f33 (n : Nat) (a0 : AV) (H : Ac) (k : KO β) : Option β :=
 p.new Ep H fun t2 H =>
 p.len a0 fun t10 =>
 p.bin .eql t10 i0 fun t11 =>
 p.cond t11
 (p.fill Ep [] fun ct12 =>
 p.store 25 t2 (.agg ct12) H fun H =>
 p.load true 25 t2 H fun r0 =>
 k (Dk [r0, i0, (si 1)]) H)
 (p.iadr 1 a0 i0 fun t14 =>
 p.load false 1 t14 H fun t15 =>
 p.cvI .i64 t15 fun t16 =>
 p.ca 4 67 [t16] H fun t17 H =>
 p.un .not t17 fun t18 =>
 p.cond t18
 (p.fill Ep [] fun ct19 =>
 p.store 25 t2 (.agg ct19) H fun H =>
 p.load true 25 t2 H fun r0 =>
 k (Dk [r0, i0, (si 2)]) H)
 (p.ca 85 68 [a0, (si 1)] H fun t22 H =>
 p.extr t22 0 fun t23 =>
 p.extr t22 1 fun t24 =>
 p.extr t22 2 fun t25 =>
 p.bin .neq t25 i0 fun t28 =>
 p.cond t28
 (p.fill Ep [] fun ct29 =>
 p.store 25 t2 (.agg ct29) H fun H =>
 p.load true 25 t2 H fun r0 =>
 k (Dk [r0, i0, t25]) H)
 (p.bin .gtr t23 (si 340) fun t33 =>
 p.cond t33
 (p.fill Ep [] fun ct34 =>
 p.store 25 t2 (.agg ct34) H fun H =>
 p.load true 25 t2 H fun r0 =>
 k (Dk [r0, i0, (si 2)]) H)
 (p.len a0 fun t38 =>
 p.bin .sub t38 t24 fun t40 =>
 p.bin .gtr t23 t40 fun t41 =>
 p.cond t41
 (p.fill Ep [] fun ct42 =>
 p.store 25 t2 (.agg ct42) H fun H =>
 p.load true 25 t2 H fun r0 =>
 k (Dk [r0, i0, (si 1)]) H)
 (p.iadr 1 a0 i0 fun t44 =>
 p.load false 1 t44 H fun t45 =>
 p.cvI .i64 t45 fun t46 =>
 p.bin .add t24 t23 fun t51 =>
 p.slice 1 a0 (some t24) (some t51) fun t52 =>
 E1 (fun (t0 t2 t5 t6 t8 : AV) (H : Ac) => p.load true 25 t8 H fun t54 =>
 p.ca 4 70 [t54] H fun t55 H =>
 p.un .not t55 fun t56 =>
 p.gF t56 H (p.load true 25 t8 H) fun t58 H =>
 p.kF t56 H t0 fun t60 H =>
 p.kF t56 H t6 fun t61 H =>
 p.kF t56 H t5 fun t62 H =>
 p.gF t56 H (p.bin .add t61 t62) fun t63 H =>
 p.gF t56 H (p.slice 1 t60 none (some t63)) fun t64 H =>
 p.hF t56 H (p.ca 22 72 [t58] H) fun t59 H =>
 p.hF t56 H (p.ca 4 71 [t59, t64] H) fun t65 H =>
 p.gF t56 H (p.un .not t65) fun t66 H =>
 p.pick t56 bT t66 fun t67 =>
 p.cond t67
 (p.fill Ep [] fun ct68 =>
 p.store 25 t2 (.agg ct68) H fun H =>
 p.load true 25 t2 H fun r0 =>
 k (Dk [r0, i0, (si 2)]) H)
 (p.load true 25 t8 H fun t69 =>
 p.bin .add t6 t5 fun t72 =>
 p.store 25 t2 t69 H fun H =>
 p.load true 25 t2 H fun r0 =>
 k (Dk [r0, t72, i0]) H)) fun j1 =>
 p.both
 (p.ca 59 69 [t46, t52] H fun t53 H =>
 p.new Ep H fun t8 H =>
 p.store 25 t8 t53 H fun H =>
 j1 a0 t2 t23 t24 t8 H)
 (p.new Ep H fun t8 H =>
 p.ca 59 69 [t46, t52] H fun t53 H =>
 p.store 25 t8 t53 H fun H =>
 j1 a0 t2 t23 t24 t8 H))))))
theorem AfE : Kv AmX @f33 := fun p n a0 H k => by kernel_rfl
noncomputable def f30 (n : Nat) (a0 : AV) (H : Ac) (k : KO β) : Option β :=
 p.box a0 H fun t1 H =>
 p.fl 0 t1 1 H fun t8 =>
 p.ca 60 33 [t8] H fun t9 H =>
 p.extr t9 0 fun t10 =>
 p.extr t9 1 fun t11 =>
 p.extr t9 2 fun t12 =>
 p.new Ep H fun t3 H =>
 p.store 25 t3 t10 H fun H =>
 p.fl 0 t1 1 H fun t14 =>
 p.len t14 fun t15 =>
 p.bin .eql t15 i0 fun t16 =>
 p.lF t16 H 1 t1 1 fun t19 H =>
 p.gF t16 H (p.un .not t19) fun t20 H =>
 p.kF t16 H t20 fun t21 H =>
 p.kT t21 H t12 fun t22 H =>
 p.gT t21 H (p.bin .eql t22 (si 1)) fun t23 H =>
 p.gF t16 H (p.pick t21 t23 bF) fun t24 H =>
 p.pick t16 bT t24 fun t25 =>
 k t25 H
theorem AfA : Kv AmV @f30 := fun p n a0 H k => by kernel_rfl
noncomputable def Rf (p : Pr β) (n : Nat)  (k : KO β) : Nat → AV → AV → AV → KO β
 | 0, _, _, _, _, _ => none
 | m + 1, t1, t11, t12, t13, H => p.bin .lss t13 t12 fun t14 =>
   p.cond t14
   (p.iadr 25 t11 t13 fun t15 =>
   p.load true 25 t15 H fun t16 =>
   p.new Ep H fun t4 H =>
   p.store 25 t4 t16 H fun H =>
   p.load true 25 t4 H fun t17 =>
   p.ca 4 70 [t17] H fun t18 H =>
   p.un .not t18 fun t19 =>
   p.cond t19
   (k bF H)
   (p.bin .add t13 (si 1) fun t20 =>
   Rf p n  k m t1 t11 t12 t20 H))
   (p.fadr 1 t1 fun t21 =>
   p.load false 1 t21 H fun t22 =>
   p.bin .geq t22 (si 1) fun t23 =>
   p.gT t23 H (p.fadr 2 t1) fun t25 H =>
   p.gT t23 H (p.load true 2 t25 H) fun t26 H =>
   p.hT t23 H (p.ca 4 30 [t26] H) fun t27 H =>
   p.pick t23 t27 bF fun t28 =>
   p.lT t28 H 4 t1 1 fun t31 H =>
   p.gT t28 H (p.len t31) fun t32 H =>
   p.gT t28 H (p.bin .leq t32 (si 6)) fun t33 H =>
   p.pick t28 t33 bF fun t34 =>
   p.lT t34 H 8 t1 1 fun t37 H =>
   p.gT t34 H (p.bin .geq t37 i0) fun t38 H =>
   p.pick t34 t38 bF fun t39 =>
   p.gT t39 H (p.load true 16 t1 H) fun t41 H =>
   p.hT t39 H (p.ca 4 83 [t41] H) fun t42 H =>
   p.pick t39 t42 bF fun t43 =>
   k t43 H)
noncomputable def f44 (n : Nat) (a0 : AV) (H : Ac) (k : KO β) : Option β :=
 p.box a0 H fun t1 H =>
 p.fl 0 t1 1 H fun t6 =>
 p.un .not t6 fun t7 =>
 p.cond t7
 (p.load true 16 t1 H fun t8 =>
 p.ca 4 82 [t8] H fun t9 H =>
 k t9 H)
 (p.fadr 4 t1 fun t10 =>
 p.load false 1 t10 H fun t11 =>
 p.len t11 fun t12 =>
 Rf p n  k n t1 t11 t12 i0 H)
noncomputable def AfK (p : Pr β) (n : Nat)  (k : KO β) (m : Nat) (tm : Tm) (H : Ac) : Option β :=
 Dw 44 (fun tm H k => Ak As p [] 44 n (cd c44 [1, 1, 0, 1, 0, 0]) tm H k) (Ez 0 (Eg (fun tm H => Ak As p [] 44 n (cd c44 [1, 1, 1]) tm H (Cp As p fi44.results k)) (Cp As p fi44.results k))) m tm H
theorem Ael (p : Pr β) (n : Nat)  (k : KO β) (m0 : Nat) : ∀ (t : Nat → AV) (H : Ac), AfK p n  k m0 (tf 44 0 t) H = Rf p n  k m0 (t 1) (t 11) (t 12) (t 13) H := by
 induction m0 with
 | zero => intros; rfl
 | succ m0 ih =>
  intro t H
  refine Eq.trans (Bq (nt := 44) (m := m0) (g := fun t H => Rf p n  k m0 (t 1) (t 11) (t 12) (t 13) H) ih rfl) ?_
  kernel_rfl
theorem Ajc (p : Pr β) (n : Nat) (a0 : AV) (H : Ac) (k : KO β) : Cj As p n fi44 [a0] H k =
 p.box a0 H fun t1 H =>
 p.fadr 0 t1 fun t5 =>
 p.load false 1 t5 H fun t6 =>
 p.un .not t6 fun t7 =>
 p.cond t7
 (p.load true 16 t1 H fun t8 =>
 p.call 4 (.fn 82 [] []) [t8] H fun t9 H =>
 k t9 H)
 (p.fadr 4 t1 fun t10 =>
 p.load false 1 t10 H fun t11 =>
 p.len t11 fun t12 =>
 AfK p n  k n (tf 44 0 (ud [(0, a0), (1, t1), (2, bF), (5, t5), (6, t6), (7, t7), (10, t10), (11, t11), (12, t12), (13, i0)] ut)) H) := by kernel_rfl
theorem AfL : Kv fi44 @f44 := fun p n a0 H k => by
 rw [Ajc]
 simp only [Ael]
 kernel_rfl
noncomputable def Vs (p : Pr β) (n : Nat)  (k : KO β) : Nat → AV → AV → KO β
 | 0, _, _, _, _ => none
 | m + 1, t0, t1, t5, H => p.len t0 fun t13 =>
   p.bin .lss t5 t13 fun t14 =>
   p.cond t14
   (p.iadr 1 t0 t5 fun t19 =>
   p.load false 1 t19 H fun t20 =>
   p.iadr 1 t1 t5 fun t23 =>
   p.load false 1 t23 H fun t24 =>
   p.bin .neq t20 t24 fun t25 =>
   p.cond t25
   (k bF H)
   (p.bin .add t5 (si 1) fun t16 =>
   Vs p n  k m t0 t1 t16 H))
   (k bT H)
noncomputable def f35 (n : Nat) (a0 a1 : AV) (H : Ac) (k : KO β) : Option β :=
 p.len a0 fun t7 =>
 p.len a1 fun t9 =>
 p.bin .neq t7 t9 fun t10 =>
 p.cond t10
 (k bF H)
 (Vs p n  k n a0 a1 i0 H)
noncomputable def AfG (p : Pr β) (n : Nat)  (k : KO β) (m : Nat) (tm : Tm) (H : Ac) : Option β :=
 Dw 26 (fun tm H k => Ak As p o35 26 n (cd c35 [1, 1, 0, 1, 0, 0]) tm H k) (Ez 0 (Eg (fun tm H => Ak As p o35 26 n (cd c35 [1, 1, 1]) tm H (Cp As p fi35.results k)) (Cp As p fi35.results k))) m tm H
theorem Aej (p : Pr β) (n : Nat)  (k : KO β) (m0 : Nat) : ∀ (t : Nat → AV) (H : Ac), AfG p n  k m0 (tf 26 0 t) H = Vs p n  k m0 (t 0) (t 1) (t 5) H := by
 induction m0 with
 | zero => intros; rfl
 | succ m0 ih =>
  intro t H
  refine Eq.trans (Bq (nt := 26) (m := m0) (g := fun t H => Vs p n  k m0 (t 0) (t 1) (t 5) H) ih rfl) ?_
  kernel_rfl
theorem AiZ (p : Pr β) (n : Nat) (a0 a1 : AV) (H : Ac) (k : KO β) : Cj As p n fi35 [a0, a1] H k =
 p.len a0 fun t7 =>
 p.len a1 fun t9 =>
 p.bin .neq t7 t9 fun t10 =>
 p.cond t10
 (k bF H)
 (AfG p n  k n (tf 26 0 (ud [(0, a0), (1, a1), (4, bF), (5, i0), (6, a0), (7, t7), (8, a1), (9, t9), (10, t10)] ut)) H) := by kernel_rfl
theorem AfH : Kb fi35 @f35 := fun p n a0 a1 H k => by
 rw [AiZ]
 simp only [Aej]
 kernel_rfl
noncomputable def f21 (n : Nat) (a0 a1 : AV) (H : Ac) (k : KO β) : Option β :=
 p.box a0 H fun t2 H =>
 p.box a1 H fun t3 H =>
 p.fadr 0 t2 fun t5 =>
 p.load false 1 t5 H fun t6 =>
 p.fadr 0 t3 fun t7 =>
 p.load false 1 t7 H fun t8 =>
 p.call 4 (.fn 35 [] []) [t6, t8] H fun t9 H =>
 p.un .not t9 fun t10 =>
 p.cond t10
 (k bF H)
 (p.fadr 1 t2 fun t11 =>
 p.load false 1 t11 H fun t12 =>
 p.fadr 1 t3 fun t13 =>
 p.load false 1 t13 H fun t14 =>
 p.binB .neq t12 t14 fun t15 =>
 p.cond t15
 (k bF H)
 (k bT H))
theorem Af6 : Kb AmT @f21 := fun p n a0 a1 H k => by kernel_rfl
noncomputable def f114 (n : Nat) (a0 a1 : AV) (H : Ac) (k : KO β) : Option β :=
 p.box a0 H fun t2 H =>
 p.box a1 H fun t3 H =>
 p.fadr 0 t2 fun t5 =>
 p.load false 1 t5 H fun t6 =>
 p.fadr 0 t3 fun t7 =>
 p.load false 1 t7 H fun t8 =>
 p.bin .neq t6 t8 fun t9 =>
 p.cond t9
 (k bF H)
 (p.fadr 1 t2 fun t10 =>
 p.load false 1 t10 H fun t11 =>
 p.fadr 1 t3 fun t12 =>
 p.load false 1 t12 H fun t13 =>
 p.bin .neq t11 t13 fun t14 =>
 p.cond t14
 (k bF H)
 (k bT H))
theorem AdA : Kb Akr @f114 := fun p n a0 a1 H k => by kernel_rfl
noncomputable def Vv (p : Pr β) (n : Nat)  (k : KO β) : Nat → AV → AV → KO β
 | 0, _, _, _, _ => none
 | m + 1, t0, t1, t5, H => p.len t0 fun t13 =>
   p.bin .lss t5 t13 fun t14 =>
   p.cond t14
   (p.iadr 2 t0 t5 fun t19 =>
   p.load true 2 t19 H fun t20 =>
   p.iadr 2 t1 t5 fun t23 =>
   p.load true 2 t23 H fun t24 =>
   p.call 4 (.fn 114 [] []) [t20, t24] H fun t25 H =>
   p.un .not t25 fun t26 =>
   p.cond t26
   (k bF H)
   (p.bin .add t5 (si 1) fun t16 =>
   Vv p n  k m t0 t1 t16 H))
   (k bT H)
noncomputable def f73 (n : Nat) (a0 a1 : AV) (H : Ac) (k : KO β) : Option β :=
 p.len a0 fun t7 =>
 p.len a1 fun t9 =>
 p.bin .neq t7 t9 fun t10 =>
 p.cond t10
 (k bF H)
 (Vv p n  k n a0 a1 i0 H)
noncomputable def Agm (p : Pr β) (n : Nat)  (k : KO β) (m : Nat) (tm : Tm) (H : Ac) : Option β :=
 Dw 27 (fun tm H k => Ak As p o73 27 n (cd c73 [1, 1, 0, 1, 0, 0]) tm H k) (Ez 0 (Eg (fun tm H => Ak As p o73 27 n (cd c73 [1, 1, 1]) tm H (Cp As p fi73.results k)) (Cp As p fi73.results k))) m tm H
theorem Aev (p : Pr β) (n : Nat)  (k : KO β) (m0 : Nat) : ∀ (t : Nat → AV) (H : Ac), Agm p n  k m0 (tf 27 0 t) H = Vv p n  k m0 (t 0) (t 1) (t 5) H := by
 induction m0 with
 | zero => intros; rfl
 | succ m0 ih =>
  intro t H
  refine Eq.trans (Bq (nt := 27) (m := m0) (g := fun t H => Vv p n  k m0 (t 0) (t 1) (t 5) H) ih rfl) ?_
  kernel_rfl
theorem Ajk (p : Pr β) (n : Nat) (a0 a1 : AV) (H : Ac) (k : KO β) : Cj As p n fi73 [a0, a1] H k =
 p.len a0 fun t7 =>
 p.len a1 fun t9 =>
 p.bin .neq t7 t9 fun t10 =>
 p.cond t10
 (k bF H)
 (Agm p n  k n (tf 27 0 (ud [(0, a0), (1, a1), (4, bF), (5, i0), (6, a0), (7, t7), (8, a1), (9, t9), (10, t10)] ut)) H) := by kernel_rfl
theorem Agn : Kb fi73 @f73 := fun p n a0 a1 H k => by
 rw [Ajk]
 simp only [Aev]
 kernel_rfl
noncomputable def Vx (p : Pr β) (n : Nat)  (k : KO β) : Nat → AV → AV → KO β
 | 0, _, _, _, _ => none
 | m + 1, t0, t1, t5, H => p.len t0 fun t13 =>
   p.bin .lss t5 t13 fun t14 =>
   p.cond t14
   (p.iadr 1 t0 t5 fun t19 =>
   p.load false 1 t19 H fun t20 =>
   p.iadr 1 t1 t5 fun t23 =>
   p.load false 1 t23 H fun t24 =>
   p.bin .neq t20 t24 fun t25 =>
   p.cond t25
   (k bF H)
   (p.bin .add t5 (si 1) fun t16 =>
   Vx p n  k m t0 t1 t16 H))
   (k bT H)
noncomputable def f74 (n : Nat) (a0 a1 : AV) (H : Ac) (k : KO β) : Option β :=
 p.len a0 fun t7 =>
 p.len a1 fun t9 =>
 p.bin .neq t7 t9 fun t10 =>
 p.cond t10
 (k bF H)
 (Vx p n  k n a0 a1 i0 H)
noncomputable def Ago (p : Pr β) (n : Nat)  (k : KO β) (m : Nat) (tm : Tm) (H : Ac) : Option β :=
 Dw 26 (fun tm H k => Ak As p o74 26 n (cd c74 [1, 1, 0, 1, 0, 0]) tm H k) (Ez 0 (Eg (fun tm H => Ak As p o74 26 n (cd c74 [1, 1, 1]) tm H (Cp As p fi74.results k)) (Cp As p fi74.results k))) m tm H
theorem Aew (p : Pr β) (n : Nat)  (k : KO β) (m0 : Nat) : ∀ (t : Nat → AV) (H : Ac), Ago p n  k m0 (tf 26 0 t) H = Vx p n  k m0 (t 0) (t 1) (t 5) H := by
 induction m0 with
 | zero => intros; rfl
 | succ m0 ih =>
  intro t H
  refine Eq.trans (Bq (nt := 26) (m := m0) (g := fun t H => Vx p n  k m0 (t 0) (t 1) (t 5) H) ih rfl) ?_
  kernel_rfl
theorem Ajl (p : Pr β) (n : Nat) (a0 a1 : AV) (H : Ac) (k : KO β) : Cj As p n fi74 [a0, a1] H k =
 p.len a0 fun t7 =>
 p.len a1 fun t9 =>
 p.bin .neq t7 t9 fun t10 =>
 p.cond t10
 (k bF H)
 (Ago p n  k n (tf 26 0 (ud [(0, a0), (1, a1), (4, bF), (5, i0), (6, a0), (7, t7), (8, a1), (9, t9), (10, t10)] ut)) H) := by kernel_rfl
theorem Agp : Kb fi74 @f74 := fun p n a0 a1 H k => by
 rw [Ajl]
 simp only [Aew]
 kernel_rfl
noncomputable def Vy (p : Pr β) (n : Nat)  (k : KO β) : Nat → AV → AV → KO β
 | 0, _, _, _, _ => none
 | m + 1, t0, t1, t5, H => p.len t0 fun t13 =>
   p.bin .lss t5 t13 fun t14 =>
   p.cond t14
   (p.iadr 1 t0 t5 fun t19 =>
   p.load false 1 t19 H fun t20 =>
   p.iadr 1 t1 t5 fun t23 =>
   p.load false 1 t23 H fun t24 =>
   p.bin .neq t20 t24 fun t25 =>
   p.cond t25
   (k bF H)
   (p.bin .add t5 (si 1) fun t16 =>
   Vy p n  k m t0 t1 t16 H))
   (k bT H)
noncomputable def f75 (n : Nat) (a0 a1 : AV) (H : Ac) (k : KO β) : Option β :=
 p.len a0 fun t7 =>
 p.len a1 fun t9 =>
 p.bin .neq t7 t9 fun t10 =>
 p.cond t10
 (k bF H)
 (Vy p n  k n a0 a1 i0 H)
noncomputable def Agq (p : Pr β) (n : Nat)  (k : KO β) (m : Nat) (tm : Tm) (H : Ac) : Option β :=
 Dw 26 (fun tm H k => Ak As p o75 26 n (cd c75 [1, 1, 0, 1, 0, 0]) tm H k) (Ez 0 (Eg (fun tm H => Ak As p o75 26 n (cd c75 [1, 1, 1]) tm H (Cp As p fi75.results k)) (Cp As p fi75.results k))) m tm H
theorem Aex (p : Pr β) (n : Nat)  (k : KO β) (m0 : Nat) : ∀ (t : Nat → AV) (H : Ac), Agq p n  k m0 (tf 26 0 t) H = Vy p n  k m0 (t 0) (t 1) (t 5) H := by
 induction m0 with
 | zero => intros; rfl
 | succ m0 ih =>
  intro t H
  refine Eq.trans (Bq (nt := 26) (m := m0) (g := fun t H => Vy p n  k m0 (t 0) (t 1) (t 5) H) ih rfl) ?_
  kernel_rfl
theorem Ajm (p : Pr β) (n : Nat) (a0 a1 : AV) (H : Ac) (k : KO β) : Cj As p n fi75 [a0, a1] H k =
 p.len a0 fun t7 =>
 p.len a1 fun t9 =>
 p.bin .neq t7 t9 fun t10 =>
 p.cond t10
 (k bF H)
 (Agq p n  k n (tf 26 0 (ud [(0, a0), (1, a1), (4, bF), (5, i0), (6, a0), (7, t7), (8, a1), (9, t9), (10, t10)] ut)) H) := by kernel_rfl
theorem Agr : Kb fi75 @f75 := fun p n a0 a1 H k => by
 rw [Ajm]
 simp only [Aex]
 kernel_rfl
noncomputable def f34 (n : Nat) (a0 a1 : AV) (H : Ac) (k : KO β) : Option β :=
 p.box a0 H fun t2 H =>
 p.box a1 H fun t3 H =>
 p.fadr 0 t2 fun t5 =>
 p.load false 1 t5 H fun t6 =>
 p.fadr 0 t3 fun t7 =>
 p.load false 1 t7 H fun t8 =>
 p.bin .neq t6 t8 fun t9 =>
 p.cond t9
 (k bF H)
 (p.fadr 1 t2 fun t10 =>
 p.load false 1 t10 H fun t11 =>
 p.fadr 1 t3 fun t12 =>
 p.load false 1 t12 H fun t13 =>
 p.binB .neq t11 t13 fun t14 =>
 p.cond t14
 (k bF H)
 (p.fadr 2 t2 fun t15 =>
 p.load false 1 t15 H fun t16 =>
 p.fadr 2 t3 fun t17 =>
 p.load false 1 t17 H fun t18 =>
 p.bin .neq t16 t18 fun t19 =>
 p.cond t19
 (k bF H)
 (p.fadr 3 t2 fun t20 =>
 p.load false 1 t20 H fun t21 =>
 p.fadr 3 t3 fun t22 =>
 p.load false 1 t22 H fun t23 =>
 p.binB .neq t21 t23 fun t24 =>
 p.cond t24
 (k bF H)
 (p.fadr 4 t2 fun t25 =>
 p.load false 1 t25 H fun t26 =>
 p.fadr 4 t3 fun t27 =>
 p.load false 1 t27 H fun t28 =>
 p.bin .neq t26 t28 fun t29 =>
 p.cond t29
 (k bF H)
 (p.fadr 5 t2 fun t30 =>
 p.load false 1 t30 H fun t31 =>
 p.fadr 5 t3 fun t32 =>
 p.load false 1 t32 H fun t33 =>
 p.bin .neq t31 t33 fun t34 =>
 p.cond t34
 (k bF H)
 (p.fadr 6 t2 fun t35 =>
 p.load false 1 t35 H fun t36 =>
 p.fadr 6 t3 fun t37 =>
 p.load false 1 t37 H fun t38 =>
 p.call 4 (.fn 35 [] []) [t36, t38] H fun t39 H =>
 p.un .not t39 fun t40 =>
 p.cond t40
 (k bF H)
 (p.fadr 7 t2 fun t41 =>
 p.load false 1 t41 H fun t42 =>
 p.fadr 7 t3 fun t43 =>
 p.load false 1 t43 H fun t44 =>
 p.bin .neq t42 t44 fun t45 =>
 p.cond t45
 (k bF H)
 (p.fadr 8 t2 fun t46 =>
 p.load false 1 t46 H fun t47 =>
 p.fadr 8 t3 fun t48 =>
 p.load false 1 t48 H fun t49 =>
 p.bin .neq t47 t49 fun t50 =>
 p.cond t50
 (k bF H)
 (p.fadr 9 t2 fun t51 =>
 p.load false 1 t51 H fun t52 =>
 p.fadr 9 t3 fun t53 =>
 p.load false 1 t53 H fun t54 =>
 p.binB .neq t52 t54 fun t55 =>
 p.cond t55
 (k bF H)
 (p.fadr 10 t2 fun t56 =>
 p.load false 1 t56 H fun t57 =>
 p.fadr 10 t3 fun t58 =>
 p.load false 1 t58 H fun t59 =>
 p.bin .neq t57 t59 fun t60 =>
 p.cond t60
 (k bF H)
 (p.fadr 11 t2 fun t61 =>
 p.load false 1 t61 H fun t62 =>
 p.fadr 11 t3 fun t63 =>
 p.load false 1 t63 H fun t64 =>
 p.binB .neq t62 t64 fun t65 =>
 p.cond t65
 (k bF H)
 (p.fadr 12 t2 fun t66 =>
 p.load false 1 t66 H fun t67 =>
 p.fadr 12 t3 fun t68 =>
 p.load false 1 t68 H fun t69 =>
 p.bin .neq t67 t69 fun t70 =>
 p.cond t70
 (k bF H)
 (p.fadr 13 t2 fun t71 =>
 p.load false 1 t71 H fun t72 =>
 p.fadr 13 t3 fun t73 =>
 p.load false 1 t73 H fun t74 =>
 p.call 4 (.fn 35 [] []) [t72, t74] H fun t75 H =>
 p.un .not t75 fun t76 =>
 p.cond t76
 (k bF H)
 (p.fadr 14 t2 fun t77 =>
 p.load false 1 t77 H fun t78 =>
 p.fadr 14 t3 fun t79 =>
 p.load false 1 t79 H fun t80 =>
 p.bin .neq t78 t80 fun t81 =>
 p.cond t81
 (k bF H)
 (p.fadr 15 t2 fun t82 =>
 p.load false 1 t82 H fun t83 =>
 p.fadr 15 t3 fun t84 =>
 p.load false 1 t84 H fun t85 =>
 p.binB .neq t83 t85 fun t86 =>
 p.cond t86
 (k bF H)
 (p.fadr 16 t2 fun t87 =>
 p.load false 1 t87 H fun t88 =>
 p.fadr 16 t3 fun t89 =>
 p.load false 1 t89 H fun t90 =>
 p.binB .neq t88 t90 fun t91 =>
 p.cond t91
 (k bF H)
 (p.fadr 17 t2 fun t92 =>
 p.load false 1 t92 H fun t93 =>
 p.fadr 17 t3 fun t94 =>
 p.load false 1 t94 H fun t95 =>
 p.bin .neq t93 t95 fun t96 =>
 p.cond t96
 (k bF H)
 (p.fadr 18 t2 fun t97 =>
 p.load false 1 t97 H fun t98 =>
 p.fadr 18 t3 fun t99 =>
 p.load false 1 t99 H fun t100 =>
 p.binB .neq t98 t100 fun t101 =>
 p.cond t101
 (k bF H)
 (p.fadr 19 t2 fun t102 =>
 p.load false 1 t102 H fun t103 =>
 p.fadr 19 t3 fun t104 =>
 p.load false 1 t104 H fun t105 =>
 p.call 4 (.fn 35 [] []) [t103, t105] H fun t106 H =>
 p.un .not t106 fun t107 =>
 p.cond t107
 (k bF H)
 (p.fadr 20 t2 fun t108 =>
 p.load false 1 t108 H fun t109 =>
 p.fadr 20 t3 fun t110 =>
 p.load false 1 t110 H fun t111 =>
 p.bin .neq t109 t111 fun t112 =>
 p.cond t112
 (k bF H)
 (p.fadr 21 t2 fun t113 =>
 p.load false 1 t113 H fun t114 =>
 p.fadr 21 t3 fun t115 =>
 p.load false 1 t115 H fun t116 =>
 p.binB .neq t114 t116 fun t117 =>
 p.cond t117
 (k bF H)
 (p.fadr 22 t2 fun t118 =>
 p.load false 1 t118 H fun t119 =>
 p.fadr 22 t3 fun t120 =>
 p.load false 1 t120 H fun t121 =>
 p.call 4 (.fn 73 [] []) [t119, t121] H fun t122 H =>
 p.un .not t122 fun t123 =>
 p.cond t123
 (k bF H)
 (p.fadr 23 t2 fun t124 =>
 p.load false 1 t124 H fun t125 =>
 p.fadr 23 t3 fun t126 =>
 p.load false 1 t126 H fun t127 =>
 p.call 4 (.fn 74 [] []) [t125, t127] H fun t128 H =>
 p.un .not t128 fun t129 =>
 p.cond t129
 (k bF H)
 (p.fadr 24 t2 fun t130 =>
 p.load false 1 t130 H fun t131 =>
 p.fadr 24 t3 fun t132 =>
 p.load false 1 t132 H fun t133 =>
 p.call 4 (.fn 75 [] []) [t131, t133] H fun t134 H =>
 p.un .not t134 fun t135 =>
 p.cond t135
 (k bF H)
 (k bT H)))))))))))))))))))))))))
theorem AfF : Kb AmY @f34 := fun p n a0 a1 H k => by kernel_rfl
noncomputable def Vq (p : Pr β) (n : Nat)  (k : KO β) : Nat → AV → AV → KO β
 | 0, _, _, _, _ => none
 | m + 1, t0, t1, t5, H => p.len t0 fun t13 =>
   p.bin .lss t5 t13 fun t14 =>
   p.cond t14
   (p.iadr 25 t0 t5 fun t19 =>
   p.load true 25 t19 H fun t20 =>
   p.iadr 25 t1 t5 fun t23 =>
   p.load true 25 t23 H fun t24 =>
   p.call 4 (.fn 34 [] []) [t20, t24] H fun t25 H =>
   p.un .not t25 fun t26 =>
   p.cond t26
   (k bF H)
   (p.bin .add t5 (si 1) fun t16 =>
   Vq p n  k m t0 t1 t16 H))
   (k bT H)
noncomputable def f22 (n : Nat) (a0 a1 : AV) (H : Ac) (k : KO β) : Option β :=
 p.len a0 fun t7 =>
 p.len a1 fun t9 =>
 p.bin .neq t7 t9 fun t10 =>
 p.cond t10
 (k bF H)
 (Vq p n  k n a0 a1 i0 H)
noncomputable def Af7 (p : Pr β) (n : Nat)  (k : KO β) (m : Nat) (tm : Tm) (H : Ac) : Option β :=
 Dw 27 (fun tm H k => Ak As p o22 27 n (cd c22 [1, 1, 0, 1, 0, 0]) tm H k) (Ez 0 (Eg (fun tm H => Ak As p o22 27 n (cd c22 [1, 1, 1]) tm H (Cp As p fi22.results k)) (Cp As p fi22.results k))) m tm H
theorem Aeh (p : Pr β) (n : Nat)  (k : KO β) (m0 : Nat) : ∀ (t : Nat → AV) (H : Ac), Af7 p n  k m0 (tf 27 0 t) H = Vq p n  k m0 (t 0) (t 1) (t 5) H := by
 induction m0 with
 | zero => intros; rfl
 | succ m0 ih =>
  intro t H
  refine Eq.trans (Bq (nt := 27) (m := m0) (g := fun t H => Vq p n  k m0 (t 0) (t 1) (t 5) H) ih rfl) ?_
  kernel_rfl
theorem AiX (p : Pr β) (n : Nat) (a0 a1 : AV) (H : Ac) (k : KO β) : Cj As p n fi22 [a0, a1] H k =
 p.len a0 fun t7 =>
 p.len a1 fun t9 =>
 p.bin .neq t7 t9 fun t10 =>
 p.cond t10
 (k bF H)
 (Af7 p n  k n (tf 27 0 (ud [(0, a0), (1, a1), (4, bF), (5, i0), (6, a0), (7, t7), (8, a1), (9, t9), (10, t10)] ut)) H) := by kernel_rfl
theorem Af8 : Kb fi22 @f22 := fun p n a0 a1 H k => by
 rw [AiX]
 simp only [Aeh]
 kernel_rfl
noncomputable def f50 (n : Nat) (a0 a1 : AV) (H : Ac) (k : KO β) : Option β :=
 p.box a0 H fun t2 H =>
 p.box a1 H fun t3 H =>
 p.fadr 0 t2 fun t5 =>
 p.load false 1 t5 H fun t6 =>
 p.fadr 0 t3 fun t7 =>
 p.load false 1 t7 H fun t8 =>
 p.bin .neq t6 t8 fun t9 =>
 p.cond t9
 (k bF H)
 (p.fadr 1 t2 fun t10 =>
 p.load false 1 t10 H fun t11 =>
 p.fadr 1 t3 fun t12 =>
 p.load false 1 t12 H fun t13 =>
 p.call 4 (.fn 35 [] []) [t11, t13] H fun t14 H =>
 p.un .not t14 fun t15 =>
 p.cond t15
 (k bF H)
 (p.fadr 2 t2 fun t16 =>
 p.load false 1 t16 H fun t17 =>
 p.fadr 2 t3 fun t18 =>
 p.load false 1 t18 H fun t19 =>
 p.bin .neq t17 t19 fun t20 =>
 p.cond t20
 (k bF H)
 (p.fadr 3 t2 fun t21 =>
 p.load false 1 t21 H fun t22 =>
 p.fadr 3 t3 fun t23 =>
 p.load false 1 t23 H fun t24 =>
 p.binB .neq t22 t24 fun t25 =>
 p.cond t25
 (k bF H)
 (k bT H))))
theorem AfT : Kb Anc @f50 := fun p n a0 a1 H k => by kernel_rfl
noncomputable def f14 (n : Nat) (a0 a1 : AV) (H : Ac) (k : KO β) : Option β :=
 p.box a0 H fun t2 H =>
 p.box a1 H fun t3 H =>
 p.fadr 0 t2 fun t5 =>
 p.load false 1 t5 H fun t6 =>
 p.fadr 0 t3 fun t7 =>
 p.load false 1 t7 H fun t8 =>
 p.binB .neq t6 t8 fun t9 =>
 p.cond t9
 (k bF H)
 (p.fadr 1 t2 fun t10 =>
 p.load false 1 t10 H fun t11 =>
 p.fadr 1 t3 fun t12 =>
 p.load false 1 t12 H fun t13 =>
 p.bin .neq t11 t13 fun t14 =>
 p.cond t14
 (k bF H)
 (p.fadr 2 t2 fun t15 =>
 p.load true 2 t15 H fun t16 =>
 p.fadr 2 t3 fun t17 =>
 p.load true 2 t17 H fun t18 =>
 p.call 4 (.fn 21 [] []) [t16, t18] H fun t19 H =>
 p.un .not t19 fun t20 =>
 p.cond t20
 (k bF H)
 (p.fadr 4 t2 fun t21 =>
 p.load false 1 t21 H fun t22 =>
 p.fadr 4 t3 fun t23 =>
 p.load false 1 t23 H fun t24 =>
 p.call 4 (.fn 22 [] []) [t22, t24] H fun t25 H =>
 p.un .not t25 fun t26 =>
 p.cond t26
 (k bF H)
 (p.fadr 5 t2 fun t27 =>
 p.load false 1 t27 H fun t28 =>
 p.fadr 5 t3 fun t29 =>
 p.load false 1 t29 H fun t30 =>
 p.binB .neq t28 t30 fun t31 =>
 p.cond t31
 (k bF H)
 (p.fadr 6 t2 fun t32 =>
 p.load false 1 t32 H fun t33 =>
 p.fadr 6 t3 fun t34 =>
 p.load false 1 t34 H fun t35 =>
 p.bin .neq t33 t35 fun t36 =>
 p.cond t36
 (k bF H)
 (p.fadr 7 t2 fun t37 =>
 p.load false 1 t37 H fun t38 =>
 p.fadr 7 t3 fun t39 =>
 p.load false 1 t39 H fun t40 =>
 p.bin .neq t38 t40 fun t41 =>
 p.cond t41
 (k bF H)
 (p.fadr 8 t2 fun t42 =>
 p.load false 1 t42 H fun t43 =>
 p.fadr 8 t3 fun t44 =>
 p.load false 1 t44 H fun t45 =>
 p.bin .neq t43 t45 fun t46 =>
 p.cond t46
 (k bF H)
 (p.fadr 9 t2 fun t47 =>
 p.load false 1 t47 H fun t48 =>
 p.fadr 9 t3 fun t49 =>
 p.load false 1 t49 H fun t50 =>
 p.binB .neq t48 t50 fun t51 =>
 p.cond t51
 (k bF H)
 (p.fadr 10 t2 fun t52 =>
 p.load true 4 t52 H fun t53 =>
 p.fadr 10 t3 fun t54 =>
 p.load true 4 t54 H fun t55 =>
 p.call 4 (.fn 50 [] []) [t53, t55] H fun t56 H =>
 p.un .not t56 fun t57 =>
 p.cond t57
 (k bF H)
 (p.fadr 14 t2 fun t58 =>
 p.load false 1 t58 H fun t59 =>
 p.fadr 14 t3 fun t60 =>
 p.load false 1 t60 H fun t61 =>
 p.binB .neq t59 t61 fun t62 =>
 p.cond t62
 (k bF H)
 (p.fadr 15 t2 fun t63 =>
 p.load false 1 t63 H fun t64 =>
 p.fadr 15 t3 fun t65 =>
 p.load false 1 t65 H fun t66 =>
 p.call 4 (.fn 35 [] []) [t64, t66] H fun t67 H =>
 p.un .not t67 fun t68 =>
 p.cond t68
 (k bF H)
 (k bT H))))))))))))
theorem Af3 : Kb AmQ @f14 := fun p n a0 a1 H k => by kernel_rfl
noncomputable def f9 (n : Nat) (a0 : AV) (H : Ac) (k : KO β) : Option β :=
 p.box a0 H fun t1 H =>
 p.load true 16 t1 H fun t7 =>
 p.ca 3 10 [t7, (si 1048576)] H fun t9 H =>
 p.bin .lss t9 i0 fun t11 =>
 p.cond t11
 (k bT H)
 (p.load true 16 t1 H fun t12 =>
 p.ca 36 12 [t12] H fun t13 H =>
 p.ca 4 43 [t13] H fun t14 H =>
 p.load true 16 t1 H fun t15 =>
 p.ca 36 12 [t15] H fun t16 H =>
 p.new [bF, i0, .nl, bF, .nl, bF, sE, i0, i0, bF, sE, .nl, i0, bF, bF, .nl] H fun t5 H =>
 p.store 16 t5 t16 H fun H =>
 p.load true 16 t5 H fun t17 =>
 p.ca 4 44 [t17] H fun t18 H =>
 p.binB .neq t18 t14 fun t21 =>
 p.cond t21
 (k bF H)
 (p.load true 16 t5 H fun t22 =>
 p.load true 16 t1 H fun t23 =>
 p.ca 36 12 [t23] H fun t24 H =>
 p.ca 4 14 [t22, t24] H fun t25 H =>
 p.un .not t25 fun t26 =>
 p.cond t26
 (k bF H)
 (k bT H)))
noncomputable def f11 (n : Nat) (a0 a1 : AV) (H : Ac) (k : KO β) : Option β :=
 p.box a0 H fun t2 H =>
 p.load true 16 t2 H fun t5 =>
 p.ca 4 43 [t5] H fun t6 H =>
 p.lT t6 H 5 t2 1 fun t9 H =>
 p.pick t6 t9 bF fun t10 =>
 p.lT t10 H 7 t2 1 fun t13 H =>
 p.gT t10 H (p.bin .neq t13 i0) fun t14 H =>
 p.pick t10 t14 bF fun t15 =>
 p.kT t15 H a1 fun t17 H =>
 p.lT t15 H 8 t2 1 fun t19 H =>
 p.gT t15 H (p.bin .geq t17 t19) fun t20 H =>
 p.pick t15 t20 bF fun t21 =>
 p.kT t21 H a1 fun t23 H =>
 p.lT t21 H 8 t2 1 fun t25 H =>
 p.gT t21 H (p.bin .sub t23 t25) fun t26 H =>
 p.lT t21 H 7 t2 1 fun t28 H =>
 p.gT t21 H (p.bin .mul (si 3) t28) fun t29 H =>
 p.gT t21 H (p.bin .quo t29 (si 2)) fun t30 H =>
 p.gT t21 H (p.bin .gtr t26 t30) fun t31 H =>
 p.pick t21 t31 bF fun t32 =>
 k t32 H
theorem Afo : Kb AmN @f11 := fun p n a0 a1 H k => by kernel_rfl
noncomputable def f13 (n : Nat) (a0 a1 : AV) (H : Ac) (k : KO β) : Option β :=
 p.box a0 H fun t2 H =>
 p.load true 16 t2 H fun t5 =>
 p.ca 4 44 [t5] H fun t6 H =>
 p.lT t6 H 5 t2 1 fun t9 H =>
 p.pick t6 t9 bF fun t10 =>
 p.lT t10 H 7 t2 1 fun t13 H =>
 p.gT t10 H (p.bin .neq t13 i0) fun t14 H =>
 p.pick t10 t14 bF fun t15 =>
 p.kT t15 H a1 fun t17 H =>
 p.lT t15 H 8 t2 1 fun t19 H =>
 p.gT t15 H (p.bin .geq t17 t19) fun t20 H =>
 p.pick t15 t20 bF fun t21 =>
 p.kT t21 H a1 fun t23 H =>
 p.lT t21 H 8 t2 1 fun t25 H =>
 p.gT t21 H (p.bin .sub t23 t25) fun t26 H =>
 p.lT t21 H 7 t2 1 fun t28 H =>
 p.gT t21 H (p.bin .mul (si 3) t28) fun t29 H =>
 p.gT t21 H (p.bin .quo t29 (si 2)) fun t30 H =>
 p.gT t21 H (p.bin .gtr t26 t30) fun t31 H =>
 p.pick t21 t31 bF fun t32 =>
 k t32 H
theorem Af1 : Kb AmP @f13 := fun p n a0 a1 H k => by kernel_rfl
noncomputable def f3 (n : Nat) (a0 a1 : AV) (H : Ac) (k : KO β) : Option β :=
 p.box a0 H fun t2 H =>
 p.load true 16 t2 H fun t9 =>
 p.call 3 (.fn 10 [] []) [t9, (si 1048576)] H fun t11 H =>
 p.bin .lss t11 i0 fun t13 =>
 p.cond t13
 (k bT H)
 (p.load true 16 t2 H fun t14 =>
 p.call 36 (.fn 12 [] []) [t14] H fun t15 H =>
 p.call 4 (.fn 11 [] []) [t15, a1] H fun t17 H =>
 p.load true 16 t2 H fun t18 =>
 p.call 36 (.fn 12 [] []) [t18] H fun t19 H =>
 p.new [bF, i0, .nl, bF, .nl, bF, sE, i0, i0, bF, sE, .nl, i0, bF, bF, .nl] H fun t7 H =>
 p.store 16 t7 t19 H fun H =>
 p.load true 16 t7 H fun t20 =>
 p.call 4 (.fn 13 [] []) [t20, a1] H fun t22 H =>
 p.binB .neq t22 t17 fun t25 =>
 p.cond t25
 (k bF H)
 (p.load true 16 t7 H fun t26 =>
 p.load true 16 t2 H fun t27 =>
 p.call 36 (.fn 12 [] []) [t27] H fun t28 H =>
 p.call 4 (.fn 14 [] []) [t26, t28] H fun t29 H =>
 p.un .not t29 fun t30 =>
 p.cond t30
 (k bF H)
 (k bT H)))
theorem Aja : Kb fi3 @f3 := fun p n a0 a1 H k => by kernel_rfl
noncomputable def fss : List (Option E3) := [none, none, none, some fi3, none, none, none, none, none, some fi9, some AmM, some AmN, some AmO, some AmP, some AmQ, some AmR, none, none, some AmS, none, none, some AmT, some fi22, none, none, none, none, none, none, some AmU, some AmV, some AmW, some fi32, some AmX, some AmY, some fi35, none, none, none, none, none, none, none, some fi43, some fi44, some fi45, some AmZ, some Ana, some fi48, some Anb, some Anc, none, none, none, none, none, none, none, none, none, none, some And, some fi62, some fi63, some fi64, some Ane, some fi66, some Anf, some fi68, some Ang, some Anh, some Ani, some Anj, some fi73, some fi74, some fi75, none, some fi77, some Ank, some Anl, some Anm, some Ann, some Ano, some Anp, some Anq, some Anr, some Ans, some Ant, some Anu, some fi89, some Anv, some Anw, some fi92, some Anx, some Anz, some An0, some An1, some fi97, some An2, some An3, some Akh, some Aki, some Akj, some fi103, some Akk, some Akl, some Akm, some Akn, some Ako, some Akp, some fi110, some fi111, some fi112, some Akq, some Akr, some fi115, some Aks, some Akt, some Aku, some Akv, some fi120, some fi121, some Akw, some fi123, some fi124, some fi125, some Akx, some fi127, some fi128, some Aky, some Akz, some Ak0, some fi132, some fi133, some fi134, none, none, some Ak1, some fi138, some Ak2, some Ak3, some Ak4, some Ak5, some fi143, some Ak6, some Ak7, some Ak8, none, none, none, some Ak9, some AkA]
noncomputable def tps : List (Nat × List Nat) := [(43, [32, 33]), (60, [59, 3, 3]), (68, [33, 3]), (85, [3, 3, 3]), (93, [33, 3, 3]), (108, [9, 3, 4]), (110, [3, 3, 4]), (131, [22, 3, 4]), (152, [151, 4]), (162, [21, 3]), (165, [164, 164])]
noncomputable def E0 : Pc := { ti := As, tp := fun t => AcU tps t, fs := fun f => (fss[f]?).getD none, ext := fun f => if zb7 f 135 then some Ze else if zb7 f 136 then some Vl else if zb7 f 149 then some Tg else none, hm := fun f => [24, 25, 26, 36, 37, 54, 55, 56, 90, 99, 100, 101, 102, 103, 105, 129, 131, 156, 182, 183, 184, 185, 186].contains f }
noncomputable def PR (n : Nat) (β : Type) : Pr β := Ew E0 (E7 E0 n) β
abbrev Kw (j : Nat) (f : (β : Type) → Pr β → Nat → AV → Ac → KO β → Option β) : Prop := ∀ {β : Type} (n : Nat) (a0 : AV) (H : Ac) (k : KO β), E7 E0 (n + 1) β j [a0] H k = f β (PR n β) n a0 H k
abbrev Kc (j : Nat) (f : (β : Type) → Pr β → Nat → AV → AV → Ac → KO β → Option β) : Prop := ∀ {β : Type} (n : Nat) (a0 a1 : AV) (H : Ac) (k : KO β), E7 E0 (n + 1) β j [a0, a1] H k = f β (PR n β) n a0 a1 H k
abbrev Ce3 (j : Nat) (f : (β : Type) → Pr β → Nat → AV → AV → AV → Ac → KO β → Option β) : Prop := ∀ {β : Type} (n : Nat) (a0 a1 a2 : AV) (H : Ac) (k : KO β), E7 E0 (n + 1) β j [a0, a1, a2] H k = f β (PR n β) n a0 a1 a2 H k
theorem Al0 : Kc 47 @f47 := fun n => AfP (PR n _) n
theorem All : Kc 15 @f15 := fun n => Af4 (PR n _) n
theorem AiS : Kc 144 @f144 := fun n => Aec (PR n _) n
theorem Ai6 : Kc 120 @f120 := fun n => AdG (PR n _) n
theorem Ai7 : Kc 121 @f121 := fun n => AdH (PR n _) n
theorem Ai8 : Kc 122 @f122 := fun n => AdI (PR n _) n
theorem AlP : Kc 84 @f84 := fun n => Ag1 (PR n _) n
theorem Aly : Kc 45 @f45 := fun n => AfN (PR n _) n
theorem Alz : Kc 46 @f46 := fun n => AfO (PR n _) n
theorem Alg : Kc 10 @f10 := fun n => Afj (PR n _) n
theorem Als : Kw 32 @f32 := fun n => AfD (PR n _) n
theorem Alm : Kw 18 @f18 := fun n => Af5 (PR n _) n
theorem AiT : Kw 145 @f145 := fun n => Aed (PR n _) n
theorem Ai9 : Kw 123 @f123 := fun n => AdJ (PR n _) n
theorem AiA : Kw 124 @f124 := fun n => AdK (PR n _) n
theorem AiB : Kw 125 @f125 := fun n => AdL (PR n _) n
theorem AlQ : Kw 85 @f85 := fun n => Ag2 (PR n _) n
theorem Al1 : Kw 48 @f48 := fun n => AfR (PR n _) n
theorem Al2 : Kw 49 @f49 := fun n => AfS (PR n _) n
theorem Ali : Kw 12 @f12 := fun n => Afw (PR n _) n
theorem AlJ : Kw 78 @f78 := fun n => Agv (PR n _) n
theorem AlM : Ce3 81 @f81 := fun n => Agy (PR n _) n
theorem AlV : Kw 90 @f90 := fun n => AgA (PR n _) n
theorem Al8 : Kc 65 @f65 := fun n => Aga (PR n _) n
theorem AlU : Kc 89 @f89 := fun n => Ag9 (PR n _) n
theorem AiR : Kc 143 @f143 := fun n => Aeb (PR n _) n
theorem Ai1 : Kw 115 @f115 := fun n => AdB (PR n _) n
theorem AlL : Kw 80 @f80 := fun n => Agx (PR n _) n
theorem AiD : Kc 127 @f127 := fun n => AdN (PR n _) n
theorem AiE : Kw 128 @f128 := fun n => AdO (PR n _) n
theorem AlW : Kw 91 @f91 := fun n => AgB (PR n _) n
theorem AlX : Kw 92 @f92 := fun n => AgD (PR n _) n
theorem Al7 : Kw 64 @f64 := fun n => AfZ (PR n _) n
theorem Al4 : Kw 61 @f61 := fun n => AfU (PR n _) n
theorem Al5 : Kc 62 @f62 := fun n => AfW (PR n _) n
theorem AlT : Kc 88 @f88 := fun n => Ag5 (PR n _) n
theorem AiC : Kc 126 @f126 := fun n => AdM (PR n _) n
theorem AlS : Kc 87 @f87 := fun n => Ag4 (PR n _) n
theorem AlR : Kw 86 @f86 := fun n => Ag3 (PR n _) n
theorem Al6 : Kc 63 @f63 := fun n => AfY (PR n _) n
theorem Ama : Kc 95 @f95 := fun n => AgG (PR n _) n
theorem AlY : Kc 93 @f93 := fun n => AgE (PR n _) n
theorem AlZ : Kc 94 @f94 := fun n => AgF (PR n _) n
theorem Amb : Kc 96 @f96 := fun n => AgH (PR n _) n
theorem Amc : Kc 97 @f97 := fun n => AgJ (PR n _) n
theorem Al9 : Kw 66 @f66 := fun n => Age (PR n _) n
theorem Alr : Kw 31 @f31 := fun n => AfB (PR n _) n
theorem Alp : Kw 29 @f29 := fun n => Af9 (PR n _) n
theorem AlK : Kw 79 @f79 := fun n => Agw (PR n _) n
theorem Alw : Kw 43 @f43 := fun n => AfJ (PR n _) n
theorem AlE : Kc 71 @f71 := fun n => Agk (PR n _) n
theorem Ai2 : Kc 116 @f116 := fun n => AdC (PR n _) n
theorem Ai3 : Kw 117 @f117 := fun n => AdD (PR n _) n
theorem Amd : Ce3 98 @f98 := fun n => AgK (PR n _) n
theorem Ai4 : Kw 118 @f118 := fun n => AdE (PR n _) n
theorem AiL : Kw 137 @f137 := fun n => AdV (PR n _) n
theorem Aiu : Kw 108 @f108 := fun n => Ad4 (PR n _) n
theorem Ac1 : Kw 107 @f107 := fun n => Ad3 (PR n _) n
theorem Ai5 : Kw 119 @f119 := fun n => AdF (PR n _) n
theorem AlO : Kw 83 @f83 := fun n => Ag0 (PR n _) n
theorem AlN : Kw 82 @f82 := fun n => Agz (PR n _) n
theorem Ais : Kw 105 @f105 := fun n => Ad1 (PR n _) n
theorem AiI : Kc 132 @f132 := fun n => AdS (PR n _) n
theorem AiJ : Kc 133 @f133 := fun n => AdT (PR n _) n
theorem AiK : Kc 134 @f134 := fun n => AdU (PR n _) n
theorem Air : Kc 104 @f104 := fun n => Ad0 (PR n _) n
theorem Ait : Kw 106 @f106 := fun n => Ad2 (PR n _) n
theorem Aiv : Kw 109 @f109 := fun n => Ad5 (PR n _) n
theorem AiV : Kc 150 @f150 := fun n => Aef (PR n _) n
theorem AiM : Kw 138 @f138 := fun n => AdW (PR n _) n
theorem Aiw : Kw 110 @f110 := fun n => Ad6 (PR n _) n
theorem AlD : Kw 70 @f70 := fun n => Agj (PR n _) n
theorem AlA : Kw 67 @f67 := fun n => Agf (PR n _) n
theorem AlB : Kc 68 @f68 := fun n => Agh (PR n _) n
theorem AiG : Kc 130 @f130 := fun n => AdQ (PR n _) n
theorem Agu : Kw 77 @f77 := fun n => Agt (PR n _) n
theorem AiU : Kc 146 @f146 := fun n => Aee (PR n _) n
theorem AiF : Kw 129 @f129 := fun n => AdP (PR n _) n
theorem M4 : Kw 101 @f101 := fun n => Adx (PR n _) n
theorem Aio : Kw 100 @f100 := fun n => Adw (PR n _) n
theorem Aip : Kw 102 @f102 := fun n => Ady (PR n _) n
theorem Ame : Kc 99 @f99 := fun n => AgL (PR n _) n
theorem AiH : Kw 131 @f131 := fun n => AdR (PR n _) n
theorem Aiq : Kc 103 @f103 := fun n => Adz (PR n _) n
theorem AlC : Kc 69 @f69 := fun n => Agi (PR n _) n
theorem AiO : Kc 140 @f140 := fun n => AdY (PR n _) n
theorem AiQ : Kc 142 @f142 := fun n => Aea (PR n _) n
theorem AiP : Kc 141 @f141 := fun n => AdZ (PR n _) n
theorem AiW : Kc 151 @f151 := fun n => Aeg (PR n _) n
theorem AiN : Kw 139 @f139 := fun n => AdX (PR n _) n
theorem Aix : Kw 111 @f111 := fun n => Ad7 (PR n _) n
theorem Aiz : Kw 113 @f113 := fun n => Ad9 (PR n _) n
theorem Aiy : Kc 112 @f112 := fun n => Ad8 (PR n _) n
theorem AlF : Kw 72 @f72 := fun n => Agl (PR n _) n
theorem Alt : Kw 33 @f33 := fun n => AfE (PR n _) n
theorem Alq : Kw 30 @f30 := fun n => AfA (PR n _) n
theorem Alx : Kw 44 @f44 := fun n => AfL (PR n _) n
theorem Alv : Kc 35 @f35 := fun n => AfH (PR n _) n
theorem Aln : Kc 21 @f21 := fun n => Af6 (PR n _) n
theorem Ai0 : Kc 114 @f114 := fun n => AdA (PR n _) n
theorem AlG : Kc 73 @f73 := fun n => Agn (PR n _) n
theorem AlH : Kc 74 @f74 := fun n => Agp (PR n _) n
theorem AlI : Kc 75 @f75 := fun n => Agr (PR n _) n
theorem Alu : Kc 34 @f34 := fun n => AfF (PR n _) n
theorem Alo : Kc 22 @f22 := fun n => Af8 (PR n _) n
theorem Al3 : Kc 50 @f50 := fun n => AfT (PR n _) n
theorem Alk : Kc 14 @f14 := fun n => Af3 (PR n _) n
theorem Alh : Kc 11 @f11 := fun n => Afo (PR n _) n
theorem Alj : Kc 13 @f13 := fun n => Af1 (PR n _) n
theorem AmL : Kc 3 @f3 := fun n => Aja (PR n _) n
end
section
open Go Go.Shelf Go.RowKit Go.Lib Go.Proofs
variable {P : Program} {ρ : Ren}
def ItAt (w w' : World) (s : ByteArray) (pos : Nat) : Prop := Below w.heap.size w w' ∧ w'.heap[w.heap.size]? = some (.stringIter s pos)
def Ui (w' : World) (a : Nat) (s : ByteArray) (pos : Nat) : World := { w' with heap := w'.heap.setIfInBounds a (.stringIter s pos) }
theorem AbS (w : World) (s : ByteArray) (pos : Nat) : ItAt w (w.iter s pos) s pos := ⟨(Below.refl _ w).alloc (zap _) _, World.iter_heap w s pos⟩
theorem ItAt.lt {w w' : World} {s : ByteArray} {pos : Nat} (h : ItAt w w' s pos) : w.heap.size < w'.heap.size := by
 have := h.2
 simp only [za8] at this
 exact this.1
theorem ItAt.set {w w' : World} {s : ByteArray} {pos : Nat} (h : ItAt w w' s pos) (pos' : Nat) : ItAt w (Ui w' w.heap.size s pos') s pos' := by
 refine ⟨h.1.trans ⟨rfl, rfl, rfl, by simp [Ui], fun k hk => ?_⟩, ?_⟩
 ·simp only [Ui]
  rw [zb3 (by omega)]
 ·simp only [Ui]
  rw [Array.getElem?_setIfInBounds_self_of_lt h.lt]
theorem ItAt.below {w w1 w2 : World} {s : ByteArray} {pos : Nat} (h : ItAt w w1 s pos) (hb : Below w1.heap.size w1 w2) : ItAt w w2 s pos :=
 ⟨h.1.trans (hb.mono h.1.size), by rw [hb.block _ h.lt]; exact h.2⟩
theorem AjD {w w' : World} {s : ByteArray} {pos : Nat} (h : ItAt w w' s pos) (hp : pos < s.size) (ty : TypeId) :
  (Instr.next (.pointer (some ⟨w.heap.size, 0, none⟩)) true ty).run P w' = .ok (.tuple #[.bool true, .int .i64 pos, .int .i32 (Utf8.decode s pos).1]) (Ui w' w.heap.size s (pos + (Utf8.decode s pos).2)) := by
 simp only [Instr.next, getObj, setObj, Sem.run_bind, Sem.run, h.2, Result.andThen, hp, if_true]
 simp [goInt, Ui]
theorem Ahg {w w' : World} {s : ByteArray} {pos : Nat} (h : ItAt w w' s pos) (hp : ¬ pos < s.size) (ty : TypeId) :
  (Instr.next (.pointer (some ⟨w.heap.size, 0, none⟩)) true ty).run P w' = .ok (.tuple #[.bool false]) w' := by
 simp [Instr.next, getObj, Sem.run, h.2, hp]
theorem AjS (s : ByteArray) (pos : Nat) : (Utf8.decode s pos).1 < 55296 ∨ (57343 < (Utf8.decode s pos).1 ∧ (Utf8.decode s pos).1 ≤ 1114111) := by
 rw [← Lib.decodeL_drop, Lib.decodeL_N]
 exact Lib.decodeN_valid _ _ _ _ _ (UInt8.toNat_lt _)
theorem AjK : phB.size = 2 := rfl
set_option maxHeartbeats 8000000 in
set_option maxRecDepth 1000000 in
theorem Ahz (L : Lays.n152 P ρ) (r : Nat) (rs : ByteArray) (w : World) (h1 : 128 ≤ r) (hv : r < 55296 ∨ (57343 < r ∧ r ≤ 1114111)) (he : ¬ r = 65533) (hcv : ∀ w, (convert (ρ.t 21) (ρ.t 9) (.int .i32 r)).run P w = .ok (.string rs) w)
  (hs2 : 2 ≤ rs.size) (hs4 : rs.size ≤ 4) (hsl : rs.size = 2 → ∀ h : 1 < rs.size, 128 ≤ (rs[1]'h).toNat) :
  Calls P (ρ.f 152) #[.string phB, .int .i32 r] w fun e w' => e = .returned (.int .i64 (-1)) ∧ Below w.heap.size w w' := by
 have cV : ∀ w, Calls P (ρ.f 119) #[.int .i32 r] w _ := fun w => Any.utf8_ValidRune { L with } r w
 have cI : ∀ s c w, Calls P (ρ.f 137) #[.string s, .int .u8 c] w _ := fun s c w => Any.strings_IndexByte { L with } s c w
 have mixed := L.mixed
 have t3 := L.t3; have a3 := L.a3; have z3 := L.z3; have v3 := L.v3
 have t4 := L.t4; have a4 := L.a4; have z4 := L.z4; have v4 := L.v4
 have t5 := L.t5; have a5 := L.a5; have z5 := L.z5; have v5 := L.v5
 have t9 := L.t9; have a9 := L.a9; have z9 := L.z9; have v9 := L.v9
 have t21 := L.t21; have a21 := L.a21; have z21 := L.z21; have v21 := L.v21
 have e137 : ∀ args w, (callFunc (ρ.f 137) args).run P w = .ok (.enter (ρ.f 137) args) w := enters_of L.f137 (by kernel_rfl) rfl
 have e119 : ∀ args w, (callFunc (ρ.f 119) args).run P w = .ok (.enter (ρ.f 119) args) w := enters_of L.f119 (by kernel_rfl) rfl
 have hge : decide ((0 : Int) ≤ (r : Int)) = true := by simp
 have hlt : decide ((r : Int) < 128) = false := by simp; omega
 have bel : ∀ pos, Below w.heap.size w (w.iter phB pos) := fun pos => (Below.refl _ w).alloc (zap _) _
 have hne : ((r : Int) == 65533) = false := by simp; omega
 have hvr : Lib.validRune (r : Int) = true := by simp [Lib.validRune]; omega
 go_enter L.f152, Body.n152_ntmps ρ
 go_wp2_with (first
  | (go_at_fn (ρ.f 119); refine (cV _).mono ?_; rintro e w' ⟨rfl, hw⟩; rw [hw, hvr])
  | (go_at_fn (ρ.f 137); refine (cI _ _ _).mono ?_; rintro e w' ⟨rfl, hw⟩; rw [hw]))
 go_step3
 go_wp2
 go_loopg [9, 10] 1 (fun g i fl wx => g = 1 ∧ i = .int .i64 ((rs.size : Int) - 1) ∧ fl = .int .i64 0 ∧ wx = w)
 case atStart => exact ⟨rfl, rfl, rfl, rfl⟩
 case round =>
  obtain ⟨-, rfl, rfl, rfl⟩ := hrel
  by_cases h3 : 3 ≤ rs.size
  ·have hlt : decide ((rs.size : Int) - 1 < (phB.size : Int)) = false := by rw [AjK]; simp; omega
   go_wp2
   try rw [Exit.noGoto_ret]
   go_ret
   exact ⟨rfl, Below.refl _ _⟩
  ·have h2 : rs.size = 2 := by omega
   have hi1 : ((rs.size : Int) - 1) = 1 := by omega
   have hi : 1 < rs.size := by omega
   have hp : 1 < phB.size := by decide
   obtain ⟨x, hx⟩ : ∃ x : UInt8, rs[1]'hi = x := ⟨_, rfl⟩
   have hx128 : 128 ≤ x.toNat := by
    rw [← hx]
    exact hsl h2 hi
   have hp1 : phB[1]'hp = 35 := rfl
   have hlt : decide ((1 : Int) < (phB.size : Int)) = true := rfl
   have hne35 : (((35 : UInt8).toNat : Int) != (x.toNat : Int)) = true := by simp; omega
   have hib : Lib.indexByte (List.take (phB.size - 2) (List.drop 2 phB.data.toList)) x = -1 := rfl
   rw [hi1]
   clear hsl hs2 hs4
   go_wp2
   go_step3
   go_wp2
   go_region_o
   all_goals
    go_wp2
    go_region_with_o (go_at_fn (ρ.f 137); refine (cI _ _ _).mono ?_; rintro e w' ⟨rfl, hw⟩; rw [hw])
   all_goals
    go_wp2
    simp only [Exit.inBlock, Exit.then, Exit.noGoto]
    go_ret
    exact ⟨rfl, (Below.refl _ _).drew.drew⟩
set_option maxHeartbeats 8000000 in
set_option maxRecDepth 1000000 in
theorem AjT (L : Lays.n152 P ρ) (r : Nat) (w : World) (h1 : 128 ≤ r) (hv : r < 55296 ∨ (57343 < r ∧ r ≤ 1114111)) :
  Calls P (ρ.f 152) #[.string phB, .int .i32 r] w fun e w' => e = .returned (.int .i64 (-1)) ∧ Below w.heap.size w w' := by
 have cV : ∀ w, Calls P (ρ.f 119) #[.int .i32 r] w _ := fun w => Any.utf8_ValidRune { L with } r w
 have cI : ∀ s c w, Calls P (ρ.f 137) #[.string s, .int .u8 c] w _ := fun s c w => Any.strings_IndexByte { L with } s c w
 have t3 := L.t3; have a3 := L.a3; have z3 := L.z3; have v3 := L.v3
 have t4 := L.t4; have a4 := L.a4; have z4 := L.z4; have v4 := L.v4
 have t5 := L.t5; have a5 := L.a5; have z5 := L.z5; have v5 := L.v5
 have t9 := L.t9; have a9 := L.a9; have z9 := L.z9; have v9 := L.v9
 have t21 := L.t21; have a21 := L.a21; have z21 := L.z21; have v21 := L.v21
 have e137 : ∀ args w, (callFunc (ρ.f 137) args).run P w = .ok (.enter (ρ.f 137) args) w := enters_of L.f137 (by kernel_rfl) rfl
 have e119 : ∀ args w, (callFunc (ρ.f 119) args).run P w = .ok (.enter (ρ.f 119) args) w := enters_of L.f119 (by kernel_rfl) rfl
 have hge : decide ((0 : Int) ≤ (r : Int)) = true := by simp
 have hlt : decide ((r : Int) < 128) = false := by simp; omega
 have bel : ∀ pos, Below w.heap.size w (w.iter phB pos) := fun pos => (Below.refl _ w).alloc (zap _) _
 by_cases he : r = 65533
 ·subst he
  go_enter L.f152, Body.n152_ntmps ρ
  go_wp2
  go_loopg [5, 6] 2 (fun g _ _ wx => ∃ i : Nat, i + g = 2 ∧ wx = w.iter phB i)
  case atStart => exact ⟨0, by omega, rfl⟩
  case round =>
   obtain ⟨i, hig, rfl⟩ := hrel
   cases gk with
   | zero =>
    obtain rfl : i = 2 := by omega
    have hnx := fun ty => run_next_end (P := P) w phB 2 ty (by decide)
    go_wp2
    go_ret
    exact ⟨rfl, bel _⟩
   | succ g =>
    have hi : i < phB.size := by
     show i < 2
     omega
    have hx : (phB[i]'hi).toNat < 64 := by
     have : ∀ q : Fin 2, (phB[q.val]'q.isLt).toNat < 64 := by decide
     exact this ⟨i, hi⟩
    have hnx := fun ty => run_next_ascii (P := P) w phB i ty hi (by omega)
    generalize (phB[i]'hi).toNat = x at hnx hx
    have hxe : ((x : Int) == 65533) = false := by simp; omega
    go_wp2
    go_roundg g
    case measure => omega
    case rel => exact ⟨i + 1, by omega, rfl⟩
 ·obtain ⟨hs2, hs4, hsl⟩ := encode_facts (r : Int) (by simp [Utf8.valid]; omega) (by omega)
  refine Ahz L r (Utf8.encode r) w h1 hv he (fun w => run_convert_int_string w _ _ _ _ (by rw [t21]; rfl) t9) hs2 hs4 ?_
  intro h2 hi
  have := hsl (by omega)
  simp only [h2] at this
  exact this
theorem Ale (l : List UInt8) (h : 128 ≤ (l.getD 0 0).toNat) : 128 ≤ (Lib.decodeL l).1 ∧ ∀ j, j < (Lib.decodeL l).2 → 128 ≤ (l.getD j 0).toNat := by
 rw [Lib.decodeL_N]
 generalize hn : l.length = n
 generalize h0 : (l.getD 0 0).toNat = b0 at h ⊢
 generalize h1 : (l.getD 1 0).toNat = b1
 generalize h2 : (l.getD 2 0).toNat = b2
 generalize h3 : (l.getD 3 0).toNat = b3
 have key : ∀ q, q ≤ 4 → (q = 2 → 128 ≤ b1) → (q = 3 → 128 ≤ b1 ∧ 128 ≤ b2) → (q = 4 → 128 ≤ b1 ∧ 128 ≤ b2 ∧ 128 ≤ b3) → ∀ j, j < q → 128 ≤ (l.getD j 0).toNat := by
  intro q hq k2 k3 k4 j hj
  have : j = 0 ∨ j = 1 ∨ j = 2 ∨ j = 3 := by omega
  rcases this with rfl | rfl | rfl | rfl
  ·rw [h0]; exact h
  ·rw [h1]; omega
  ·rw [h2]; omega
  ·rw [h3]; omega
 unfold Lib.decodeN
 rw [if_neg (by omega)]
 repeat' split
 all_goals
  refine ⟨?_, key _ ?_ ?_ ?_ ?_⟩ <;> simp only <;> omega
def phL (l : List UInt8) : Bool := l.any fun c => c == 43 || c == 35
theorem AaP : ∀ (k : Nat) (l : List UInt8), (∀ j, j < k → 128 ≤ (l.getD j 0).toNat) → phL l = phL (l.drop k)
 | 0, l, _ => rfl
 | k + 1, [], _ => by simp
 | k + 1, b :: l, h => by
  have h0 : 128 ≤ b.toNat := h 0 (by omega)
  have ih := AaP k l fun j hj => h (j + 1) (by omega)
  have e1 : (b == 43) = false := by
   rw [beq_eq_false_iff_ne]
   rintro rfl
   simp at h0
  have e2 : (b == 35) = false := by
   rw [beq_eq_false_iff_ne]
   rintro rfl
   simp at h0
  show (List.any (b :: l) _) = _
  rw [zbB, e1, e2, Bool.or_self, zaC, List.drop_succ_cons]
  exact ih
theorem Ahs (l : List UInt8) (hne : l ≠ []) : phL l = (((Lib.decodeL l).1 == 43 || (Lib.decodeL l).1 == 35) || phL (l.drop (Lib.decodeL l).2)) := by
 cases l with
 | nil => exact absurd rfl hne
 | cons b l =>
  by_cases hb : 128 ≤ b.toNat
  ·obtain ⟨h1, h2⟩ := Ale (b :: l) hb
   have e1 : ((Lib.decodeL (b :: l)).1 == 43) = false := by simp; omega
   have e2 : ((Lib.decodeL (b :: l)).1 == 35) = false := by simp; omega
   rw [e1, e2, Bool.or_self, zaC]
   exact AaP _ _ h2
  ·have e : Lib.decodeL (b :: l) = (b.toNat, 1) := by
    rw [Lib.decodeL_N]
    unfold Lib.decodeN
    rw [if_pos (by simpa using hb)]
    rfl
   rw [e]
   show List.any (b :: l) _ = _
   rw [zbB, List.drop_succ_cons, zaW]
   have e1 : (b == 43) = (b.toNat == 43) := by
    rw [zbq, beq_iff_eq, beq_iff_eq, ← UInt8.toNat_inj]; rfl
   have e2 : (b == 35) = (b.toNat == 35) := by
    rw [zbq, beq_iff_eq, beq_iff_eq, ← UInt8.toNat_inj]; rfl
   rw [e1, e2]
   rfl
theorem AcY (s : ByteArray) : phL s.data.toList = vPH s := Abl _ _ _
theorem Aif (r : Nat) (h : r < 128) : decide (0 ≤ Lib.indexByte phB.data.toList r.toUInt8) = (r == 43 || r == 35) := by
 have : ∀ q : Fin 128, decide (0 ≤ Lib.indexByte phB.data.toList (q.val).toUInt8) = (q.val == 43 || q.val == 35) := by decide
 exact this ⟨r, h⟩
set_option maxHeartbeats 8000000 in
set_option maxRecDepth 1000000 in
theorem Ah2 (L : Lays.n153 P ρ) (s : ByteArray) (w : World) (h8 : s.size ≤ 8) :
  Calls P (ρ.f 153) #[.string s, .string phB] w fun e w' => (∃ z : Int, e = .returned (.int .i64 z) ∧ decide (0 ≤ z) = phL s.data.toList) ∧ Below w.heap.size w w' := by
 have cA : ∀ (r : Nat) w, r < 128 → ∃ z : Int, decide (0 ≤ z) = (r == 43 || r == 35) ∧ Calls P (ρ.f 152) #[.string phB, .int .i32 r] w fun e w' => e = .returned (.int .i64 z) ∧ w' = w := fun r w h => ⟨_, Aif r h, Any.strings_IndexRune_ascii { L with } phB r w (by omega) (by omega)⟩
 have cR : ∀ (r : Nat) w, 128 ≤ r → r < 55296 ∨ (57343 < r ∧ r ≤ 1114111) → Calls P (ρ.f 152) #[.string phB, .int .i32 r] w _ := fun r w h h' => AjT { L with } r w h h'
 have hemp : phB.toList.isEmpty = false := by rw [Lib.toList_data]; rfl
 have hn1 : ((phB.size : Int) == 1) = false := rfl
 have h8z : decide ((8 : Int) < (s.size : Int)) = false := decide_eq_false (by omega)
 have t3 := L.t3; have a3 := L.a3; have z3 := L.z3; have v3 := L.v3
 have t4 := L.t4; have a4 := L.a4; have z4 := L.z4; have v4 := L.v4
 have t5 := L.t5; have a5 := L.a5; have z5 := L.z5; have v5 := L.v5
 have t9 := L.t9; have a9 := L.a9; have z9 := L.z9; have v9 := L.v9
 have t21 := L.t21; have a21 := L.a21; have z21 := L.z21; have v21 := L.v21
 have e152 : ∀ args w, (callFunc (ρ.f 152) args).run P w = .ok (.enter (ρ.f 152) args) w := enters_of L.f152 (by kernel_rfl) rfl
 have e226 : ∀ args w, (callFunc (ρ.f 226) args).run P w = .ok (.enter (ρ.f 226) args) w := enters_of L.f226 (by kernel_rfl) rfl
 go_enter L.f153, Body.n153_ntmps ρ
 go_wp2_with (go_at_fn (ρ.f 226); refine (Any.strings_shouldUseASCIISet { L with } _ _).mono ?_; rintro e w' ⟨rfl, hw⟩; rw [hw, h8z])
 go_loopg [9, 10] s.size (fun g _ _ wx => ∃ pos : Nat, s.size ≤ pos + g ∧ ItAt w wx s pos ∧ phL (s.data.toList.drop pos) = phL s.data.toList)
 case atStart => exact ⟨0, by omega, AbS w s 0, by simp⟩
 case round =>
  obtain ⟨pos, hpg, hit, hph⟩ := hrel
  have HIT : Aside (ItAt w wr s pos) := hit
  have HPH : Aside (phL (s.data.toList.drop pos) = phL s.data.toList) := hph
  by_cases hp : pos < s.size
  ·obtain ⟨g, rfl⟩ : ∃ g, gk = g + 1 := ⟨gk - 1, by omega⟩
   have hnx := fun ty => AjD (P := P) hit hp ty
   have hne : s.data.toList.drop pos ≠ [] := by
    intro h
    have := congrArg List.length h
    simp at this
    omega
   have hst := Ahs _ hne
   rw [Lib.decodeL_drop, hph, zb6] at hst
   have hwd : 1 ≤ (Utf8.decode s pos).2 := by rw [← Lib.decodeL_drop s pos]; exact Lib.decodeL_width _
   have hru := AjS s pos
   have HIT2 : Aside (ItAt w (Ui wr w.heap.size s (pos + (Utf8.decode s pos).2)) s (pos + (Utf8.decode s pos).2)) := hit.set _
   clear hit hph
   generalize hr : (Utf8.decode s pos).1 = r at hnx hst hru
   have HST : Aside (phL s.data.toList = ((r == 43 || r == 35) || phL (s.data.toList.drop (pos + (Utf8.decode s pos).2)))) := hst
   clear hst
   by_cases h128 : r < 128
   ·obtain ⟨z, hz, cz⟩ := cA r (Ui wr w.heap.size s (pos + (Utf8.decode s pos).2)) h128
    clear cA
    cases hin : (r == 43 || r == 35)
    ·rw [hin] at hz
     have hlt : ¬ ((0 : Int) ≤ z) := of_decide_eq_false hz
     clear hz
     go_wp2_with (go_at_fn (ρ.f 152); refine cz.mono ?_; rintro e w' ⟨rfl, hw⟩; rw [hw])
     go_roundg g
     case measure => omega
     case rel => exact ⟨_, by omega, HIT2.out, by rw [HST.out, hin, zaC]⟩
    ·rw [hin] at hz
     have hge : (0 : Int) ≤ z := of_decide_eq_true hz
     clear hz
     go_wp2_with (go_at_fn (ρ.f 152); refine cz.mono ?_; rintro e w' ⟨rfl, hw⟩; rw [hw])
     go_ret
     exact ⟨⟨_, rfl, by rw [HST.out, hin, zbg]; simp⟩, HIT2.out.1⟩
   ·have hin : (r == 43 || r == 35) = false := by simp; omega
    go_wp2_with (go_at_fn (ρ.f 152); refine (cR r _ (by omega) hru).mono ?_; rintro e w' ⟨rfl, hw⟩)
    go_roundg g
    case measure => omega
    case rel => exact ⟨_, by omega, HIT2.out.below hw, by rw [HST.out, hin, zaC]⟩
  ·have hnx := fun ty => Ahg (P := P) hit hp ty
   have hnil : s.data.toList.drop pos = [] := by
    apply zbh
    simp
    omega
   rw [hnil] at hph
   go_wp2
   go_ret
   exact ⟨⟨_, rfl, by rw [← hph]; rfl⟩, HIT.out.1⟩
theorem AgZ (L : Lays.n153 P ρ) (hv116 : ∀ w, (zeroValue (ρ.t 116)).run P w = .ok (.agg (zb2 256 (.bool false))) w) (hi116 : (P.info? (ρ.t 116)).map (·.size) = some 256) (s : ByteArray) (w : World) (hs : s.size < 4294967281) :
  Calls P (ρ.f 153) #[.string s, .string phB] w fun e w' => (∃ z : Int, e = .returned (.int .i64 z) ∧ decide (0 ≤ z) = phL s.data.toList) ∧ Below w.heap.size w w' := by
 by_cases h8 : s.size ≤ 8
 ·exact Ah2 L s w h8
 ·refine (Any.strings_IndexAny_long L hv116 hi116 s phB w (by decide) (by omega) hs (by decide) ?_).mono fun e w' ⟨h1, h2⟩ => ⟨⟨_, h1, ?_⟩, ?_⟩
  ·intro j b hb
   have : phB.data.toList = [43, 35] := rfl
   rw [this] at hb
   match j, hb with
   | 0, hb => cases hb; decide
   | 1, hb => cases hb; decide
  ·have := Amn s
   rw [AcY, ← this]
   rfl
  ·rw [h2]
   exact ((Below.refl _ _).alloc (zap _) _).alloc (by simp) _
set_option maxHeartbeats 1000000 in
theorem Aas (L : Lays.n150 P ρ) (hv116 : ∀ w, (zeroValue (ρ.t 116)).run P w = .ok (.agg (zb2 256 (.bool false))) w) (hi116 : (P.info? (ρ.t 116)).map (·.size) = some 256) (s : ByteArray) (w : World) (hs : s.size < 4294967281) :
  Calls P (ρ.f 150) #[.string s, .string phB] w fun e w' => e = .returned (.bool (vPH s)) ∧ Below w.heap.size w w' := by
 have c := AgZ { L with } hv116 hi116 s w hs
 have t3 := L.t3; have a3 := L.a3; have z3 := L.z3; have v3 := L.v3
 have t4 := L.t4; have a4 := L.a4; have z4 := L.z4; have v4 := L.v4
 have t9 := L.t9; have a9 := L.a9; have z9 := L.z9; have v9 := L.v9
 have e153 : ∀ args w, (callFunc (ρ.f 153) args).run P w = .ok (.enter (ρ.f 153) args) w := enters_of L.f153 (by kernel_rfl) rfl
 go_enter L.f150, Body.n150_ntmps ρ
 go_wp2_with (go_at_fn (ρ.f 153); refine c.mono ?_; rintro e w' ⟨⟨z, rfl, hz⟩, hw⟩)
 go_ret
 refine ⟨?_, hw⟩
 rw [← AcY, ← hz]
 rfl
end
end Go.Proofs.YtlcpigdmekgajaaGreatDoor.Abs
set_option linter.unusedVariables false
set_option linter.unusedSimpArgs false
namespace Go.Proofs
open _root_.Bool renaming false_eq_true → zaa, and_eq_true → zae, not_true → zax, false_or → zaC, true_or → zbg, eq_iff_iff → zbq
open _root_.Option renaming bind_some → zac, getD_some → zaG, map_eq_some_iff → zaK, bind_eq_bind → zaO, pure_def → zbd
open _root_.List renaming getElem?_eq_some_iff → zad, length_append → zaf, nil_append → zag, replicate → zah, append_assoc → zai, getElem?_append_right → zak, length_cons → zal, getElem?_append_left → zam, append_nil → zan, length_nil → zao, length_singleton → zaq, all_cons → zas, map_cons → zat, cons_append → zau, mem_cons_of_mem → zay, mem_cons_self → za1, map_append → za2, flatten_cons → za3, mapM_cons → za4, all_eq_true → za6, drop_eq_getElem_cons → zaA, map_nil → zaB, mem_append_left → zaF, take_length → zaL, mem_append_right → zaM, drop_append_of_le_length → zaQ, mem_append → zaV, drop_zero → zaW, getElem?_map → zaX, take_of_length_le → zaY, drop_of_length_le → zbh, getElem?_cons_zero → zbl, replicate_succ → zbp, flatten_append → zbr, flatten_nil → zbw, drop_length → zb5, drop_drop → zb6, any_cons → zbB, mem_cons → zbF, map_map → zbK
open _root_.Nat renaming le_refl → zap, zero_add → zav, le_trans → za9, add_assoc → zaN, eq_of_beq_eq_true → zaU, add_zero → zba, mul_one → zbs, beq → zb7, add_comm → zbE, succ_mul → zbJ
open _root_.Array renaming getElem?_eq_some_iff → za8, ext' → zbf, replicate → zb2, getElem?_setIfInBounds_ne → zb3
open _root_.Int renaming natCast_zero → zaI, toNat_natCast → zbo
open Go.RowKit Go.Shelf Go.Lib
def Tryz.laysValid_ren : Go.Shelf.Ren := ⟨fun | 196 => 147 | 259 => 152 | n => n, fun | 9 => 9 | 4 => 4 | 3 => 3 | 5 => 5 | 12 => 12 | 119 => 145 | 0 => 0 | 46 => 107 | 139 => 148 | 138 => 147 | 53 => 156 | n => n, fun | 3 => 0 | 4 => 1 | n => n⟩
theorem Tryz.laysValid : Go.Proofs.Lays.n196 Tryz.prog Tryz.laysValid_ren := {
 mixed := by kernel_rfl
 f196 := Tryz.func147.trans (congrArg some (by kernel_rfl))
 f259 := Tryz.func152.trans (congrArg some (by kernel_rfl))
 t0 := Tryz.underlying0
 a0 := Tryz.isAgg0
 z0 := Tryz.sizeOf0
 v0 := Tryz.zeroValue0
 t3 := Tryz.underlying3
 a3 := Tryz.isAgg3
 z3 := Tryz.sizeOf3
 v3 := Tryz.zeroValue3
 t4 := Tryz.underlying4
 a4 := Tryz.isAgg4
 z4 := Tryz.sizeOf4
 v4 := Tryz.zeroValue4
 t5 := Tryz.underlying5
 a5 := Tryz.isAgg5
 z5 := Tryz.sizeOf5
 v5 := Tryz.zeroValue5
 t9 := Tryz.underlying9
 a9 := Tryz.isAgg9
 z9 := Tryz.sizeOf9
 v9 := Tryz.zeroValue9
 t12 := Tryz.underlying12
 a12 := Tryz.isAgg12
 z12 := Tryz.sizeOf12
 v12 := Tryz.zeroValue12
 t46 := Tryz.underlying107
 a46 := Tryz.isAgg107
 z46 := Tryz.sizeOf107
 v46 := Tryz.zeroValue107
 t53 := Tryz.underlying156
 a53 := Tryz.isAgg156
 z53 := Tryz.sizeOf156
 v53 := Tryz.zeroValue156
 t119 := Tryz.underlying145
 a119 := Tryz.isAgg145
 z119 := Tryz.sizeOf145
 t138 := Tryz.underlying147
 a138 := Tryz.isAgg147
 z138 := Tryz.sizeOf147
 v138 := Tryz.zeroValue147
 t139 := Tryz.underlying148
 a139 := Tryz.isAgg148
 z139 := Tryz.sizeOf148
 v139 := Tryz.zeroValue148
 g3 := by kernel_rfl
 g4 := by kernel_rfl }
def Tryz.laysAny_ren : Go.Shelf.Ren := ⟨fun | 150 => 136 | 153 => 148 | 152 => 153 | 226 => 154 | 227 => 155 | 228 => 156 | 137 => 158 | 119 => 159 | 224 => 160 | 225 => 161 | 217 => 165 | 266 => 170 | n => n, fun | 9 => 9 | 4 => 4 | 3 => 3 | 5 => 5 | 21 => 21 | 117 => 152 | 116 => 151 | 0 => 0 | 46 => 107 | 124 => 160 | n => n, fun | n => n⟩
theorem Tryz.laysAny : Go.Proofs.Lays.n150 Tryz.prog Tryz.laysAny_ren := {
 mixed := by kernel_rfl
 f119 := Tryz.func159.trans (congrArg some (by kernel_rfl))
 f137 := Tryz.func158.trans (congrArg some (by kernel_rfl))
 f150 := Tryz.func136.trans (congrArg some (by kernel_rfl))
 f152 := Tryz.func153.trans (congrArg some (by kernel_rfl))
 f153 := Tryz.func148.trans (congrArg some (by kernel_rfl))
 f217 := Tryz.func165.trans (congrArg some (by kernel_rfl))
 f224 := Tryz.func160.trans (congrArg some (by kernel_rfl))
 f225 := Tryz.func161.trans (congrArg some (by kernel_rfl))
 f226 := Tryz.func154.trans (congrArg some (by kernel_rfl))
 f227 := Tryz.func155.trans (congrArg some (by kernel_rfl))
 f228 := Tryz.func156.trans (congrArg some (by kernel_rfl))
 f266 := Tryz.func170.trans (congrArg some (by kernel_rfl))
 t0 := Tryz.underlying0
 a0 := Tryz.isAgg0
 z0 := Tryz.sizeOf0
 v0 := Tryz.zeroValue0
 t3 := Tryz.underlying3
 a3 := Tryz.isAgg3
 z3 := Tryz.sizeOf3
 v3 := Tryz.zeroValue3
 t4 := Tryz.underlying4
 a4 := Tryz.isAgg4
 z4 := Tryz.sizeOf4
 v4 := Tryz.zeroValue4
 t5 := Tryz.underlying5
 a5 := Tryz.isAgg5
 z5 := Tryz.sizeOf5
 v5 := Tryz.zeroValue5
 t9 := Tryz.underlying9
 a9 := Tryz.isAgg9
 z9 := Tryz.sizeOf9
 v9 := Tryz.zeroValue9
 t21 := Tryz.underlying21
 a21 := Tryz.isAgg21
 z21 := Tryz.sizeOf21
 v21 := Tryz.zeroValue21
 t46 := Tryz.underlying107
 a46 := Tryz.isAgg107
 z46 := Tryz.sizeOf107
 v46 := Tryz.zeroValue107
 t116 := Tryz.underlying151
 a116 := Tryz.isAgg151
 z116 := Tryz.sizeOf151
 t117 := Tryz.underlying152
 a117 := Tryz.isAgg152
 z117 := Tryz.sizeOf152
 v117 := Tryz.zeroValue152
 t124 := Tryz.underlying160
 a124 := Tryz.isAgg160
 z124 := Tryz.sizeOf160
 v124 := Tryz.zeroValue160 }
def Tryz.laysSplit_ren : Go.Shelf.Ren := ⟨fun | 146 => 149 | 221 => 157 | 268 => 162 | 138 => 163 | 143 => 164 | 195 => 166 | 197 => 167 | 218 => 168 | 219 => 169 | 260 => 171 | 217 => 165 | 225 => 161 | 224 => 160 | 267 => 172 | 266 => 170 | 314 => 173 | n => n, fun | 9 => 9 | 31 => 56 | 3 => 3 | 4 => 4 | 0 => 0 | 105 => 162 | 21 => 21 | 5 => 5 | 46 => 107 | 119 => 145 | 139 => 148 | 138 => 147 | 146 => 165 | 51 => 164 | n => n, fun | 1 => 2 | 3 => 0 | 4 => 1 | n => n⟩
theorem Tryz.laysSplit : Go.Proofs.Lays.n146 Tryz.prog Tryz.laysSplit_ren := {
 mixed := by kernel_rfl
 f138 := Tryz.func163.trans (congrArg some (by kernel_rfl))
 f143 := Tryz.func164.trans (congrArg some (by kernel_rfl))
 f146 := Tryz.func149.trans (congrArg some (by kernel_rfl))
 f195 := Tryz.func166.trans (congrArg some (by kernel_rfl))
 f197 := Tryz.func167.trans (congrArg some (by kernel_rfl))
 f217 := Tryz.func165.trans (congrArg some (by kernel_rfl))
 f218 := Tryz.func168.trans (congrArg some (by kernel_rfl))
 f219 := Tryz.func169.trans (congrArg some (by kernel_rfl))
 f221 := Tryz.func157.trans (congrArg some (by kernel_rfl))
 f224 := Tryz.func160.trans (congrArg some (by kernel_rfl))
 f225 := Tryz.func161.trans (congrArg some (by kernel_rfl))
 f260 := Tryz.func171.trans (congrArg some (by kernel_rfl))
 f266 := Tryz.func170.trans (congrArg some (by kernel_rfl))
 f267 := Tryz.func172.trans (congrArg some (by kernel_rfl))
 f268 := Tryz.func162.trans (congrArg some (by kernel_rfl))
 f314 := Tryz.func173.trans (congrArg some (by kernel_rfl))
 t0 := Tryz.underlying0
 a0 := Tryz.isAgg0
 z0 := Tryz.sizeOf0
 v0 := Tryz.zeroValue0
 t3 := Tryz.underlying3
 a3 := Tryz.isAgg3
 z3 := Tryz.sizeOf3
 v3 := Tryz.zeroValue3
 t4 := Tryz.underlying4
 a4 := Tryz.isAgg4
 z4 := Tryz.sizeOf4
 v4 := Tryz.zeroValue4
 t5 := Tryz.underlying5
 a5 := Tryz.isAgg5
 z5 := Tryz.sizeOf5
 v5 := Tryz.zeroValue5
 t9 := Tryz.underlying9
 a9 := Tryz.isAgg9
 z9 := Tryz.sizeOf9
 v9 := Tryz.zeroValue9
 t21 := Tryz.underlying21
 a21 := Tryz.isAgg21
 z21 := Tryz.sizeOf21
 v21 := Tryz.zeroValue21
 t31 := Tryz.underlying56
 a31 := Tryz.isAgg56
 z31 := Tryz.sizeOf56
 v31 := Tryz.zeroValue56
 t46 := Tryz.underlying107
 a46 := Tryz.isAgg107
 z46 := Tryz.sizeOf107
 v46 := Tryz.zeroValue107
 t51 := Tryz.underlying164
 a51 := Tryz.isAgg164
 z51 := Tryz.sizeOf164
 v51 := Tryz.zeroValue164
 t105 := Tryz.underlying162
 a105 := Tryz.isAgg162
 z105 := Tryz.sizeOf162
 v105 := Tryz.zeroValue162
 t119 := Tryz.underlying145
 a119 := Tryz.isAgg145
 z119 := Tryz.sizeOf145
 t138 := Tryz.underlying147
 a138 := Tryz.isAgg147
 z138 := Tryz.sizeOf147
 v138 := Tryz.zeroValue147
 t139 := Tryz.underlying148
 a139 := Tryz.isAgg148
 z139 := Tryz.sizeOf148
 v139 := Tryz.zeroValue148
 t146 := Tryz.underlying165
 a146 := Tryz.isAgg165
 z146 := Tryz.sizeOf165
 v146 := Tryz.zeroValue165
 g1 := by kernel_rfl
 g3 := by kernel_rfl
 g4 := by kernel_rfl }
namespace YtlcpigdmekgajaaGreatDoor.Abs
def noZ : Nat → List UInt8 → Bool
 | 0, _ => true
 | n + 1, l => if l = [] then true else if (Lib.decodeL l).1 = 0 then false else noZ n (l.drop (Lib.decodeL l).2)
def Za (s : ByteArray) : Bool := noZ s.size s.data.toList && (Lib.validD s.data.toList && decide (s.size ≤ 60))
def JT (w : World) : Prop := Lib.Utf8Tabs (Tryz.laysValid_ren.g 3) (Tryz.laysValid_ren.g 4) w
def J0 (w : World) : Prop := JT w ∧ ∃ m, w.cell? ⟨Tryz.laysSplit_ren.g 1, 0, none⟩ = some (.int .i64 m)
theorem Ahb : ∀ w w' : World, JT w → Below w.heap.size w w' → JT w' := fun _ _ h hb => Utf8Tabs_below h hb
theorem Aha : ∀ w w' : World, J0 w → Below w.heap.size w w' → J0 w' := fun w w' h hb => ⟨Ahb w w' h.1 hb, by
 obtain ⟨m, hm⟩ := h.2
 have hlt := World.block_lt_of_cell? _ _ hm
 refine ⟨m, ?_⟩
 rw [← hm]
 simp only [World.cell?]
 rw [hb.block _ hlt]⟩
set_option maxHeartbeats 1000000 in
set_option maxRecDepth 1000000 in
theorem AeN (s : ByteArray) (w : World) (hs : s.size ≤ 9223372036854775807) (hT : JT w) :
  Calls Tryz.prog 135 #[.string s] w fun e w' => e = .returned (.bool (Za s)) ∧ Below w.heap.size w w' := by
 have cV : ∀ w, JT w → Calls Tryz.prog 147 #[.string s] w _ := fun w hT => Any.utf8_ValidString Tryz.laysValid s w hs hT
 unfold Za
 generalize hV : Lib.validD s.data.toList = V at cV ⊢
 have bel : ∀ pos, Below w.heap.size w (w.iter s pos) := fun pos => (Below.refl _ w).alloc (zap _) _
 go_enter Tryz.func135, Tryz.ntmps135
 go_wp2
 go_loopw [] (fun w' => ∃ (pos b : Nat), w' = w.iter s pos ∧ noZ b (s.data.toList.drop pos) = noZ s.size s.data.toList ∧ s.size ≤ pos + b) (fun w' => s.size - w'.iterPos w.heap.size)
 case atStart => exact ⟨0, s.size, rfl, by simp, by omega⟩
 case round =>
  obtain ⟨pos, b, rfl, hc, hb⟩ := hrel
  by_cases hp : pos < s.size
  ·have hnx : ∀ ty, (Instr.next (.pointer (some ⟨w.heap.size, 0, none⟩)) true ty).run Tryz.prog (w.iter s pos) = _ := fun ty => run_next_any w s pos ty hp
   have hdd := Lib.decodeL_drop s pos
   have hwd : 1 ≤ (Utf8.decode s pos).2 := by rw [← hdd]; exact Lib.decodeL_width _
   obtain ⟨b, rfl⟩ : ∃ b', b = b' + 1 := ⟨b - 1, by omega⟩
   have hne : s.data.toList.drop pos ≠ [] := by
    intro h
    have := congrArg List.length h
    simp at this
    omega
   rw [noZ, if_neg hne, hdd] at hc
   by_cases hz : (Utf8.decode s pos).1 = 0
   ·rw [if_pos hz] at hc
    have hz' : (((Utf8.decode s pos).1 : Int) == 0) = true := by simp [hz]
    go_wp2
    go_ret
    rw [← hc]
    exact ⟨by simp, bel _⟩
   ·rw [if_neg hz, zb6] at hc
    have hz' : (((Utf8.decode s pos).1 : Int) == 0) = false := by simp; omega
    go_wp2
    go_roundw
    case rel => exact ⟨pos + (Utf8.decode s pos).2, b, rfl, hc, by omega⟩
    case measure =>
     simp
     omega
  ·have hnx : ∀ ty, (Instr.next (.pointer (some ⟨w.heap.size, 0, none⟩)) true ty).run Tryz.prog (w.iter s pos) = _ := fun ty => run_next_end w s pos ty hp
   have hnil : s.data.toList.drop pos = [] := by
    apply zbh
    simp
    omega
   have hc2 : noZ s.size s.data.toList = true := by
    rw [← hc, hnil]
    cases b <;> simp [noZ]
   rw [hc2]
   have cV2 := cV (w.iter s pos) (Utf8Tabs_below hT (bel pos))
   go_wp2_with (go_at_call 147; refine cV2.mono ?_; rintro e w' ⟨rfl, hb2⟩)
   all_goals
    go_ret
    refine ⟨?_, (bel pos).trans (hb2.mono (bel pos).size)⟩
   ·simp_all
    omega
   ·simp_all
theorem Yy : ∀ (n : Nat) (l : List UInt8), Qc n l = (noZ n l && Lib.validGoD n l)
 | 0, _ => rfl
 | n + 1, l => by
  rw [Qc, noZ, Lib.validGoD, Yy n]
  by_cases h : l = []
  ·simp [h]
  ·by_cases h1 : (Lib.decodeL l).1 = 65533 ∧ (Lib.decodeL l).2 = 1
   ·simp [h, h1]
   ·by_cases h2 : (Lib.decodeL l).1 = 0
    ·simp [h, h2]
    ·simp [h, h1, h2]
theorem Afa (s : ByteArray) : Za s = Bd s := by
 have e : s.data.toList.length = s.size := by simp
 unfold Za Bd Lib.validD
 rw [Yy, e]
 cases noZ s.size s.data.toList <;> cases Lib.validGoD s.size s.data.toList <;> simp
theorem AnJ {c : ByteArray} (h : c.data.toList = [43, 35]) : c = phB := by
 cases c with
 | mk d =>
  have : d = #[43, 35] := by apply zbf; simpa using h
  subst this
  rfl
theorem Am9 {c : ByteArray} (h : c.data.toList = [47]) : c = W1 := by
 cases c with
 | mk d =>
  have : d = #[47] := by apply zbf; simpa using h
  subst this
  rfl
theorem Ah1 : (Tryz.prog.info? (Tryz.laysAny_ren.t 116)).map (fun i => (i.zero, i.size)) = some (some (.agg (zb2 256 (.bool false))), 256) := by kernel_rfl
theorem hi9 : (Tryz.prog.info? (Tryz.laysSplit_ren.t 9)).map (fun i => (i.zero, i.size, i.bytes)) = some (some (.string ByteArray.empty), 1, 16) := by kernel_rfl
theorem Ajx {w w' : World} (hb : Below w.heap.size w w') : HR w G9 w' [] := by
 refine ⟨hb, ?_, ?_, ?_, ?_⟩
 ·intro i k b o sz hi
  cases hi
 ·intro i k hi
  cases hi
 ·intro i i' k k' b o sz o' sz' hi
  cases hi
 ·intro i p hp
  cases hp
theorem Acz {w w' : World} (hb : Below w.heap.size w w') (ty : Nat) (v : Value) : ∃ φ' Hc x ids, HR w φ' w' Hc ∧ VR w φ' x v ∧ Dg E0.ti E0.tp Hc 8 ty x = some (.sc v, ids) ∧ ids.Nodup :=
 ⟨G9, [], .sc v, [], Ajx hb, Gw _ _ _, rfl, List.nodup_nil⟩
theorem AaL {ti : Nat → Option TI} {tp : Nat → Option (List Nat)} {H : Ac} {d : Nat} : ∀ (ts : List Nat) (l : List Value), ts.length = l.length → Em (Dg ti tp H (d + 1)) ts (l.map AV.sc) = some (l.map AV.sc, [])
 | [], [], _ => rfl
 | t :: ts, v :: l, h => by
  have ih := AaL (ti := ti) (tp := tp) (H := H) (d := d) ts l (by simpa using h)
  simp only [zat, Em, ih, zac]
  rfl
theorem AjJ {ti : Nat → Option TI} {tp : Nat → Option (List Nat)} {H : Ac} {d ty id off n z : Nat} : Dg ti tp H (d + 1) ty (.sl id off n z) = (ti ty).bind fun i => (ti i.elem).bind fun j => if z = j.size then (if Ka H id then (Ba H id off (n * z)).bind fun cs => (Em (Dg ti tp H d) (zah n j.cty).flatten cs).bind fun q => some (.ro n q.1, id :: q.2) else none) else none := rfl
theorem Afh (w : World) (l : List ByteArray) (e : TypeId) : ∃ φ' Hc x ids, HR w φ' (w.alloc (.cells (l.map Value.string).toArray e)) Hc ∧ VR w φ' x (.slice (some ⟨w.heap.size, 0, none⟩) l.length l.length) ∧
  Dg E0.ti E0.tp Hc 8 56 x = some (.ro l.length (l.map fun s => .sc (.string s)), ids) ∧ ids.Nodup := by
 have hcs : VRs w G9 ((l.map Value.string).map AV.sc) (fun j => (l.map Value.string).toArray[0 + j]?) := by
  rw [Du]
  intro j x hj
  rw [zaX] at hj
  obtain ⟨v, hv, rfl⟩ := zaK.1 hj
  exact ⟨v, by simpa using hv, Gw _ _ _⟩
 obtain ⟨h1, h2⟩ := (HR.start w).alloc (Gc w (.cells (l.map Value.string).toArray e)) (b := w.heap.size) (o := 0) (k := ⟨(l.map Value.string).map AV.sc, true, true⟩) (zap _) (Nn w _) (by simp) (fun _ => rfl) (.inl rfl) hcs
 refine ⟨_, _, .sl 0 0 l.length 1, [0], h1, ?_, ?_, by simp⟩
 ·rw [VR]
  refine .inr ⟨w.heap.size, 0, _, F1 _ _ _, .inr ⟨l.length, zap _, rfl, ?_⟩⟩
  simp
 ·rw [AjJ]
  have hr : Ba ([] ++ [⟨(l.map Value.string).map AV.sc, true, true⟩]) 0 0 (l.length * 1) = some ((l.map Value.string).map AV.sc) := by
   simp [Ba, zaY]
  have e1 : E0.ti 56 = As 56 := rfl
  obtain ⟨i, j, hi, hj, hz, hc⟩ : ∃ i j, As 56 = some i ∧ As i.elem = some j ∧ j.size = 1 ∧ j.cty = [i.elem] := ⟨_, _, rfl, rfl, rfl, rfl⟩
  simp only [e1, hi, zac, show E0.ti i.elem = some j from hj, hz, if_true, hr, hc]
  have ho := AaL (ti := E0.ti) (tp := E0.tp) (H := [] ++ [⟨(l.map Value.string).map AV.sc, true, true⟩]) (d := 6) (zah l.length [i.elem]).flatten (l.map Value.string) (by simp)
  rw [ho]
  have ha : Ka ([] ++ [(⟨(l.map Value.string).map AV.sc, true, true⟩ : J4)]) 0 = true := rfl
  rw [if_pos ha]
  simp [zbK]
theorem AeW (s : ByteArray) (w : World) (hs : s.size < 4294967281) : Calls Tryz.prog 136 #[.string s, .string phB] w fun e w' => e = .returned (.bool (vPH s)) ∧ Below w.heap.size w w' :=
 Aas Tryz.laysAny (zero_of_info Ah1).1 (zero_of_info Ah1).2 s w hs
theorem Acg (s : ByteArray) (w : World) (hs : s.size < 4294967281) (hm : ∃ m, w.cell? ⟨Tryz.laysSplit_ren.g 1, 0, none⟩ = some (.int .i64 m)) : Calls Tryz.prog 149 #[.string s, .string W1] w fun e w' =>
  e = .returned (.slice (some ⟨w.heap.size, 0, none⟩) (Bm s).length (Bm s).length) ∧ w' = w.alloc (.cells ((Bm s).map Value.string).toArray (Tryz.laysSplit_ren.t 9)) := by
 obtain ⟨m, hm⟩ := hm
 have h := Any.strings_Split Tryz.laysSplit hi9 s W1 m w hs hm (zap _)
 rw [S8, ← AbU] at h
 exact h
theorem AjH {w : World} {x : Value} {us : List Value} (hl : us.length = 1) (hv : VRs w G9 [.sc x] (fun j => us[j]?)) : us = [x] := by
 match us, hl with
 | [y], _ =>
  rw [VRs] at hv
  obtain ⟨⟨u, hu, hv⟩, _⟩ := hv
  rw [VR] at hv
  simp at hu
  rw [hu, hv]
theorem Abf {w : World} {x y : Value} {us : List Value} (hl : us.length = 2) (hv : VRs w G9 [.sc x, .sc y] (fun j => us[j]?)) : us = [x, y] := by
 match us, hl with
 | [a, b], _ =>
  rw [VRs, VRs] at hv
  obtain ⟨⟨u, hu, hv⟩, ⟨u2, hu2, hv2⟩, _⟩ := hv
  rw [VR] at hv hv2
  simp at hu hu2
  rw [hu, hv, hu2, hv2]
theorem Ao6 : Akd Tryz.prog E0 J0 := by
 intro f g hg w hj ty vs us t hl hv ht
 have hf : E0.ext f = if zb7 f 135 then some Ze else if zb7 f 136 then some Vl else if zb7 f 149 then some Tg else none := rfl
 rw [hf] at hg
 split at hg
 ·rename_i hfe
  obtain rfl := zaU hfe
  cases hg
  unfold Ze at ht
  split at ht
  case h_2 => cases ht
  rename_i s
  split at ht
  case isFalse => cases ht
  rename_i hs
  cases ht
  have hm : maxLen = 9223372036854775807 := by decide
  rw [hm] at hs
  obtain rfl := AjH hl hv
  refine .inr ⟨enters_of Tryz.func135 (by kernel_rfl) rfl _ _, (AeN s w hs hj.1).mono fun e w' ⟨he, hb⟩ => ⟨_, he, ?_⟩⟩
  rw [Afa]
  exact Acz hb _ _
 split at hg
 ·rename_i hfe
  obtain rfl := zaU hfe
  cases hg
  unfold Vl at ht
  split at ht
  case h_2 => cases ht
  rename_i s c
  split at ht
  case isFalse => cases ht
  rename_i hs
  cases ht
  obtain rfl := Abf hl hv
  obtain ⟨hc, hs⟩ := hs
  obtain rfl := AnJ hc
  exact .inr ⟨enters_of Tryz.func136 (by kernel_rfl) rfl _ _, (AeW s w hs).mono fun e w' ⟨he, hb⟩ => ⟨_, he, Acz hb _ _⟩⟩
 split at hg
 ·rename_i hfe
  obtain rfl := zaU hfe
  cases hg
  unfold Tg at ht
  split at ht
  case h_2 => cases ht
  rename_i s c
  split at ht
  case isFalse => cases ht
  rename_i hs
  cases ht
  obtain rfl := Abf hl hv
  obtain ⟨rfl, hc, hs⟩ := hs
  obtain rfl := Am9 hc
  exact .inr ⟨enters_of Tryz.func149 (by kernel_rfl) rfl _ _, (Acg s w hs hj.2).mono fun e w' ⟨he, hw⟩ => ⟨_, he, by subst hw; exact Afh w (Bm s) _⟩⟩
 ·cases hg
end YtlcpigdmekgajaaGreatDoor.Abs
end Go.Proofs
namespace Go.Proofs.YtlcpigdmekgajaaGreatDoor.Abs
open _root_.Bool renaming false_eq_true → zaa, and_eq_true → zae, not_true → zax, false_or → zaC, true_or → zbg, eq_iff_iff → zbq
open _root_.Option renaming bind_some → zac, getD_some → zaG, map_eq_some_iff → zaK, bind_eq_bind → zaO, pure_def → zbd
open _root_.List renaming getElem?_eq_some_iff → zad, length_append → zaf, nil_append → zag, replicate → zah, append_assoc → zai, getElem?_append_right → zak, length_cons → zal, getElem?_append_left → zam, append_nil → zan, length_nil → zao, length_singleton → zaq, all_cons → zas, map_cons → zat, cons_append → zau, mem_cons_of_mem → zay, mem_cons_self → za1, map_append → za2, flatten_cons → za3, mapM_cons → za4, all_eq_true → za6, drop_eq_getElem_cons → zaA, map_nil → zaB, mem_append_left → zaF, take_length → zaL, mem_append_right → zaM, drop_append_of_le_length → zaQ, mem_append → zaV, drop_zero → zaW, getElem?_map → zaX, take_of_length_le → zaY, drop_of_length_le → zbh, getElem?_cons_zero → zbl, replicate_succ → zbp, flatten_append → zbr, flatten_nil → zbw, drop_length → zb5, drop_drop → zb6, any_cons → zbB, mem_cons → zbF, map_map → zbK
open _root_.Nat renaming le_refl → zap, zero_add → zav, le_trans → za9, add_assoc → zaN, eq_of_beq_eq_true → zaU, add_zero → zba, mul_one → zbs, beq → zb7, add_comm → zbE, succ_mul → zbJ
open _root_.Array renaming getElem?_eq_some_iff → za8, ext' → zbf, replicate → zb2, getElem?_setIfInBounds_ne → zb3
open _root_.Int renaming natCast_zero → zaI, toNat_natCast → zbo
section
open Go
theorem AnP : AhF Tryz.prog 0 tis = true := by kernel_rfl
theorem AmK : AgN E0 fss = true := by kernel_rfl
theorem AhG : J8 Tryz.prog As := by
 intro t i h
 unfold As at h
 cases hl : tis[t]? with
 | none => rw [hl] at h; cases h
 | some o =>
  rw [hl] at h
  simp only [zaG] at h
  subst h
  simpa using (Z6 tis 0 t i AnP hl).1
theorem AmI : ∀ t i, As t = some i → i.ik = some .u8 → i.size = 1 := by
 intro t i h
 unfold As at h
 cases hl : tis[t]? with
 | none => rw [hl] at h; cases h
 | some o =>
  rw [hl] at h
  simp only [zaG] at h
  subst h
  exact (Z6 tis 0 t i AnP hl).2
def FnQ (n : Nat) (c : Code) (t : Nat) (f : Func) : Prop := ∃ fn, Tryz.prog.funcs[n]? = some fn ∧ (fn.name == "runtime.NumGoroutine") = false ∧ fn.body = some c ∧ fn.ntmps = t ∧ fn.results.toList = f.results.toList
theorem Fo {c : Code} {t : Nat} {f : Func} {o : List (Nat × PI)} {i : E3} {n : Nat} (e : some (some (⟨c, t, f.results.toList, o⟩ : E3)) = some (some i)) (h : FnQ n c t f) : ∃ fn, Tryz.prog.funcs[n]? = some fn ∧ (fn.name == "runtime.NumGoroutine") = false ∧ fn.body = some i.body ∧ fn.ntmps = i.ntmps ∧ fn.results.toList = i.results := by cases e; exact h
theorem An5 : ∀ (f : Nat) (i : E3), f < 152 → fss[f]? = some (some i) → ∃ fn, Tryz.prog.funcs[f]? = some fn ∧ (fn.name == "runtime.NumGoroutine") = false ∧ fn.body = some i.body ∧ fn.ntmps = i.ntmps ∧ fn.results.toList = i.results
 | 0, i, _, h => nomatch Option.some.inj h
 | 1, i, _, h => nomatch Option.some.inj h
 | 2, i, _, h => nomatch Option.some.inj h
 | 3, i, _, h => Fo (f := Tryz.f3) h ⟨_, Tryz.func3, by kernel_rfl, by kernel_rfl, rfl, rfl⟩
 | 4, i, _, h => nomatch Option.some.inj h
 | 5, i, _, h => nomatch Option.some.inj h
 | 6, i, _, h => nomatch Option.some.inj h
 | 7, i, _, h => nomatch Option.some.inj h
 | 8, i, _, h => nomatch Option.some.inj h
 | 9, i, _, h => Fo (f := Tryz.f9) h ⟨_, Tryz.func9, by kernel_rfl, by kernel_rfl, rfl, rfl⟩
 | 10, i, _, h => Fo (f := Tryz.f10) h ⟨_, Tryz.func10, by kernel_rfl, by kernel_rfl, rfl, rfl⟩
 | 11, i, _, h => Fo (f := Tryz.f11) h ⟨_, Tryz.func11, by kernel_rfl, by kernel_rfl, rfl, rfl⟩
 | 12, i, _, h => Fo (f := Tryz.f12) h ⟨_, Tryz.func12, by kernel_rfl, by kernel_rfl, rfl, rfl⟩
 | 13, i, _, h => Fo (f := Tryz.f13) h ⟨_, Tryz.func13, by kernel_rfl, by kernel_rfl, rfl, rfl⟩
 | 14, i, _, h => Fo (f := Tryz.f14) h ⟨_, Tryz.func14, by kernel_rfl, by kernel_rfl, rfl, rfl⟩
 | 15, i, _, h => Fo (f := Tryz.f15) h ⟨_, Tryz.func15, by kernel_rfl, by kernel_rfl, rfl, rfl⟩
 | 16, i, _, h => nomatch Option.some.inj h
 | 17, i, _, h => nomatch Option.some.inj h
 | 18, i, _, h => Fo (f := Tryz.f18) h ⟨_, Tryz.func18, by kernel_rfl, by kernel_rfl, rfl, rfl⟩
 | 19, i, _, h => nomatch Option.some.inj h
 | 20, i, _, h => nomatch Option.some.inj h
 | 21, i, _, h => Fo (f := Tryz.f21) h ⟨_, Tryz.func21, by kernel_rfl, by kernel_rfl, rfl, rfl⟩
 | 22, i, _, h => Fo (f := Tryz.f22) h ⟨_, Tryz.func22, by kernel_rfl, by kernel_rfl, rfl, rfl⟩
 | 23, i, _, h => nomatch Option.some.inj h
 | 24, i, _, h => nomatch Option.some.inj h
 | 25, i, _, h => nomatch Option.some.inj h
 | 26, i, _, h => nomatch Option.some.inj h
 | 27, i, _, h => nomatch Option.some.inj h
 | 28, i, _, h => nomatch Option.some.inj h
 | 29, i, _, h => Fo (f := Tryz.f29) h ⟨_, Tryz.func29, by kernel_rfl, by kernel_rfl, rfl, rfl⟩
 | 30, i, _, h => Fo (f := Tryz.f30) h ⟨_, Tryz.func30, by kernel_rfl, by kernel_rfl, rfl, rfl⟩
 | 31, i, _, h => Fo (f := Tryz.f31) h ⟨_, Tryz.func31, by kernel_rfl, by kernel_rfl, rfl, rfl⟩
 | 32, i, _, h => Fo (f := Tryz.f32) h ⟨_, Tryz.func32, by kernel_rfl, by kernel_rfl, rfl, rfl⟩
 | 33, i, _, h => Fo (f := Tryz.f33) h ⟨_, Tryz.func33, by kernel_rfl, by kernel_rfl, rfl, rfl⟩
 | 34, i, _, h => Fo (f := Tryz.f34) h ⟨_, Tryz.func34, by kernel_rfl, by kernel_rfl, rfl, rfl⟩
 | 35, i, _, h => Fo (f := Tryz.f35) h ⟨_, Tryz.func35, by kernel_rfl, by kernel_rfl, rfl, rfl⟩
 | 36, i, _, h => nomatch Option.some.inj h
 | 37, i, _, h => nomatch Option.some.inj h
 | 38, i, _, h => nomatch Option.some.inj h
 | 39, i, _, h => nomatch Option.some.inj h
 | 40, i, _, h => nomatch Option.some.inj h
 | 41, i, _, h => nomatch Option.some.inj h
 | 42, i, _, h => nomatch Option.some.inj h
 | 43, i, _, h => Fo (f := Tryz.f43) h ⟨_, Tryz.func43, by kernel_rfl, by kernel_rfl, rfl, rfl⟩
 | 44, i, _, h => Fo (f := Tryz.f44) h ⟨_, Tryz.func44, by kernel_rfl, by kernel_rfl, rfl, rfl⟩
 | 45, i, _, h => Fo (f := Tryz.f45) h ⟨_, Tryz.func45, by kernel_rfl, by kernel_rfl, rfl, rfl⟩
 | 46, i, _, h => Fo (f := Tryz.f46) h ⟨_, Tryz.func46, by kernel_rfl, by kernel_rfl, rfl, rfl⟩
 | 47, i, _, h => Fo (f := Tryz.f47) h ⟨_, Tryz.func47, by kernel_rfl, by kernel_rfl, rfl, rfl⟩
 | 48, i, _, h => Fo (f := Tryz.f48) h ⟨_, Tryz.func48, by kernel_rfl, by kernel_rfl, rfl, rfl⟩
 | 49, i, _, h => Fo (f := Tryz.f49) h ⟨_, Tryz.func49, by kernel_rfl, by kernel_rfl, rfl, rfl⟩
 | 50, i, _, h => Fo (f := Tryz.f50) h ⟨_, Tryz.func50, by kernel_rfl, by kernel_rfl, rfl, rfl⟩
 | 51, i, _, h => nomatch Option.some.inj h
 | 52, i, _, h => nomatch Option.some.inj h
 | 53, i, _, h => nomatch Option.some.inj h
 | 54, i, _, h => nomatch Option.some.inj h
 | 55, i, _, h => nomatch Option.some.inj h
 | 56, i, _, h => nomatch Option.some.inj h
 | 57, i, _, h => nomatch Option.some.inj h
 | 58, i, _, h => nomatch Option.some.inj h
 | 59, i, _, h => nomatch Option.some.inj h
 | 60, i, _, h => nomatch Option.some.inj h
 | 61, i, _, h => Fo (f := Tryz.f61) h ⟨_, Tryz.func61, by kernel_rfl, by kernel_rfl, rfl, rfl⟩
 | 62, i, _, h => Fo (f := Tryz.f62) h ⟨_, Tryz.func62, by kernel_rfl, by kernel_rfl, rfl, rfl⟩
 | 63, i, _, h => Fo (f := Tryz.f63) h ⟨_, Tryz.func63, by kernel_rfl, by kernel_rfl, rfl, rfl⟩
 | 64, i, _, h => Fo (f := Tryz.f64) h ⟨_, Tryz.func64, by kernel_rfl, by kernel_rfl, rfl, rfl⟩
 | 65, i, _, h => Fo (f := Tryz.f65) h ⟨_, Tryz.func65, by kernel_rfl, by kernel_rfl, rfl, rfl⟩
 | 66, i, _, h => Fo (f := Tryz.f66) h ⟨_, Tryz.func66, by kernel_rfl, by kernel_rfl, rfl, rfl⟩
 | 67, i, _, h => Fo (f := Tryz.f67) h ⟨_, Tryz.func67, by kernel_rfl, by kernel_rfl, rfl, rfl⟩
 | 68, i, _, h => Fo (f := Tryz.f68) h ⟨_, Tryz.func68, by kernel_rfl, by kernel_rfl, rfl, rfl⟩
 | 69, i, _, h => Fo (f := Tryz.f69) h ⟨_, Tryz.func69, by kernel_rfl, by kernel_rfl, rfl, rfl⟩
 | 70, i, _, h => Fo (f := Tryz.f70) h ⟨_, Tryz.func70, by kernel_rfl, by kernel_rfl, rfl, rfl⟩
 | 71, i, _, h => Fo (f := Tryz.f71) h ⟨_, Tryz.func71, by kernel_rfl, by kernel_rfl, rfl, rfl⟩
 | 72, i, _, h => Fo (f := Tryz.f72) h ⟨_, Tryz.func72, by kernel_rfl, by kernel_rfl, rfl, rfl⟩
 | 73, i, _, h => Fo (f := Tryz.f73) h ⟨_, Tryz.func73, by kernel_rfl, by kernel_rfl, rfl, rfl⟩
 | 74, i, _, h => Fo (f := Tryz.f74) h ⟨_, Tryz.func74, by kernel_rfl, by kernel_rfl, rfl, rfl⟩
 | 75, i, _, h => Fo (f := Tryz.f75) h ⟨_, Tryz.func75, by kernel_rfl, by kernel_rfl, rfl, rfl⟩
 | 76, i, _, h => nomatch Option.some.inj h
 | 77, i, _, h => Fo (f := Tryz.f77) h ⟨_, Tryz.func77, by kernel_rfl, by kernel_rfl, rfl, rfl⟩
 | 78, i, _, h => Fo (f := Tryz.f78) h ⟨_, Tryz.func78, by kernel_rfl, by kernel_rfl, rfl, rfl⟩
 | 79, i, _, h => Fo (f := Tryz.f79) h ⟨_, Tryz.func79, by kernel_rfl, by kernel_rfl, rfl, rfl⟩
 | 80, i, _, h => Fo (f := Tryz.f80) h ⟨_, Tryz.func80, by kernel_rfl, by kernel_rfl, rfl, rfl⟩
 | 81, i, _, h => Fo (f := Tryz.f81) h ⟨_, Tryz.func81, by kernel_rfl, by kernel_rfl, rfl, rfl⟩
 | 82, i, _, h => Fo (f := Tryz.f82) h ⟨_, Tryz.func82, by kernel_rfl, by kernel_rfl, rfl, rfl⟩
 | 83, i, _, h => Fo (f := Tryz.f83) h ⟨_, Tryz.func83, by kernel_rfl, by kernel_rfl, rfl, rfl⟩
 | 84, i, _, h => Fo (f := Tryz.f84) h ⟨_, Tryz.func84, by kernel_rfl, by kernel_rfl, rfl, rfl⟩
 | 85, i, _, h => Fo (f := Tryz.f85) h ⟨_, Tryz.func85, by kernel_rfl, by kernel_rfl, rfl, rfl⟩
 | 86, i, _, h => Fo (f := Tryz.f86) h ⟨_, Tryz.func86, by kernel_rfl, by kernel_rfl, rfl, rfl⟩
 | 87, i, _, h => Fo (f := Tryz.f87) h ⟨_, Tryz.func87, by kernel_rfl, by kernel_rfl, rfl, rfl⟩
 | 88, i, _, h => Fo (f := Tryz.f88) h ⟨_, Tryz.func88, by kernel_rfl, by kernel_rfl, rfl, rfl⟩
 | 89, i, _, h => Fo (f := Tryz.f89) h ⟨_, Tryz.func89, by kernel_rfl, by kernel_rfl, rfl, rfl⟩
 | 90, i, _, h => Fo (f := Tryz.f90) h ⟨_, Tryz.func90, by kernel_rfl, by kernel_rfl, rfl, rfl⟩
 | 91, i, _, h => Fo (f := Tryz.f91) h ⟨_, Tryz.func91, by kernel_rfl, by kernel_rfl, rfl, rfl⟩
 | 92, i, _, h => Fo (f := Tryz.f92) h ⟨_, Tryz.func92, by kernel_rfl, by kernel_rfl, rfl, rfl⟩
 | 93, i, _, h => Fo (f := Tryz.f93) h ⟨_, Tryz.func93, by kernel_rfl, by kernel_rfl, rfl, rfl⟩
 | 94, i, _, h => Fo (f := Tryz.f94) h ⟨_, Tryz.func94, by kernel_rfl, by kernel_rfl, rfl, rfl⟩
 | 95, i, _, h => Fo (f := Tryz.f95) h ⟨_, Tryz.func95, by kernel_rfl, by kernel_rfl, rfl, rfl⟩
 | 96, i, _, h => Fo (f := Tryz.f96) h ⟨_, Tryz.func96, by kernel_rfl, by kernel_rfl, rfl, rfl⟩
 | 97, i, _, h => Fo (f := Tryz.f97) h ⟨_, Tryz.func97, by kernel_rfl, by kernel_rfl, rfl, rfl⟩
 | 98, i, _, h => Fo (f := Tryz.f98) h ⟨_, Tryz.func98, by kernel_rfl, by kernel_rfl, rfl, rfl⟩
 | 99, i, _, h => Fo (f := Tryz.f99) h ⟨_, Tryz.func99, by kernel_rfl, by kernel_rfl, rfl, rfl⟩
 | 100, i, _, h => Fo (f := Tryz.f100) h ⟨_, Tryz.func100, by kernel_rfl, by kernel_rfl, rfl, rfl⟩
 | 101, i, _, h => Fo (f := Tryz.f101) h ⟨_, Tryz.func101, by kernel_rfl, by kernel_rfl, rfl, rfl⟩
 | 102, i, _, h => Fo (f := Tryz.f102) h ⟨_, Tryz.func102, by kernel_rfl, by kernel_rfl, rfl, rfl⟩
 | 103, i, _, h => Fo (f := Tryz.f103) h ⟨_, Tryz.func103, by kernel_rfl, by kernel_rfl, rfl, rfl⟩
 | 104, i, _, h => Fo (f := Tryz.f104) h ⟨_, Tryz.func104, by kernel_rfl, by kernel_rfl, rfl, rfl⟩
 | 105, i, _, h => Fo (f := Tryz.f105) h ⟨_, Tryz.func105, by kernel_rfl, by kernel_rfl, rfl, rfl⟩
 | 106, i, _, h => Fo (f := Tryz.f106) h ⟨_, Tryz.func106, by kernel_rfl, by kernel_rfl, rfl, rfl⟩
 | 107, i, _, h => Fo (f := Tryz.f107) h ⟨_, Tryz.func107, by kernel_rfl, by kernel_rfl, rfl, rfl⟩
 | 108, i, _, h => Fo (f := Tryz.f108) h ⟨_, Tryz.func108, by kernel_rfl, by kernel_rfl, rfl, rfl⟩
 | 109, i, _, h => Fo (f := Tryz.f109) h ⟨_, Tryz.func109, by kernel_rfl, by kernel_rfl, rfl, rfl⟩
 | 110, i, _, h => Fo (f := Tryz.f110) h ⟨_, Tryz.func110, by kernel_rfl, by kernel_rfl, rfl, rfl⟩
 | 111, i, _, h => Fo (f := Tryz.f111) h ⟨_, Tryz.func111, by kernel_rfl, by kernel_rfl, rfl, rfl⟩
 | 112, i, _, h => Fo (f := Tryz.f112) h ⟨_, Tryz.func112, by kernel_rfl, by kernel_rfl, rfl, rfl⟩
 | 113, i, _, h => Fo (f := Tryz.f113) h ⟨_, Tryz.func113, by kernel_rfl, by kernel_rfl, rfl, rfl⟩
 | 114, i, _, h => Fo (f := Tryz.f114) h ⟨_, Tryz.func114, by kernel_rfl, by kernel_rfl, rfl, rfl⟩
 | 115, i, _, h => Fo (f := Tryz.f115) h ⟨_, Tryz.func115, by kernel_rfl, by kernel_rfl, rfl, rfl⟩
 | 116, i, _, h => Fo (f := Tryz.f116) h ⟨_, Tryz.func116, by kernel_rfl, by kernel_rfl, rfl, rfl⟩
 | 117, i, _, h => Fo (f := Tryz.f117) h ⟨_, Tryz.func117, by kernel_rfl, by kernel_rfl, rfl, rfl⟩
 | 118, i, _, h => Fo (f := Tryz.f118) h ⟨_, Tryz.func118, by kernel_rfl, by kernel_rfl, rfl, rfl⟩
 | 119, i, _, h => Fo (f := Tryz.f119) h ⟨_, Tryz.func119, by kernel_rfl, by kernel_rfl, rfl, rfl⟩
 | 120, i, _, h => Fo (f := Tryz.f120) h ⟨_, Tryz.func120, by kernel_rfl, by kernel_rfl, rfl, rfl⟩
 | 121, i, _, h => Fo (f := Tryz.f121) h ⟨_, Tryz.func121, by kernel_rfl, by kernel_rfl, rfl, rfl⟩
 | 122, i, _, h => Fo (f := Tryz.f122) h ⟨_, Tryz.func122, by kernel_rfl, by kernel_rfl, rfl, rfl⟩
 | 123, i, _, h => Fo (f := Tryz.f123) h ⟨_, Tryz.func123, by kernel_rfl, by kernel_rfl, rfl, rfl⟩
 | 124, i, _, h => Fo (f := Tryz.f124) h ⟨_, Tryz.func124, by kernel_rfl, by kernel_rfl, rfl, rfl⟩
 | 125, i, _, h => Fo (f := Tryz.f125) h ⟨_, Tryz.func125, by kernel_rfl, by kernel_rfl, rfl, rfl⟩
 | 126, i, _, h => Fo (f := Tryz.f126) h ⟨_, Tryz.func126, by kernel_rfl, by kernel_rfl, rfl, rfl⟩
 | 127, i, _, h => Fo (f := Tryz.f127) h ⟨_, Tryz.func127, by kernel_rfl, by kernel_rfl, rfl, rfl⟩
 | 128, i, _, h => Fo (f := Tryz.f128) h ⟨_, Tryz.func128, by kernel_rfl, by kernel_rfl, rfl, rfl⟩
 | 129, i, _, h => Fo (f := Tryz.f129) h ⟨_, Tryz.func129, by kernel_rfl, by kernel_rfl, rfl, rfl⟩
 | 130, i, _, h => Fo (f := Tryz.f130) h ⟨_, Tryz.func130, by kernel_rfl, by kernel_rfl, rfl, rfl⟩
 | 131, i, _, h => Fo (f := Tryz.f131) h ⟨_, Tryz.func131, by kernel_rfl, by kernel_rfl, rfl, rfl⟩
 | 132, i, _, h => Fo (f := Tryz.f132) h ⟨_, Tryz.func132, by kernel_rfl, by kernel_rfl, rfl, rfl⟩
 | 133, i, _, h => Fo (f := Tryz.f133) h ⟨_, Tryz.func133, by kernel_rfl, by kernel_rfl, rfl, rfl⟩
 | 134, i, _, h => Fo (f := Tryz.f134) h ⟨_, Tryz.func134, by kernel_rfl, by kernel_rfl, rfl, rfl⟩
 | 135, i, _, h => nomatch Option.some.inj h
 | 136, i, _, h => nomatch Option.some.inj h
 | 137, i, _, h => Fo (f := Tryz.f137) h ⟨_, Tryz.func137, by kernel_rfl, by kernel_rfl, rfl, rfl⟩
 | 138, i, _, h => Fo (f := Tryz.f138) h ⟨_, Tryz.func138, by kernel_rfl, by kernel_rfl, rfl, rfl⟩
 | 139, i, _, h => Fo (f := Tryz.f139) h ⟨_, Tryz.func139, by kernel_rfl, by kernel_rfl, rfl, rfl⟩
 | 140, i, _, h => Fo (f := Tryz.f140) h ⟨_, Tryz.func140, by kernel_rfl, by kernel_rfl, rfl, rfl⟩
 | 141, i, _, h => Fo (f := Tryz.f141) h ⟨_, Tryz.func141, by kernel_rfl, by kernel_rfl, rfl, rfl⟩
 | 142, i, _, h => Fo (f := Tryz.f142) h ⟨_, Tryz.func142, by kernel_rfl, by kernel_rfl, rfl, rfl⟩
 | 143, i, _, h => Fo (f := Tryz.f143) h ⟨_, Tryz.func143, by kernel_rfl, by kernel_rfl, rfl, rfl⟩
 | 144, i, _, h => Fo (f := Tryz.f144) h ⟨_, Tryz.func144, by kernel_rfl, by kernel_rfl, rfl, rfl⟩
 | 145, i, _, h => Fo (f := Tryz.f145) h ⟨_, Tryz.func145, by kernel_rfl, by kernel_rfl, rfl, rfl⟩
 | 146, i, _, h => Fo (f := Tryz.f146) h ⟨_, Tryz.func146, by kernel_rfl, by kernel_rfl, rfl, rfl⟩
 | 147, i, _, h => nomatch Option.some.inj h
 | 148, i, _, h => nomatch Option.some.inj h
 | 149, i, _, h => nomatch Option.some.inj h
 | 150, i, _, h => Fo (f := Tryz.f150) h ⟨_, Tryz.func150, by kernel_rfl, by kernel_rfl, rfl, rfl⟩
 | 151, i, _, h => Fo (f := Tryz.f151) h ⟨_, Tryz.func151, by kernel_rfl, by kernel_rfl, rfl, rfl⟩
 | n + 152, i, hlt, h => by omega
theorem Ao7 : ∀ f i, E0.fs f = some i → AkN Tryz.prog E0 f i := by
 intro f i h
 have hl : fss[f]? = some (some i) := by
  have h : (fss[f]?).getD none = some i := h
  cases hl : fss[f]? with
  | none => rw [hl] at h; cases h
  | some o => rw [hl] at h; simp only [zaG] at h; rw [h]
 refine ⟨?_, AcL AmK hl⟩
 have hlt : f < 152 := (zad.1 hl).1
 exact An5 f i hlt hl
theorem Ao4 : Aab Tryz.prog E0 J0 := ⟨AhG, AmI, by kernel_rfl, Ao7, Ao6, (fun f q h => by cases h), Aha⟩
end
section
open Go
variable {β : Type} {n : Nat}
section
variable {k : KO β} {k1 : AV → Option β} {H : Ac}
@[simp] theorem Dp : (PR n β).load = Cu := rfl
@[simp] theorem Fx : (PR n β).store = Fp := rfl
@[simp] theorem H9 : (PR n β).new = Sy := rfl
@[simp] theorem Fl : (PR n β).box = Zz := rfl
@[simp] theorem Ia : (PR n β).newSl = H4 := rfl
@[simp] theorem Eb : (PR n β).fadr = C4 := rfl
@[simp] theorem AnX : (PR n β).fld = Aho := rfl
@[simp] theorem Hb : (PR n β).iadr = Es := rfl
@[simp] theorem K6 : (PR n β).idx = AeG := rfl
@[simp] theorem Fj : (PR n β).lenS = Q5 := rfl
@[simp] theorem Hg : (PR n β).len = Jb := rfl
@[simp] theorem Hh : (PR n β).sliceS = Qq := rfl
@[simp] theorem Jl : (PR n β).slice = Rq := rfl
@[simp] theorem Me : (PR n β).app = Mo := rfl
@[simp] theorem AnU : (PR n β).appS = Wt := rfl
@[simp] theorem Dl : (PR n β).bin = C7 := rfl
@[simp] theorem Gn : (PR n β).binB = Nz := rfl
@[simp] theorem I4 : (PR n β).binA = Q4 := rfl
@[simp] theorem Ld : (PR n β).un = pUn := rfl
@[simp] theorem Gb : (PR n β).pick = O9 := rfl
@[simp] theorem K5 : (PR n β).cvI = AaO := rfl
@[simp] theorem AnW : (PR n β).cvSS = AcW := rfl
@[simp] theorem Jk : (PR n β).cvBS = Sw := rfl
@[simp] theorem AhX : (PR n β).cvSB = Wv := rfl
@[simp] theorem AhY : (PR n β).extr = Ww := rfl
@[simp] theorem AnY : (PR n β).nil = Ahp := rfl
@[simp] theorem Ik : (PR n β).fill = fun a l k => (Lf a l).bind k := rfl
@[simp] theorem Lj : (PR n β).make = Sx := rfl
@[simp] theorem Fe : (PR n β).guard = Jv := rfl
@[simp] theorem Cx : (PR n β).cond = Eo := rfl
@[simp] theorem AmE : (PR n β).clear = Tp := rfl
@[simp] theorem AnV : (PR n β).both = P9 := rfl
@[simp] theorem AeT : (PR n β).apart = Rp := rfl
@[simp] theorem AhZ : (PR n β).same = Sz := rfl
theorem Fc : ((PR n β).load = Cu) ∧ ((PR n β).store = Fp) ∧ ((PR n β).new = Sy) ∧ ((PR n β).box = Zz) ∧ ((PR n β).newSl = H4) ∧ ((PR n β).fadr = C4) ∧ ((PR n β).fld = Aho) ∧ ((PR n β).iadr = Es) ∧ ((PR n β).idx = AeG) ∧ ((PR n β).lenS = Q5) ∧ ((PR n β).len = Jb) ∧ ((PR n β).sliceS = Qq) ∧ ((PR n β).slice = Rq) ∧ ((PR n β).app = Mo) ∧ ((PR n β).appS = Wt) ∧ ((PR n β).bin = C7) ∧ ((PR n β).binB = Nz) ∧ ((PR n β).binA = Q4) ∧ ((PR n β).un = pUn) ∧ ((PR n β).pick = O9) ∧ ((PR n β).cvI = AaO) ∧ ((PR n β).cvSS = AcW) ∧ ((PR n β).cvBS = Sw) ∧ ((PR n β).cvSB = Wv) ∧ ((PR n β).extr = Ww) ∧ ((PR n β).nil = Ahp) ∧ ((PR n β).fill = fun a l k => (Lf a l).bind k) ∧ ((PR n β).make = Sx) ∧ ((PR n β).guard = Jv) ∧ ((PR n β).cond = Eo) ∧ ((PR n β).clear = Tp) ∧ ((PR n β).both = P9) ∧ ((PR n β).apart = Rp) ∧ ((PR n β).same = Sz) := ⟨rfl, rfl, rfl, rfl, rfl, rfl, rfl, rfl, rfl, rfl, rfl, rfl, rfl, rfl, rfl, rfl, rfl, rfl, rfl, rfl, rfl, rfl, rfl, rfl, rfl, rfl, rfl, rfl, rfl, rfl, rfl, rfl, rfl, rfl⟩
theorem Fb : (∀ (p : Pr β) (c : AV) (H : Ac) (m : (AV → Option β) → Option β) k, p.gT c H m k = p.guard c true H (fun k' => m fun t' => k' t' H) k) ∧ (∀ (p : Pr β) (c : AV) (H : Ac) (m : (KO β) → Option β) k, p.hT c H m k = p.guard c true H (fun k' => m fun t' H => k' t' H) k) ∧ (∀ (p : Pr β) (c : AV) (H : Ac) (v : AV) k, p.kT c H v k = p.guard c true H (fun k' => k' v H) k) ∧ (∀ (p : Pr β) (c : AV) (H : Ac) (m : (AV → Option β) → Option β) k, p.gF c H m k = p.guard c false H (fun k' => m fun t' => k' t' H) k) ∧ (∀ (p : Pr β) (c : AV) (H : Ac) (m : (KO β) → Option β) k, p.hF c H m k = p.guard c false H (fun k' => m fun t' H => k' t' H) k) ∧ (∀ (p : Pr β) (c : AV) (H : Ac) (v : AV) k, p.kF c H v k = p.guard c false H (fun k' => k' v H) k) ∧ (∀ (p : Pr β) i t n H k, p.fl i t n H k = p.fadr i t fun x => p.load false n x H k) ∧ (∀ (p : Pr β) i t n v H k, p.fs i t n v H k = p.fadr i t fun x => p.store n x v H k) ∧ (∀ (p : Pr β) y f l H k, p.ca y f l H k = p.call y (.fn f [] []) l H k) ∧ (∀ (p : Pr β) c H i t n k, p.lT c H i t n k = p.guard c true H (fun k' => p.fadr i t fun x => k' x H) fun x H => p.guard c true H (fun k' => p.load false n x H fun x => k' x H) k) ∧ (∀ (p : Pr β) c H i t n k, p.lF c H i t n k = p.guard c false H (fun k' => p.fadr i t fun x => k' x H) fun x H => p.guard c false H (fun k' => p.load false n x H fun x => k' x H) k) := ⟨fun _ _ _ _ _ => rfl, fun _ _ _ _ _ => rfl, fun _ _ _ _ _ => rfl, fun _ _ _ _ _ => rfl, fun _ _ _ _ _ => rfl, fun _ _ _ _ _ => rfl, fun _ _ _ _ _ _ => rfl, fun _ _ _ _ _ _ _ => rfl, fun _ _ _ _ _ _ => rfl, fun _ _ _ _ _ _ _ => rfl, fun _ _ _ _ _ _ _ => rfl⟩
noncomputable def E9 (f : Nat) : Bool := E0.hm f || (E0.ext f).isSome
theorem AaQ {f : Nat} (h : E9 f = false) : E0.hm f = false := by
 unfold E9 at h
 simp only [Bool.or_eq_false_iff] at h
 exact h.1
theorem Yu {f : Nat} (h : E9 f = false) : E0.ext f = none := by
 unfold E9 at h
 simp only [Bool.or_eq_false_iff] at h
 simpa using h.2
theorem Hn {ty : Nat} {f : FuncId} {args vs : List AV} {t : AV} (hh : E9 f = false) (hv : args.mapM (Dt H 8) = some vs) (ht : Bz E0 n ty f vs = some t) :
  (PR n β).call ty (.fn f [] []) args H k = k (Cy As E0.tp H.length ty t).1 (H ++ (Cy As E0.tp H.length ty t).2) := by
 show O3 E0 (E7 E0 n) ty f ([] ++ args ++ []) H k = _
 simp only [O3, Yu hh, AaQ hh, zag, zan, zaa, if_false, Aap, hv, zac]
 have ht : Tw E0 (E7 E0 n) ty f vs = some t := ht
 rw [ht]
 rfl
theorem Abj {ty : Nat} {f : FuncId} {g : Nat → List AV → Option AV} {args vs : List AV} {t : AV} (hg : E0.ext f = some g) (hv : args.mapM (Dt H 8) = some vs) (ht : g ty vs = some t) :
  (PR n β).call ty (.fn f [] []) args H k = k (Cy As E0.tp H.length ty t).1 (H ++ (Cy As E0.tp H.length ty t).2) := by
 show O3 E0 (E7 E0 n) ty f ([] ++ args ++ []) H k = _
 simp only [O3, hg, zag, zan, Acv, hv, zac, ht]
 rfl
end
theorem At (n ty : Nat) (f : FuncId) (args : List AV) : Bz E0 n ty f args = E7 E0 n AV f args [] fun x H => Bc As E0.tp ty H x := rfl
@[simp] theorem Am0 {ti : Nat → Option TI} {tp : Nat → Option (List Nat)} (ty : Nat) (H : Ac) (v : Value) : Bc ti tp ty H (.sc v) = some (.sc v) := rfl
theorem Ju {ti : Nat → Option TI} {tp : Nat → Option (List Nat)} {H : Ac} {d ty id off n z : Nat} : Dg ti tp H (d + 1) ty (.sl id off n z) = (ti ty).bind fun i => (ti i.elem).bind fun j => if z = j.size then (if Ka H id then (Ba H id off (n * z)).bind fun cs => (Em (Dg ti tp H d) (zah n j.cty).flatten cs).bind fun q => some (.ro n q.1, id :: q.2) else none) else none := rfl
theorem Jt {ti : Nat → Option TI} {tp : Nat → Option (List Nat)} {H : Ac} {d ty : Nat} {cs : List AV} : Dg ti tp H (d + 1) ty (.agg cs) = (ti ty).bind fun i => (Em (Dg ti tp H d) i.cty cs).bind fun q => some (.agg q.1, q.2) := rfl
theorem K1 {ti : Nat → Option TI} {tp : Nat → Option (List Nat)} {H : Ac} {d ty : Nat} {cs : List AV} : Dg ti tp H (d + 1) ty (.tup cs) = (tp ty).bind fun ts => (Em (Dg ti tp H d) ts cs).bind fun q => some (.tup q.1, q.2) := rfl
theorem Zv {ti : Nat → Option TI} {tp : Nat → Option (List Nat)} {H : Ac} {d ty : Nat} {v : Value} : Dg ti tp H (d + 1) ty (.sc v) = some (.sc v, []) := rfl
theorem G2 {ti : Nat → Option TI} {tp : Nat → Option (List Nat)} {n ty : Nat} {v : Value} : Cy ti tp n ty (.sc v) = (.sc v, []) := rfl
theorem Il {ti : Nat → Option TI} {tp : Nat → Option (List Nat)} {n ty : Nat} {cs : List AV} : Cy ti tp n ty (.agg cs) = (.agg (Bt ti tp n ((ti ty).getD default).cty cs).1, (Bt ti tp n ((ti ty).getD default).cty cs).2) := rfl
theorem Yc {ti : Nat → Option TI} {tp : Nat → Option (List Nat)} {n ty : Nat} {cs : List AV} : Cy ti tp n ty (.tup cs) = (.tup (Bt ti tp n ((tp ty).getD []) cs).1, (Bt ti tp n ((tp ty).getD []) cs).2) := rfl
theorem S9 {H : Ac} {d id off n z : Nat} : Dt H (d + 1) (.sl id off n z) = (Ba H id off (n * z)).bind fun cs => (cs.mapM (Dt H d)).bind fun vs => some (.ro n vs) := rfl
theorem Qx {H : Ac} {d : Nat} {cs : List AV} : Dt H (d + 1) (.agg cs) = (cs.mapM (Dt H d)).bind fun vs => some (.agg vs) := rfl
theorem Abh {H : Ac} {d : Nat} {v : Value} : Dt H (d + 1) (.sc v) = some (.sc v) := rfl
theorem Xj {H : Ac} {d n : Nat} {cs : List AV} : Dt H (d + 1) (.ro n cs) = some (.ro n cs) := rfl
theorem AcT {H : Ac} {d : Nat} : ∀ (l : List Value), (l.map AV.sc).mapM (Dt H (d + 1)) = some (l.map AV.sc)
 | [] => rfl
 | x :: l => by
  have e : Dt H (d + 1) (.sc x) = some (.sc x) := rfl
  simp only [zat, za4, e, zbd, zaO, zac, AcT l]
theorem AcV {ti : Nat → Option TI} {tp : Nat → Option (List Nat)} {H : Ac} {d : Nat} : ∀ (ts : List Nat) (l : List Value), ts.length = l.length → Em (Dg ti tp H (d + 1)) ts (l.map AV.sc) = some (l.map AV.sc, [])
 | [], [], _ => rfl
 | t :: ts, x :: l, h => by
  have e : Dg ti tp H (d + 1) t (.sc x) = some (.sc x, []) := rfl
  simp only [zat, Em, e, zac, AcV ts l (by simpa using h), zan]
 | [], _ :: _, h => by simp at h
 | _ :: _, [], h => by simp at h
def bv (s : ByteArray) : List Value := s.data.toList.map fun b => .int .u8 b.toNat
theorem Abq (s : ByteArray) : Bl s = (bv s).map AV.sc := by simp [Bl, bv]
theorem Fg (s : ByteArray) : (Bl s).length = s.size := by simp [Bl]
theorem Y9 (s : ByteArray) : (Bl s).all Bj = true := by
 simp only [Bl, List.all_map, za6]
 intro b _
 rfl
theorem Oc : ∀ (l : List UInt8), (l.map fun b => AV.sc (.int .u8 (b.toNat : Int))).mapM Mg = some l
 | [] => rfl
 | b :: l => by
  have e : Mg (.sc (.int .u8 (b.toNat : Int))) = some b := by simp [Mg]
  simp only [zat, za4, e, Oc l, zbd, zaO, zac]
end
section
open Go
section gen
variable {ti : Nat → Option TI} {tp : Nat → Option (List Nat)}
def Hj (f : Nat → AV → Prop) : List Nat → List AV → Prop
 | [], [] => True
 | t :: ts, x :: xs => f t x ∧ Hj f ts xs
 | _, _ => False
def I0 (ti : Nat → Option TI) (tp : Nat → Option (List Nat)) : Nat → Nat → AV → Prop
 | 0, _, _ => False
 | d + 1, ty, x =>
  match x with
  | .sc _ => True
  | .ro n cells => ∃ i j, ti ty = some i ∧ ti i.elem = some j ∧ cells.length = n * j.size ∧ Hj (I0 ti tp d) (zah n j.cty).flatten cells
  | .agg cs => ∃ i, ti ty = some i ∧ Hj (I0 ti tp d) i.cty cs
  | .tup cs => ∃ ts, tp ty = some ts ∧ Hj (I0 ti tp d) ts cs
  | _ => False
theorem AaI {f : Nat → AV → Prop} : ∀ {ts : List Nat} {cs : List AV}, Hj f ts cs → ts.length = cs.length
 | [], [], _ => rfl
 | _ :: ts, _ :: cs, h => by rw [zal, zal, AaI h.2]
theorem Kz {f : Nat → AV → Prop} : ∀ {ts : List Nat} {cs : List AV} {ts' : List Nat} {cs' : List AV}, Hj f ts cs → Hj f ts' cs' → Hj f (ts ++ ts') (cs ++ cs')
 | [], [], _, _, _, h => h
 | _ :: ts, _ :: cs, _, _, h, h' => ⟨h.1, Kz h.2 h'⟩
theorem Qn {α : Type} {f : Nat → AV → Prop} {cty : List Nat} {enc : α → List AV} : ∀ (l : List α), (∀ x ∈ l, Hj f cty (enc x)) → Hj f (zah l.length cty).flatten (l.map enc).flatten
 | [], _ => by simp [Hj]
 | x :: l, h => by
  rw [zal, zbp, za3, zat, za3]
  exact Kz (h x za1) (Qn l fun y hy => h y (zay _ hy))
theorem So {f g : Nat → AV → Prop} (hfg : ∀ t x, f t x → g t x) : ∀ {ts : List Nat} {cs : List AV}, Hj f ts cs → okL g ts cs
 | [], [], _ => trivial
 | _ :: ts, _ :: cs, h => ⟨hfg _ _ h.1, So hfg h.2⟩
theorem Ss : ∀ (d : Nat) (ty : Nat) (x : AV), I0 ti tp d ty x → AaJ ti tp d ty x
 | 0, _, _, h => h
 | d + 1, ty, x, h => by
  cases x with
  | sc v => trivial
  | ro n cells =>
   obtain ⟨i, j, h1, h2, h3, h4⟩ := h
   show cells.length = n * (((ti ty).bind fun i => ti i.elem).getD default).size ∧ _
   simp only [h1, zac, h2, zaG]
   exact ⟨h3, So (Ss d) h4⟩
  | agg cs =>
   obtain ⟨i, h1, h2⟩ := h
   show okL _ ((ti ty).getD default).cty cs
   rw [h1]
   exact So (Ss d) h2
  | tup cs =>
   obtain ⟨ts, h1, h2⟩ := h
   show okL _ ((tp ty).getD []) cs
   rw [h1]
   exact So (Ss d) h2
  | _ => cases h
theorem Yt {H : Ac} {d : Nat} (hd : ∀ ty t N, I0 ti tp d ty t → Lies H N (Cy ti tp N ty t).2 → (∀ b ∈ (Cy ti tp N ty t).2, b.live = true ∧ b.app = true) → Dg ti tp H d ty (Cy ti tp N ty t).1 = some (t, List.range' N (Cy ti tp N ty t).2.length)) :
  ∀ (ts : List Nat) (cs : List AV) (N : Nat), Hj (I0 ti tp d) ts cs → Lies H N (Bt ti tp N ts cs).2 → (∀ b ∈ (Bt ti tp N ts cs).2, b.live = true ∧ b.app = true) → Em (Dg ti tp H d) ts (Bt ti tp N ts cs).1 = some (cs, List.range' N (Bt ti tp N ts cs).2.length)
 | [], [], N, _, _, _ => rfl
 | t :: ts, x :: cs, N, h, hl, hb => by
  simp only [Bt, List.headD_cons, List.tail_cons] at hl hb ⊢
  have h1 := hd t x N h.1 hl.left fun b hb' => hb b (zaF _ hb')
  have h2 := Yt hd ts cs _ h.2 hl.right fun b hb' => hb b (zaM _ hb')
  have e := List.range'_append (s := N) (m := (Cy ti tp N t x).2.length) (n := (Bt ti tp (N + (Cy ti tp N t x).2.length) ts cs).2.length) (step := 1)
  rw [Nat.one_mul] at e
  simp only [Em, h1, h2, zac, zaf, e]
mutual
theorem Ae8 : ∀ (x : AV) (N ty : Nat), ∀ b ∈ (Cy ti tp N ty x).2, b.live = true ∧ b.app = true
 | .sc v, N, ty => by intro b h; cases h
 | .ro n cells, N, ty => by
  intro b h
  simp only [Cy, zbF] at h
  rcases h with rfl | h
  ·exact ⟨rfl, rfl⟩
  ·exact I9 cells _ _ b h
 | .agg cs, N, ty => fun b h => I9 cs _ _ b h
 | .tup cs, N, ty => fun b h => I9 cs _ _ b h
 | .any, N, ty => by intro b h; cases h
 | .nl, N, ty => by intro b h; cases h
 | .sl .., N, ty => by intro b h; cases h
 | .ptr .., N, ty => by intro b h; cases h
 | .rp .., N, ty => by intro b h; cases h
 | .fn .., N, ty => by intro b h; cases h
theorem I9 : ∀ (cs : List AV) (N : Nat) (ts : List Nat), ∀ b ∈ (Bt ti tp N ts cs).2, b.live = true ∧ b.app = true
 | [], N, ts => by intro b h; cases h
 | x :: cs, N, ts => by
  intro b h
  simp only [Bt, zaV] at h
  rcases h with h | h
  ·exact Ae8 x _ _ b h
  ·exact I9 cs _ _ b h
end
theorem Ws {H : Ac} : ∀ (d ty : Nat) (t : AV) (N : Nat), I0 ti tp d ty t → Lies H N (Cy ti tp N ty t).2 → Dg ti tp H d ty (Cy ti tp N ty t).1 = some (t, List.range' N (Cy ti tp N ty t).2.length)
 | 0, _, _, _, h, _ => by cases h
 | d + 1, ty, t, N, h, hl => by
  have ih := Yt (H := H) (d := d) (ti := ti) (tp := tp) (fun ty t N h h' _ => Ws d ty t N h h')
  cases t with
  | sc v => rfl
  | ro n cells =>
   obtain ⟨i, j, h1, h2, h3, h4⟩ := h
   have e : Cy ti tp N ty (.ro n cells) = (.sl N 0 n j.size, ⟨(Bt ti tp (N + 1) (zah n j.cty).flatten cells).1, true, true⟩ :: (Bt ti tp (N + 1) (zah n j.cty).flatten cells).2) := by
    simp only [Cy, h1, zac, h2, zaG]
   rw [e] at hl ⊢
   have hb := hl 0 _ rfl
   rw [zba] at hb
   have hv := ih (zah n j.cty).flatten cells (N + 1) h4 hl.tail (I9 _ _ _)
   have hlen := Jh (ti := ti) (tp := tp) (N + 1) (zah n j.cty).flatten cells
   have e2 : Ba H N 0 (n * j.size) = some (Bt ti tp (N + 1) (zah n j.cty).flatten cells).1 := by
    simp only [Ba, hb, if_true, zaW, zav]
    rw [if_pos (by rw [hlen, h3]; exact zap _), ← h3, ← hlen, zaL]
   have e3 : Ka H N = true := by simp only [Ka, hb]
   rw [Ju]
   simp only [h1, h2, zac, if_true, e2, e3, hv, zal]
   rw [List.range'_succ]
  | agg cs =>
   obtain ⟨i, h1, h2⟩ := h
   have e : Cy ti tp N ty (.agg cs) = (.agg (Bt ti tp N i.cty cs).1, (Bt ti tp N i.cty cs).2) := by rw [Il, h1]; rfl
   rw [e] at hl ⊢
   rw [Jt]
   simp only [h1, zac, ih i.cty cs N h2 hl (I9 _ _ _)]
  | tup cs =>
   obtain ⟨ts, h1, h2⟩ := h
   have e : Cy ti tp N ty (.tup cs) = (.tup (Bt ti tp N ts cs).1, (Bt ti tp N ts cs).2) := by rw [Yc, h1]; rfl
   rw [e] at hl ⊢
   rw [K1]
   simp only [h1, zac, ih ts cs N h2 hl (I9 _ _ _)]
  | _ => cases h
theorem Acp (A B X : List J4) : Lies (A ++ B ++ X) A.length B := fun j b hj => by
 have hlt := (zad.1 hj).1
 rw [zai, zak (by omega), Nat.add_sub_cancel_left, zam hlt]
 exact hj
theorem Aac (A B : List J4) : Lies (A ++ B) A.length B := by
 have := Acp A B []
 rwa [zan] at this
theorem Zx (A : List J4) (ty : Nat) (t : AV) (h : I0 ti tp 8 ty t) : Bc ti tp ty (A ++ (Cy ti tp A.length ty t).2) (Cy ti tp A.length ty t).1 = some t := by
 rw [Bc, Ws 8 ty t A.length h (Aac _ _)]
 simp only [zac]
 rw [if_pos (List.nodup_range')]
def Vw (H : Ac) (x v : AV) : Prop := ∀ X : List J4, Dt (H ++ X) 8 x = some v
theorem Vw.grow {H : Ac} {x v : AV} (h : Vw H x v) (X : List J4) : Vw (H ++ X) x v := fun Y => by
 rw [zai]
 exact h _
theorem Vw.now {H : Ac} {x v : AV} (h : Vw H x v) : Dt H 8 x = some v := by
 have := h []
 rwa [zan] at this
theorem Aib (H : Ac) (ty : Nat) (t : AV) (h : I0 ti tp 8 ty t) : Vw (H ++ (Cy ti tp H.length ty t).2) (Cy ti tp H.length ty t).1 t := fun X => Y0 8 ty t H.length (Ss 8 ty t h) (Acp _ _ _)
theorem Gx (H : Ac) (v : Value) : Vw H (.sc v) (.sc v) := fun _ => rfl
theorem J9 (H : Ac) (n : Nat) (cs : List AV) : Vw H (.ro n cs) (.ro n cs) := fun _ => rfl
def Ja : AV → Bool
 | .sc v => O7 v
 | .ro _ _ => true
 | _ => false
theorem Ajr {cs : List AV} (h : cs.all Ja = true) : cs.all Bj = true := by
 rw [za6] at h ⊢
 intro x hx
 have := h x hx
 cases x <;> simp_all [Ja, Bj]
theorem Aa4 {cs : List AV} (h : cs.all Ja = true) : Fm (.agg cs) = some cs := by
 show (if cs.all Bj then some cs else none) = _
 rw [if_pos (Ajr h)]
theorem Zj {H : Ac} {d : Nat} : ∀ {cs : List AV}, cs.all Ja = true → cs.mapM (Dt H (d + 1)) = some cs
 | [], _ => rfl
 | x :: cs, h => by
  rw [zas, zae] at h
  have e : Dt H (d + 1) x = some x := by
   have := h.1
   cases x <;> first | rfl | (exfalso; simp [Ja] at this)
  simp only [za4, e, Zj h.2, zbd, zaO, zac]
theorem M9 (H : Ac) {cs : List AV} (h : cs.all Ja = true) : Vw H (.agg cs) (.agg cs) := fun X => by
 rw [Qx, Zj h]
 rfl
theorem Mm : ∀ (cs : List AV) (N : Nat) (ts : List Nat), cs.all Ja = true → (Bt ti tp N ts cs).1.all Bj = true
 | [], _, _, _ => rfl
 | x :: cs, N, ts, h => by
  rw [zas, zae] at h
  simp only [Bt, zas, zae]
  refine ⟨?_, Mm cs _ _ h.2⟩
  have := h.1
  cases x <;> first | exact this | rfl | (exfalso; simp [Ja] at this)
theorem Ot : ∀ (ts : List Nat) (cs : List AV) (ts' : List Nat) (cs' : List AV) (N : Nat), ts.length = cs.length →
  Bt ti tp N (ts ++ ts') (cs ++ cs') = ((Bt ti tp N ts cs).1 ++ (Bt ti tp (N + (Bt ti tp N ts cs).2.length) ts' cs').1, (Bt ti tp N ts cs).2 ++ (Bt ti tp (N + (Bt ti tp N ts cs).2.length) ts' cs').2)
 | [], [], ts', cs', N, _ => by simp [Bt]
 | t :: ts, x :: cs, ts', cs', N, h => by
  have ih := Ot ts cs ts' cs' (N + (Cy ti tp N t x).2.length) (by simpa using h)
  simp only [zau, Bt, List.headD_cons, List.tail_cons, ih, zaf, zai, zaN]
end gen
section ops
variable {β : Type}
theorem Oo (w len : Nat) (cells : List AV) (i : Nat) (k : AV → Option β) (h : i < len) (h2 : i * w < cells.length) : Es w (.ro len cells) (.sc (.int .i64 i)) k = k (.rp (cells.drop (i * w))) := by
 simp only [Es, asI, zac, zbo]
 rw [if_pos ⟨by omega, by omega⟩, if_pos h2]
theorem Zo (w len id off : Nat) (i : Nat) (k : AV → Option β) (h : i < len) : Es w (.sl id off len w) (.sc (.int .i64 i)) k = k (.ptr id (off + i * w)) := by
 simp only [Es, asI, zac, zbo, if_true]
 rw [if_pos ⟨by omega, by omega⟩]
theorem Wd (w : Nat) (cs r : List AV) (H : Ac) (k : AV → Option β) (h : cs.length = w) : Cu true w (.rp (cs ++ r)) H k = k (.agg cs) := by
 simp only [Cu, zaf, h, Nat.le_add_right, if_true, List.take_left' h]
theorem Pz (c : AV) (r : List AV) (H : Ac) (k : AV → Option β) : Cu false 1 (.rp (c :: r)) H k = k c := by
 simp only [Cu, zal, Nat.le_add_left, if_true, zaa, if_false]
 rfl
theorem Yx (w id off : Nat) (y : AV) (b : J4) (cs : List AV) (H : Ac) (k : Ac → Option β) (h : H[id]? = some b) (hc : Fm y = some cs) (hl : cs.length = w) (ho : off + w ≤ b.cells.length) (hb : b.live = true) : Fp w (.ptr id off) y H k = k (H.set id { b with cells := Gg b.cells off cs }) := by
 simp only [Fp, h, hc, zac, hb, if_true, hl, ho]
theorem Rs (A z C cs : List AV) (h : z.length = cs.length) : Gg (A ++ (z ++ C)) A.length cs = A ++ (cs ++ C) := by
 unfold Gg
 rw [List.take_left' rfl, ← zai A z C, zaQ (by rw [zaf]; omega), ← h, ← zaf, zb5, zag, zai]
theorem G3 (a b : Nat) (k : AV → Option β) : C7 .lss (.sc (.int .i64 a)) (.sc (.int .i64 b)) k = k (.sc (.bool (decide (a < b)))) := by
 show k (.sc (.bool (decide ((a : Int) < (b : Int))))) = _
 rw [show decide ((a : Int) < (b : Int)) = decide (a < b) from by simp]
theorem Hd (a : Nat) (k : AV → Option β) (h : a < 9223372036854775807) : C7 .add (.sc (.int .i64 a)) (.sc (.int .i64 1)) k = k (.sc (.int .i64 (a + 1 : Nat))) := by
 show k (.sc (.int .i64 (IntKind.i64.wrap ((a : Int) + 1)))) = _
 have e : IntKind.i64.wrap ((a : Int) + 1) = ((a + 1 : Nat) : Int) := by
  rw [IntKind.wrap_i64, Int.natCast_add]
  simp only [Int.cast_ofNat_Int]
  omega
 rw [e]
theorem Dn (b : Bool) (x y : Option β) : Eo (.sc (.bool b)) x y = if b then x else y := rfl
theorem E8 (n : Nat) (cs : List AV) (k : AV → Option β) : Jb (.ro n cs) k = k (.sc (.int .i64 n)) := rfl
theorem J2 (n : Int) (h0 : -9223372036854775808 ≤ n) (h1 : n ≤ 9223372036854775807) : IntKind.i64.wrap n = n := by
 rw [IntKind.wrap_i64]; omega
theorem Pb (a b : Int) (k : AV → Option β) (h0 : -9223372036854775808 ≤ a - b) (h1 : a - b ≤ 9223372036854775807) : C7 .sub (.sc (.int .i64 a)) (.sc (.int .i64 b)) k = k (.sc (.int .i64 (a - b))) := by
 show k (.sc (.int .i64 (IntKind.i64.wrap (a - b)))) = _
 rw [J2 _ h0 h1]
theorem Nx (a b : Int) (k : AV → Option β) : C7 .lss (.sc (.int .i64 a)) (.sc (.int .i64 b)) k = k (.sc (.bool (decide (a < b)))) := rfl
theorem Ads {α : Type} {w : Nat} {enc : α → List AV} (hw : ∀ x, (enc x).length = w) (pre r : List α) : ((pre ++ r).map enc).flatten.drop (pre.length * w) = (r.map enc).flatten := by
 have hl : ((pre.map enc).flatten).length = pre.length * w := by
  induction pre with
  | nil => simp
  | cons x pre ih => rw [zat, za3, zaf, ih, hw, zal, zbJ, zbE]
 rw [za2, zbr, zaQ (by omega), ← hl, zb5, zag]
theorem Qa {α : Type} {w : Nat} {enc : α → List AV} (hw : ∀ x, (enc x).length = w) (l : List α) : ((l.map enc).flatten).length = l.length * w := by
 induction l with
 | nil => simp
 | cons x l ih => rw [zat, za3, zaf, ih, hw, zal, zbJ, zbE]
theorem X1 {α : Type} {w : Nat} {enc : α → List AV} (hw : ∀ x, (enc x).length = w) (h0 : 0 < w) (pre : List α) (x : α) (r : List α) (k : AV → Option β) :
  Es w (.ro (pre ++ x :: r).length ((pre ++ x :: r).map enc).flatten) (.sc (.int .i64 pre.length)) k = k (.rp (enc x ++ (r.map enc).flatten)) := by
 have hl := Qa hw (pre ++ x :: r)
 have h1 : pre.length < (pre ++ x :: r).length := by simp
 rw [Oo w _ _ pre.length k h1 (by rw [hl]; exact Nat.mul_lt_mul_of_pos_right h1 h0), Ads hw pre (x :: r), zat, za3]
theorem Add {α : Type} {n te g w : Nat} {cty : List Nat} (enc : α → List AV) (k : KO β) (z : List AV) (hz : z.length = w) (hw : ∀ x, (enc x).length = w) (hc : cty.length = w) (h0 : 0 < w)
  (hte : ∃ i, As te = some i ∧ i.cty = cty) (hfl : ∀ x, (enc x).all Ja = true) (hh : E9 g = false) (L : Nat → AV → AV → KO β)
  (hL : ∀ m a o i H, L (m + 1) a o i H = Jb a fun t10 => C7 .lss i t10 fun t11 => Eo t11 (Es w a i fun t18 => Cu true w t18 H fun t19 => (PR n β).call te (.fn g [] []) [t19] H fun t20 H => Es w o i fun t21 => Fp w t21 t20 H fun H => C7 .add i (.sc (.int .i64 1)) fun t13 => L m a o t13 H) (k o H))
  (l : List α) (hto : ∀ x ∈ l, Bz E0 n te g [.agg (enc x)] = some (.agg (enc x))) (hlen : l.length ≤ 1048576) : ∀ (r pre : List α) (m : Nat), l = pre ++ r → r.length < m →
   L m (.ro l.length (l.map enc).flatten) (.sl 0 0 l.length w) (.sc (.int .i64 pre.length)) (⟨(Bt As E0.tp 1 (zah pre.length cty).flatten (pre.map enc).flatten).1 ++ (zah r.length z).flatten, true, true⟩ :: (Bt As E0.tp 1 (zah pre.length cty).flatten (pre.map enc).flatten).2)
    = k (.sl 0 0 l.length w) (⟨(Bt As E0.tp 1 (zah l.length cty).flatten (l.map enc).flatten).1, true, true⟩ :: (Bt As E0.tp 1 (zah l.length cty).flatten (l.map enc).flatten).2)
 | [], pre, m + 1, hl, hm => by
  rw [zan] at hl
  subst hl
  rw [hL, E8, G3, Dn]
  simp
 | x :: r, pre, m + 1, hl, hm => by
  have hlt : pre.length < l.length := by rw [hl]; simp
  rw [hL, E8, G3, Dn, if_pos (by simpa using hlt)]
  have hel := fun k => X1 (β := β) hw h0 pre x r k
  rw [← hl] at hel
  rw [hel, Wd w _ _ _ _ (hw x)]
  rw [Hn (vs := [.agg (enc x)]) hh (by rw [za4, (M9 _ (hfl x)).now]; rfl) (hto x (by rw [hl]; simp))]
  rw [Zo w _ _ _ _ _ hlt]
  obtain ⟨i, hi, rfl⟩ := hte
  have hr : (zah pre.length i.cty).flatten.length = ((pre.map enc).flatten).length := by rw [Qa hw]; simp [hc]
  have hJ := Ot (ti := As) (tp := E0.tp) (zah pre.length i.cty).flatten (pre.map enc).flatten i.cty (enc x) 1 hr
  generalize hP : Bt As E0.tp 1 (zah pre.length i.cty).flatten (pre.map enc).flatten = P at hJ ⊢
  have hPl : P.1.length = pre.length * w := by rw [← hP, Jh, Qa hw]
  have hN : (⟨P.1 ++ (zah (x :: r).length z).flatten, true, true⟩ :: P.2 : Ac).length = 1 + P.2.length := by simp [zbE]
  rw [hN, Il, hi, zaG]
  simp only
  generalize hQ : Bt As E0.tp (1 + P.2.length) i.cty (enc x) = Q at hJ ⊢
  have hQl : Q.1.length = w := by rw [← hQ, Jh, hw]
  have hcl : Fm (.agg Q.1) = some Q.1 := by
   show (if Q.1.all Bj then some Q.1 else none) = _
   rw [if_pos (by rw [← hQ]; exact Mm _ _ _ (hfl x))]
  rw [zau, Yx w 0 (0 + pre.length * w) (.agg Q.1) ⟨P.1 ++ (zah (x :: r).length z).flatten, true, true⟩ Q.1 _ _ rfl hcl hQl (by simp [hPl, hz, zbJ]) rfl]
  rw [List.set_cons_zero, Hd _ _ (by omega)]
  have ih := Add enc k z hz hw hc h0 ⟨i, hi, rfl⟩ hfl hh L hL l hto hlen r (pre ++ [x]) m (by rw [hl]; simp) (by simpa using hm)
  have e1 : (zah (pre ++ [x]).length i.cty).flatten = (zah pre.length i.cty).flatten ++ i.cty := by
   rw [zaf, zaq, List.replicate_succ', zbr]; simp
  have e2 : ((pre ++ [x]).map enc).flatten = (pre.map enc).flatten ++ enc x := by simp
  rw [e1, e2, hJ] at ih
  have e3 : Gg (P.1 ++ (zah (x :: r).length z).flatten) (0 + pre.length * w) Q.1 = P.1 ++ Q.1 ++ (zah r.length z).flatten := by
   rw [zal, zbp, za3, zav, ← hPl, Rs _ _ _ _ (by rw [hz, hQl]), zai]
  simp only [e3]
  rw [zaf, zaq] at ih
  exact ih
theorem Abe {α : Type} {n te tyS f g w bytes : Nat} {cty : List Nat} (enc : α → List AV) (z : List AV) (hz : z.length = w) (hw : ∀ x, (enc x).length = w) (hc : cty.length = w) (h0 : 0 < w)
  (hty : ∃ i j, As tyS = some i ∧ As i.elem = some j ∧ j.size = w ∧ j.cty = cty) (hte : ∃ i, As te = some i ∧ i.cty = cty) (hfl : ∀ x, (enc x).all Ja = true) (hh : E9 g = false) (L : (AV → Ac → Option AV) → Nat → AV → AV → AV → Ac → Option AV)
  (hL : ∀ k m a o i H, L k (m + 1) a o i H = Jb a fun t10 => C7 .lss i t10 fun t11 => Eo t11 (Es w a i fun t18 => Cu true w t18 H fun t19 => (PR n AV).call te (.fn g [] []) [t19] H fun t20 H => Es w o i fun t21 => Fp w t21 t20 H fun H => C7 .add i (.sc (.int .i64 1)) fun t13 => L k m a o t13 H) (k o H))
  (hF : ∀ a H k, E7 E0 (n + 1) AV f [a] H k = Jb a fun t6 => Sx w bytes z t6 t6 H fun t7 H => L k n a t7 (.sc (.int .i64 0)) H)
  (hby : bytes ≤ 134217728) (l : List α) (hto : ∀ x ∈ l, Bz E0 n te g [.agg (enc x)] = some (.agg (enc x))) (hok : ∀ x ∈ l, Hj (I0 As E0.tp 7) cty (enc x)) (hlen : l.length ≤ 1048576) (hn : 1048576 < n) :
  Bz E0 (n + 1) tyS f [.ro l.length (l.map enc).flatten] = some (.ro l.length (l.map enc).flatten) := by
 rw [At, hF, E8]
 have hb : l.length * bytes ≤ 140737488355328 := za9 (Nat.mul_le_mul hlen hby) (by decide)
 simp only [Sx, asI, zac, if_true, zbo, hb, Int.natCast_nonneg, H4, zao, zag]
 have key := Add (n := n) (te := te) (g := g) (cty := cty) enc (fun x H => Bc As E0.tp tyS H x) z hz hw hc h0 hte hfl hh _ (hL _) l hto hlen l [] n (by simp) (by omega)
 simp only [zao, List.replicate_zero, zbw, zaB, Bt, zag, zaI] at key
 refine key.trans ?_
 obtain ⟨i, j, h1, h2, h3, rfl⟩ := hty
 have hok' : I0 As E0.tp 8 tyS (.ro l.length (l.map enc).flatten) := ⟨i, j, h1, h2, by rw [Qa hw, h3], Qn l hok⟩
 have := Zx [] tyS _ hok'
 simp only [Cy, h1, h2, zac, zaG, zao, zag, zav, h3] at this
 exact this
theorem X9 {α : Type} {n : Nat} (e : α → Value) (k : KO β) (z : AV) (hlf : ∀ x, O7 (e x) = true) (L : Nat → AV → AV → KO β)
  (hL : ∀ m a o i H, L (m + 1) a o i H = Jb a fun t10 => C7 .lss i t10 fun t11 => Eo t11 (Es 1 a i fun t18 => Cu false 1 t18 H fun t19 => Es 1 o i fun t21 => Fp 1 t21 t19 H fun H => C7 .add i (.sc (.int .i64 1)) fun t13 => L m a o t13 H) (k o H))
  (l : List α) (hlen : l.length ≤ 1048576) : ∀ (r pre : List α) (m : Nat), l = pre ++ r → r.length < m →
   L m (.ro l.length (l.map fun x => .sc (e x))) (.sl 0 0 l.length 1) (.sc (.int .i64 pre.length)) [⟨(pre.map fun x => .sc (e x)) ++ zah r.length z, true, true⟩]
    = k (.sl 0 0 l.length 1) [⟨l.map fun x => .sc (e x), true, true⟩]
 | [], pre, m + 1, hl, hm => by
  rw [zan] at hl
  subst hl
  rw [hL, E8, G3, Dn]
  simp
 | x :: r, pre, m + 1, hl, hm => by
  have hlt : pre.length < l.length := by rw [hl]; simp
  rw [hL, E8, G3, Dn, if_pos (by simpa using hlt)]
  rw [Oo 1 _ _ pre.length _ hlt (by simpa using hlt)]
  have hd : (l.map fun x => AV.sc (e x)).drop (pre.length * 1) = .sc (e x) :: r.map fun x => .sc (e x) := by
   rw [zbs, hl, za2, zaQ (by simp)]
   rw [show pre.length = (pre.map fun x => AV.sc (e x)).length by simp, zb5]
   rfl
  rw [hd, Pz, Zo 1 _ _ _ _ _ hlt]
  have hc : Fm (.sc (e x)) = some [.sc (e x)] := by
   show Fm (.sc (e x)) = _
   simp only [Fm, Bj, hlf, if_true]
  rw [Yx 1 0 (0 + pre.length * 1) (.sc (e x)) ⟨(pre.map fun x => .sc (e x)) ++ zah (x :: r).length z, true, true⟩ [.sc (e x)] _ _ rfl hc rfl (by simp) rfl]
  rw [List.set_cons_zero, Hd _ _ (by omega)]
  have ih := X9 (n := n) e k z hlf L hL l hlen r (pre ++ [x]) m (by rw [hl]; simp) (by simpa using hm)
  have e3 : Gg ((pre.map fun x => AV.sc (e x)) ++ zah (x :: r).length z) (0 + pre.length * 1) [.sc (e x)] = ((pre ++ [x]).map fun x => AV.sc (e x)) ++ zah r.length z := by
   have := Rs (pre.map fun x => AV.sc (e x)) [z] (zah r.length z) [.sc (e x)] rfl
   rw [List.length_map] at this
   rw [zal, zbp, zav, zbs]
   refine this.trans ?_
   simp
  simp only [e3]
  rw [zaf, zaq] at ih
  exact ih
theorem Z7 {α : Type} {n tyS f bytes : Nat} (e : α → Value) (z : AV) (hlf : ∀ x, O7 (e x) = true) (hty : ∃ i j, As tyS = some i ∧ As i.elem = some j ∧ j.size = 1 ∧ j.cty.length = 1) (L : (AV → Ac → Option AV) → Nat → AV → AV → AV → Ac → Option AV)
  (hL : ∀ k m a o i H, L k (m + 1) a o i H = Jb a fun t10 => C7 .lss i t10 fun t11 => Eo t11 (Es 1 a i fun t18 => Cu false 1 t18 H fun t19 => Es 1 o i fun t21 => Fp 1 t21 t19 H fun H => C7 .add i (.sc (.int .i64 1)) fun t13 => L k m a o t13 H) (k o H))
  (hF : ∀ a H k, E7 E0 (n + 1) AV f [a] H k = Jb a fun t6 => Sx 1 bytes [z] t6 t6 H fun t7 H => L k n a t7 (.sc (.int .i64 0)) H)
  (hby : bytes ≤ 134217728) (l : List α) (hlen : l.length ≤ 1048576) (hn : 1048576 < n) :
  Bz E0 (n + 1) tyS f [.ro l.length (l.map fun x => .sc (e x))] = some (.ro l.length (l.map fun x => .sc (e x))) := by
 rw [At, hF, E8]
 have hb : l.length * bytes ≤ 140737488355328 := za9 (Nat.mul_le_mul hlen hby) (by decide)
 have hz : (zah l.length [z]).flatten = zah l.length z := by
  generalize l.length = m
  induction m with
  | zero => rfl
  | succ m ih => rw [zbp, za3, ih, zbp]; rfl
 simp only [Sx, asI, zac, if_true, zbo, hb, Int.natCast_nonneg, H4, zao, zag, hz]
 have key := X9 (n := n) e (fun x H => Bc As E0.tp tyS H x) z hlf _ (hL _) l hlen l [] n (by simp) (by omega)
 simp only [zao, zaB, zag, zaI] at key
 refine key.trans ?_
 obtain ⟨i, j, h1, h2, h3, h4⟩ := hty
 have em : (l.map fun x => AV.sc (e x)) = (l.map e).map AV.sc := by rw [zbK]; rfl
 have hl1 : (zah l.length j.cty).flatten.length = (l.map e).length := by simp [h4]
 have e3 := AcV (ti := As) (tp := E0.tp) (H := [⟨l.map fun x => AV.sc (e x), true, true⟩]) (d := 6) _ _ hl1
 have e2 : Ba [⟨l.map fun x => AV.sc (e x), true, true⟩] 0 0 (l.length * 1) = some (l.map fun x => AV.sc (e x)) := by
  simp [Ba, zaY]
 rw [Bc, Ju]
 simp only [h1, h2, h3, zac, if_true, e2, Ka, zbl]
 rw [em] at e3 ⊢
 rw [e3]
 rfl
theorem Acy {α : Type} {n tb g w : Nat} (enc : α → List AV) (k : KO β) (hw : ∀ x, (enc x).length = w) (h0 : 0 < w) (hfl : ∀ x, (enc x).all Ja = true) (hh : E9 g = false) (L : Nat → AV → AV → KO β)
  (hL : ∀ m a b i H, L (m + 1) a b i H = Jb a fun t13 => C7 .lss i t13 fun t14 => Eo t14 (Es w a i fun t19 => Cu true w t19 H fun t20 => Es w b i fun t23 => Cu true w t23 H fun t24 => (PR n β).call tb (.fn g [] []) [t20, t24] H fun t25 H => pUn .not t25 fun t26 => Eo t26 (k (.sc (.bool false)) H) (C7 .add i (.sc (.int .i64 1)) fun t16 => L m a b t16 H)) (k (.sc (.bool true)) H))
  (l : List α) (heq : ∀ x ∈ l, Bz E0 n tb g [.agg (enc x), .agg (enc x)] = some (.sc (.bool true))) (hlen : l.length ≤ 1048576) (H : Ac) : ∀ (r pre : List α) (m : Nat), l = pre ++ r → r.length < m →
   L m (.ro l.length (l.map enc).flatten) (.ro l.length (l.map enc).flatten) (.sc (.int .i64 pre.length)) H = k (.sc (.bool true)) H
 | [], pre, m + 1, hl, hm => by
  rw [zan] at hl
  subst hl
  rw [hL, E8, G3, Dn]
  simp
 | x :: r, pre, m + 1, hl, hm => by
  have hlt : pre.length < l.length := by rw [hl]; simp
  rw [hL, E8, G3, Dn, if_pos (by simpa using hlt)]
  have hel := fun k => X1 (β := β) hw h0 pre x r k
  rw [← hl] at hel
  rw [hel, Wd w _ _ _ _ (hw x), hel, Wd w _ _ _ _ (hw x)]
  rw [Hn (vs := [.agg (enc x), .agg (enc x)]) hh (by simp only [za4, (M9 _ (hfl x)).now]; rfl) (heq x (by rw [hl]; simp))]
  rw [G2]
  simp only [pUn, zax, zan]
  rw [Dn, if_neg (by simp), Hd _ _ (by omega)]
  have ih := Acy enc k hw h0 hfl hh L hL l heq hlen H r (pre ++ [x]) m (by rw [hl]; simp) (by simpa using hm)
  rw [zaf, zaq] at ih
  exact ih
theorem Sn (a b : Nat) (k : AV → Option β) : C7 .neq (.sc (.int .i64 a)) (.sc (.int .i64 b)) k = k (.sc (.bool (decide (a ≠ b)))) := by
 show k (.sc (.bool ((a : Int) != (b : Int)))) = _
 congr 3
 by_cases h : a = b
 ·subst h; simp
 ·simp [bne, h]; omega
theorem Aax {α : Type} {n tb f g w : Nat} (enc : α → List AV) (hw : ∀ x, (enc x).length = w) (h0 : 0 < w) (hfl : ∀ x, (enc x).all Ja = true) (hh : E9 g = false) (L : (AV → Ac → Option AV) → Nat → AV → AV → AV → Ac → Option AV)
  (hL : ∀ k m a b i H, L k (m + 1) a b i H = Jb a fun t13 => C7 .lss i t13 fun t14 => Eo t14 (Es w a i fun t19 => Cu true w t19 H fun t20 => Es w b i fun t23 => Cu true w t23 H fun t24 => (PR n AV).call tb (.fn g [] []) [t20, t24] H fun t25 H => pUn .not t25 fun t26 => Eo t26 (k (.sc (.bool false)) H) (C7 .add i (.sc (.int .i64 1)) fun t16 => L k m a b t16 H)) (k (.sc (.bool true)) H))
  (hF : ∀ a b H k, E7 E0 (n + 1) AV f [a, b] H k = Jb a fun t7 => Jb b fun t9 => C7 .neq t7 t9 fun t10 => Eo t10 (k (.sc (.bool false)) H) (L k n a b (.sc (.int .i64 0)) H))
  (l : List α) (heq : ∀ x ∈ l, Bz E0 n tb g [.agg (enc x), .agg (enc x)] = some (.sc (.bool true))) (hlen : l.length ≤ 1048576) (hn : 1048576 < n) (tb' : Nat) :
  Bz E0 (n + 1) tb' f [.ro l.length (l.map enc).flatten, .ro l.length (l.map enc).flatten] = some (.sc (.bool true)) := by
 rw [At, hF, E8, E8, Sn, Dn, if_neg (by simp)]
 have key := Acy (n := n) (tb := tb) (g := g) enc (fun x H => Bc As E0.tp tb' H x) hw h0 hfl hh (L fun x H => Bc As E0.tp tb' H x) (hL fun x H => Bc As E0.tp tb' H x) l heq hlen [] l [] n (by simp) (by omega)
 simp only [zao, zaI] at key
 rw [key]
 rfl
theorem Aay {α : Type} {n : Nat} (e : α → Value) (k : KO β) (hne : ∀ (x : α) (γ : Type) (k : AV → Option γ), C7 .neq (.sc (e x)) (.sc (e x)) k = k (.sc (.bool false))) (L : Nat → AV → AV → KO β)
  (hL : ∀ m a b i H, L (m + 1) a b i H = Jb a fun t13 => C7 .lss i t13 fun t14 => Eo t14 (Es 1 a i fun t19 => Cu false 1 t19 H fun t20 => Es 1 b i fun t23 => Cu false 1 t23 H fun t24 => C7 .neq t20 t24 fun t25 => Eo t25 (k (.sc (.bool false)) H) (C7 .add i (.sc (.int .i64 1)) fun t16 => L m a b t16 H)) (k (.sc (.bool true)) H))
  (l : List α) (hlen : l.length ≤ 1048576) (H : Ac) : ∀ (r pre : List α) (m : Nat), l = pre ++ r → r.length < m →
   L m (.ro l.length (l.map fun x => .sc (e x))) (.ro l.length (l.map fun x => .sc (e x))) (.sc (.int .i64 pre.length)) H = k (.sc (.bool true)) H
 | [], pre, m + 1, hl, hm => by
  rw [zan] at hl
  subst hl
  rw [hL, E8, G3, Dn]
  simp
 | x :: r, pre, m + 1, hl, hm => by
  have hlt : pre.length < l.length := by rw [hl]; simp
  rw [hL, E8, G3, Dn, if_pos (by simpa using hlt)]
  have hd : (l.map fun x => AV.sc (e x)).drop (pre.length * 1) = .sc (e x) :: r.map fun x => .sc (e x) := by
   rw [zbs, hl, za2, zaQ (by simp)]
   rw [show pre.length = (pre.map fun x => AV.sc (e x)).length by simp, zb5]
   rfl
  rw [Oo 1 _ _ pre.length _ hlt (by simpa using hlt), hd, Pz, Oo 1 _ _ pre.length _ hlt (by simpa using hlt), hd, Pz, hne, Dn, if_neg (by simp), Hd _ _ (by omega)]
  have ih := Aay (n := n) e k hne L hL l hlen H r (pre ++ [x]) m (by rw [hl]; simp) (by simpa using hm)
  rw [zaf, zaq] at ih
  exact ih
theorem Zc {α : Type} {n f : Nat} (e : α → Value) (hne : ∀ (x : α) (γ : Type) (k : AV → Option γ), C7 .neq (.sc (e x)) (.sc (e x)) k = k (.sc (.bool false))) (L : (AV → Ac → Option AV) → Nat → AV → AV → AV → Ac → Option AV)
  (hL : ∀ k m a b i H, L k (m + 1) a b i H = Jb a fun t13 => C7 .lss i t13 fun t14 => Eo t14 (Es 1 a i fun t19 => Cu false 1 t19 H fun t20 => Es 1 b i fun t23 => Cu false 1 t23 H fun t24 => C7 .neq t20 t24 fun t25 => Eo t25 (k (.sc (.bool false)) H) (C7 .add i (.sc (.int .i64 1)) fun t16 => L k m a b t16 H)) (k (.sc (.bool true)) H))
  (hF : ∀ a b H k, E7 E0 (n + 1) AV f [a, b] H k = Jb a fun t7 => Jb b fun t9 => C7 .neq t7 t9 fun t10 => Eo t10 (k (.sc (.bool false)) H) (L k n a b (.sc (.int .i64 0)) H))
  (l : List α) (hlen : l.length ≤ 1048576) (hn : 1048576 < n) (tb' : Nat) :
  Bz E0 (n + 1) tb' f [.ro l.length (l.map fun x => .sc (e x)), .ro l.length (l.map fun x => .sc (e x))] = some (.sc (.bool true)) := by
 rw [At, hF, E8, E8, Sn, Dn, if_neg (by simp)]
 have key := Aay (n := n) e (fun x H => Bc As E0.tp tb' H x) hne (L fun x H => Bc As E0.tp tb' H x) (hL fun x H => Bc As E0.tp tb' H x) l hlen [] l [] n (by simp) (by omega)
 simp only [zao, zaI] at key
 rw [key]
 rfl
def Jd (w : Nat) (left : Int) : Int := if left < w then -1 else left - w
def Y3 {α : Type} (wt : α → Nat) : List α → Nat
 | [] => 0
 | x :: l => 1 + wt x + Y3 wt l
def Ut {α : Type} (wt : α → Nat) : List α → Nat
 | [] => 0
 | x :: l => wt x + Ut wt l
theorem J3 {α : Type} (wt : α → Nat) : ∀ l : List α, Y3 wt l = l.length + Ut wt l
 | [] => rfl
 | x :: l => by rw [Y3, Ut, J3 wt l, zal]; omega
theorem M8 {α : Type} {wt : α → Nat} : ∀ {l : List α} {x : α}, x ∈ l → wt x ≤ Ut wt l
 | y :: l, x, h => by
  rw [Ut]
  rcases zbF.1 h with rfl | h
  ·omega
  ·have := M8 (wt := wt) h
   omega
theorem Adc {α : Type} {n ty g w : Nat} (enc : α → List AV) (wt : α → Nat) (k : KO β) (hw : ∀ x, (enc x).length = w) (h0 : 0 < w) (hfl : ∀ x, (enc x).all Ja = true) (hh : E9 g = false) (L : Nat → AV → AV → KO β)
  (hL : ∀ m a l i H, L (m + 1) a l i H = Jb a fun t14 => C7 .lss i t14 fun t15 => Eo t15 (Es w a i fun t20 => Cu true w t20 H fun t21 => (PR n β).call ty (.fn g [] []) [t21, l] H fun t23 H => C7 .lss t23 (.sc (.int .i64 0)) fun t25 => Eo t25 (k (.sc (.int .i64 (-1))) H) (C7 .add i (.sc (.int .i64 1)) fun t17 => L m a t23 t17 H)) (k l H))
  (l : List α) (hsz : ∀ x ∈ l, ∀ left : Int, 0 ≤ left → left ≤ 1048576 → Bz E0 n ty g [.agg (enc x), .sc (.int .i64 left)] = some (.sc (.int .i64 (Jd (wt x) left)))) (hlen : l.length ≤ 1048576) (H : Ac) : ∀ (r pre : List α) (m : Nat) (left : Int), 0 ≤ left → left ≤ 1048576 → l = pre ++ r → r.length < m →
   L m (.ro l.length (l.map enc).flatten) (.sc (.int .i64 left)) (.sc (.int .i64 pre.length)) H = k (.sc (.int .i64 (Jd (Ut wt r) left))) H
 | [], pre, m + 1, left, hl0, hl1, hl, hm => by
  rw [zan] at hl
  subst hl
  rw [hL, E8, G3, Dn]
  have : Jd (Ut wt []) left = left := by simp [Jd, Ut]; omega
  rw [this]
  simp
 | x :: r, pre, m + 1, left, hl0, hl1, hl, hm => by
  have hlt : pre.length < l.length := by rw [hl]; simp
  rw [hL, E8, G3, Dn, if_pos (by simpa using hlt)]
  have hel := fun k => X1 (β := β) hw h0 pre x r k
  rw [← hl] at hel
  rw [hel, Wd w _ _ _ _ (hw x)]
  rw [Hn (vs := [.agg (enc x), .sc (.int .i64 left)]) hh (by simp only [za4, (M9 _ (hfl x)).now]; rfl) (hsz x (by rw [hl]; simp) left hl0 hl1)]
  rw [G2]
  simp only [zan]
  rw [Nx, Dn]
  by_cases hs : left < wt x
  ·have e1 : Jd (wt x) left = -1 := by simp [Jd, hs]
   have e2 : Jd (Ut wt (x :: r)) left = -1 := by
    rw [Ut, Jd, if_pos]; omega
   rw [e1, e2]
   simp
  ·have e1 : Jd (wt x) left = left - wt x := by simp [Jd, hs]
   have e2 : Jd (Ut wt (x :: r)) left = Jd (Ut wt r) (left - wt x) := by
    unfold Jd
    rw [Ut]
    by_cases h : left < ((wt x + Ut wt r : Nat) : Int)
    ·rw [if_pos h, if_pos (by omega)]
    ·rw [if_neg h, if_neg (by omega)]; omega
   rw [e1, e2, if_neg (by simp; omega), Hd _ _ (by omega)]
   have ih := Adc enc wt k hw h0 hfl hh L hL l hsz hlen H r (pre ++ [x]) m (left - wt x) (by omega) (by omega) (by rw [hl]; simp) (by simpa using hm)
   rw [zaf, zaq] at ih
   exact ih
theorem AaZ {α : Type} {n ty f g w : Nat} (enc : α → List AV) (wt : α → Nat) (hw : ∀ x, (enc x).length = w) (h0 : 0 < w) (hfl : ∀ x, (enc x).all Ja = true) (hh : E9 g = false) (L : (AV → Ac → Option AV) → Nat → AV → AV → AV → Ac → Option AV)
  (hL : ∀ k m a l i H, L k (m + 1) a l i H = Jb a fun t14 => C7 .lss i t14 fun t15 => Eo t15 (Es w a i fun t20 => Cu true w t20 H fun t21 => (PR n AV).call ty (.fn g [] []) [t21, l] H fun t23 H => C7 .lss t23 (.sc (.int .i64 0)) fun t25 => Eo t25 (k (.sc (.int .i64 (-1))) H) (C7 .add i (.sc (.int .i64 1)) fun t17 => L k m a t23 t17 H)) (k l H))
  (hF : ∀ a b H k, E7 E0 (n + 1) AV f [a, b] H k = Jb a fun t8 => C7 .sub b t8 fun t9 => C7 .lss t9 (.sc (.int .i64 0)) fun t11 => Eo t11 (k (.sc (.int .i64 (-1))) H) (L k n a t9 (.sc (.int .i64 0)) H))
  (l : List α) (hsz : ∀ x ∈ l, ∀ left : Int, 0 ≤ left → left ≤ 1048576 → Bz E0 n ty g [.agg (enc x), .sc (.int .i64 left)] = some (.sc (.int .i64 (Jd (wt x) left)))) (hmax : l.length ≤ 9223372036854775807) (hn : 1048576 < n) (left : Int) (hl0 : 0 ≤ left) (hl1 : left ≤ 1048576) (ty' : Nat) :
  Bz E0 (n + 1) ty' f [.ro l.length (l.map enc).flatten, .sc (.int .i64 left)] = some (.sc (.int .i64 (Jd (Y3 wt l) left))) := by
 rw [At, hF, E8, Pb _ _ _ (by omega) (by omega), Nx, Dn]
 by_cases h : left - (l.length : Int) < 0
 ·have e : Jd (Y3 wt l) left = -1 := by rw [J3, Jd, if_pos]; omega
  rw [if_pos (by simpa using h), e]
  rfl
 ·have e : Jd (Y3 wt l) left = Jd (Ut wt l) (left - l.length) := by
   rw [J3]
   unfold Jd
   by_cases h : left < ((l.length + Ut wt l : Nat) : Int)
   ·rw [if_pos h, if_pos (by omega)]
   ·rw [if_neg h, if_neg (by omega)]; omega
  rw [if_neg (by simpa using h), e]
  have key := Adc (n := n) (ty := ty) (g := g) enc wt (fun x H => Bc As E0.tp ty' H x) hw h0 hfl hh (L fun x H => Bc As E0.tp ty' H x) (hL fun x H => Bc As E0.tp ty' H x) l hsz (by omega) [] l [] n (left - l.length) (by omega) (by omega) (by simp) (by omega)
  simp only [zao, zaI] at key
  rw [key]
  rfl
theorem AhE {n f : Nat} (hF : ∀ a b H k, E7 E0 (n + 1) AV f [a, b] H k = Jb a fun t8 => C7 .sub b t8 fun t9 => C7 .lss t9 (.sc (.int .i64 0)) fun t11 => Eo t11 (k (.sc (.int .i64 (-1))) H) (k t9 H))
  (len : Nat) (cells : List AV) (hmax : len ≤ 9223372036854775807) (left : Int) (hl0 : 0 ≤ left) (hl1 : left ≤ 1048576) (ty' : Nat) :
  Bz E0 (n + 1) ty' f [.ro len cells, .sc (.int .i64 left)] = some (.sc (.int .i64 (Jd len left))) := by
 rw [At, hF, E8, Pb _ _ _ (by omega) (by omega), Nx, Dn]
 by_cases h : left - (len : Int) < 0
 ·have e : Jd len left = -1 := by rw [Jd, if_pos]; omega
  rw [if_pos (by simpa using h), e]
  rfl
 ·have e : Jd len left = left - len := by rw [Jd, if_neg]; omega
  rw [if_neg (by simpa using h), e]
  rfl
end ops
end
section
open Go
variable {β : Type} {n : Nat}
theorem Gt (cs : List AV) (H : Ac) (k : KO β) (h : cs.all Ja = true) : Zz (.agg cs) H k = k (.ptr H.length 0) (H ++ [⟨cs, true, true⟩]) := by
 rw [Zz, Aa4 h]
 rfl
theorem ldT {m id off : Nat} {H : Ac} {cs : List AV} (h : Ba H id off m = some cs) (k : AV → Option β) : Cu true m (.ptr id off) H k = k (.agg cs) := by
 simp only [Cu, h, zac, if_true]
theorem ldF {id off : Nat} {H : Ac} {c : AV} (h : Ba H id off 1 = some [c]) (k : AV → Option β) : Cu false 1 (.ptr id off) H k = k c := by
 simp only [Cu, h, zac, zaa, if_false, one]
noncomputable def Tb (b0 b1 : J4) (ts : List Nat) (cs z : List AV) : Ac := b0 :: b1 :: ⟨(Bt As E0.tp 3 ts cs).1 ++ z, true, true⟩ :: (Bt As E0.tp 3 ts cs).2
theorem AbP {b0 b1 : J4} {ts : List Nat} {cs z0 z : List AV} {w o : Nat} {y : AV} {ys : List AV} {B : List J4} {ts' : List Nat} {cs' : List AV} (hl : ts.length = cs.length) (ho : o = cs.length) (hw : z0.length = w) (hc : Fm y = some ys) (hy : ys.length = w)
  (hB : Bt As E0.tp (3 + (Bt As E0.tp 3 ts cs).2.length) ts' cs' = (ys, B)) (K : Ac → Option β) :
  Fp w (.ptr 2 o) y (Tb b0 b1 ts cs (z0 ++ z) ++ B) K = K (Tb b0 b1 (ts ++ ts') (cs ++ cs') z) := by
 have hP : (Bt As E0.tp 3 ts cs).1.length = cs.length := Jh _ _ _
 rw [Yx w 2 o y ⟨(Bt As E0.tp 3 ts cs).1 ++ (z0 ++ z), true, true⟩ ys _ _ rfl hc hy (by simp [hP, ho, hw]) rfl]
 congr 1
 have hs : Gg ((Bt As E0.tp 3 ts cs).1 ++ (z0 ++ z)) o ys = (Bt As E0.tp 3 ts cs).1 ++ (ys ++ z) := by
  rw [ho, ← hP]
  exact Rs _ _ _ _ (by rw [hw, hy])
 simp only [Tb, zau, List.set_cons_succ, List.set_cons_zero, hs, Ot ts cs ts' cs' 3 hl, hB, zai]
theorem AnR {b0 b1 : J4} {ts : List Nat} {cs z z' : List AV} {o : Nat} {t : Nat} {v : Value} {c : AV} {K : Ac → Option β} {r : Option β} (hr : Ba (Tb b0 b1 ts cs z) 0 o 1 = some [.sc v]) (hv : O7 v = true) (hl : ts.length = cs.length) (ho : o = cs.length) (hz : z = c :: z')
  (h : K (Tb b0 b1 (ts ++ [t]) (cs ++ [.sc v]) z') = r) :
  (C4 o (.ptr 0 0) fun t4 => Cu false 1 t4 (Tb b0 b1 ts cs z) fun t5 => C4 o (.ptr 2 0) fun t6 => Fp 1 t6 t5 (Tb b0 b1 ts cs z) fun H => K H) = r := by
 subst hz
 simp only [C4, zav]
 rw [ldF hr]
 have := AbP (β := β) (b0 := b0) (b1 := b1) (ts := ts) (cs := cs) (z0 := [c]) (z := z') (w := 1) (o := o) (y := .sc v) (ys := [.sc v]) (B := []) (ts' := [t]) (cs' := [.sc v]) hl ho rfl (by simp only [Fm, Bj, hv, if_true]) rfl (by simp [Bt, Cy]) K
 rw [zan] at this
 exact this.trans h
theorem AnQ {b0 b1 : J4} {ts : List Nat} {cs z z' : List AV} {o t g len : Nat} {c : AV} {cells : List AV} {K : Ac → Option β} {r : Option β} (hr : Ba (Tb b0 b1 ts cs z) 0 o 1 = some [.ro len cells]) (hh : E9 g = false) (ht : Bz E0 n t g [.ro len cells] = some (.ro len cells)) (hl : ts.length = cs.length) (ho : o = cs.length) (hz : z = c :: z')
  (h : K (Tb b0 b1 (ts ++ [t]) (cs ++ [.ro len cells]) z') = r) :
  (C4 o (.ptr 0 0) fun t4 => Cu false 1 t4 (Tb b0 b1 ts cs z) fun t5 => (PR n β).call t (.fn g [] []) [t5] (Tb b0 b1 ts cs z) fun t9 H => C4 o (.ptr 2 0) fun t6 => Fp 1 t6 t9 H fun H => K H) = r := by
 subst hz
 simp only [C4, zav]
 rw [ldF hr, Hn (vs := [.ro len cells]) hh (by simp only [za4, Xj]; rfl) ht]
 have hH : (Tb b0 b1 ts cs (c :: z')).length = 3 + (Bt As E0.tp 3 ts cs).2.length := by simp [Tb]; omega
 rw [hH]
 have hi : ∀ N, ∃ s : AV, Bj s = true ∧ (Cy As E0.tp N t (.ro len cells)).1 = s ∧ Fm s = some [s] := fun N => by
  refine ⟨_, ?_, rfl, ?_⟩ <;> simp [Cy, Bj, Fm]
 obtain ⟨s, _, hs, hc⟩ := hi (3 + (Bt As E0.tp 3 ts cs).2.length)
 have := AbP (β := β) (b0 := b0) (b1 := b1) (ts := ts) (cs := cs) (z0 := [c]) (z := z') (w := 1) (o := o) (y := s) (ys := [s]) (ts' := [t]) (cs' := [.ro len cells]) (B := (Cy As E0.tp (3 + (Bt As E0.tp 3 ts cs).2.length) t (.ro len cells)).2) hl ho rfl hc rfl (by simp only [Bt, List.headD_cons, zan, hs]) K
 rw [hs]
 exact this.trans h
theorem AmA {b0 b1 : J4} {ts cty : List Nat} {cs z z0 z' : List AV} {o t g w : Nat} {cells : List AV} {K : Ac → Option β} {r : Option β} (hr : Ba (Tb b0 b1 ts cs z) 0 o w = some cells) (hh : E9 g = false) (hfl : cells.all Ja = true) (ht : Bz E0 n t g [.agg cells] = some (.agg cells)) (hty : ∃ i, As t = some i ∧ i.cty = cty) (hw : cells.length = w) (hl : ts.length = cs.length) (ho : o = cs.length) (hz : z = z0 ++ z') (hz0 : z0.length = w)
  (h : K (Tb b0 b1 (ts ++ cty) (cs ++ cells) z') = r) :
  (C4 o (.ptr 0 0) fun t4 => Cu true w t4 (Tb b0 b1 ts cs z) fun t5 => (PR n β).call t (.fn g [] []) [t5] (Tb b0 b1 ts cs z) fun t9 H => C4 o (.ptr 2 0) fun t6 => Fp w t6 t9 H fun H => K H) = r := by
 subst hz
 obtain ⟨i, hi, rfl⟩ := hty
 simp only [C4, zav]
 rw [ldT hr, Hn (vs := [.agg cells]) hh (by rw [za4, (M9 _ hfl).now]; rfl) ht]
 have hH : (Tb b0 b1 ts cs (z0 ++ z')).length = 3 + (Bt As E0.tp 3 ts cs).2.length := by simp [Tb]; omega
 rw [hH, Il, hi, zaG]
 have hleaf := Mm (ti := As) (tp := E0.tp) cells (3 + (Bt As E0.tp 3 ts cs).2.length) i.cty hfl
 have hlen := Jh (ti := As) (tp := E0.tp) (3 + (Bt As E0.tp 3 ts cs).2.length) i.cty cells
 have := AbP (β := β) (b0 := b0) (b1 := b1) (ts := ts) (cs := cs) (z0 := z0) (z := z') (w := w) (o := o) (y := .agg (Bt As E0.tp (3 + (Bt As E0.tp 3 ts cs).2.length) i.cty cells).1) (ys := (Bt As E0.tp (3 + (Bt As E0.tp 3 ts cs).2.length) i.cty cells).1) (ts' := i.cty) (cs' := cells) (B := (Bt As E0.tp (3 + (Bt As E0.tp 3 ts cs).2.length) i.cty cells).2) hl ho hz0 (by
  show (if _ then _ else none) = _
  rw [if_pos hleaf]) (by rw [hlen, hw]) rfl K
 exact this.trans h
theorem AmB {b0 : J4} {z1 cells : List AV} {cty : List Nat} {w ty : Nat} (hw : cells.length = w) (hz : z1.length = w) (hfl : cells.all Ja = true) (hty : ∃ i, As ty = some i ∧ i.cty = cty) (hok : Hj (I0 As E0.tp 7) cty cells) :
  (Cu true w (.ptr 2 0) (Tb b0 ⟨z1, true, true⟩ cty cells []) fun t14 => Fp w (.ptr 1 0) t14 (Tb b0 ⟨z1, true, true⟩ cty cells []) fun H => Cu true w (.ptr 1 0) H fun r0 => Bc As E0.tp ty H r0) = some (.agg cells) := by
 obtain ⟨i, hi, rfl⟩ := hty
 have hlen := Jh (ti := As) (tp := E0.tp) 3 i.cty cells
 have hleaf := Mm (ti := As) (tp := E0.tp) cells 3 i.cty hfl
 have h1 : Ba (Tb b0 ⟨z1, true, true⟩ i.cty cells []) 2 0 w = some (Bt As E0.tp 3 i.cty cells).1 := by
  simp [Ba, Tb, hlen, hw, zaY]
 rw [ldT h1]
 have hc : Fm (.agg (Bt As E0.tp 3 i.cty cells).1) = some (Bt As E0.tp 3 i.cty cells).1 := by
  show (if _ then _ else none) = _
  rw [if_pos hleaf]
 rw [Yx w 1 0 _ ⟨z1, true, true⟩ _ _ _ rfl hc (by rw [hlen, hw]) (by simp [hz]) rfl]
 have hs : Gg z1 0 (Bt As E0.tp 3 i.cty cells).1 = (Bt As E0.tp 3 i.cty cells).1 := by
  unfold Gg
  rw [List.take_zero, zag, zbh (by rw [hlen, hw, hz]; omega), zan]
 simp only [hs]
 have h2 : Ba ((Tb b0 ⟨z1, true, true⟩ i.cty cells []).set 1 ⟨(Bt As E0.tp 3 i.cty cells).1, true, true⟩) 1 0 w = some (Bt As E0.tp 3 i.cty cells).1 := by
  simp [Ba, Tb, hlen, hw, zaY]
 rw [ldT h2]
 have hok' : I0 As E0.tp 8 ty (.agg cells) := ⟨i, hi, hok⟩
 have := Zx [b0, ⟨(Bt As E0.tp 3 i.cty cells).1, true, true⟩, ⟨(Bt As E0.tp 3 i.cty cells).1 ++ [], true, true⟩] ty _ hok'
 rw [Il, hi] at this
 exact this
noncomputable def StB (T : List Nat) (C Z : List AV) (o : Nat) : Ac := Tb ⟨C, true, true⟩ ⟨Z, true, true⟩ (T.take o) (C.take o) (Z.drop o)
theorem Abk {T : List Nat} {C Z : List AV} {o p w : Nat} {cs : List AV} (h : (C.drop p).take w = cs) (hl : cs.length = w) (hw : 0 < w) : Ba (StB T C Z o) 0 p w = some cs := by
 have hle : p + w ≤ C.length := by
  have := congrArg List.length h
  rw [hl, List.length_take, List.length_drop] at this
  omega
 show (match (some ⟨C, true, true⟩ : Option J4) with | some b => if b.live then (if p + w ≤ b.cells.length then some ((b.cells.drop p).take w) else none) else none | none => none) = _
 simp only [if_true, hle, h]
theorem Zu {C : List AV} {o : Nat} {c : AV} (h : C[o]? = some c) : (C.drop o).take 1 = [c] := by
 obtain ⟨hlt, e⟩ := zad.1 h
 rw [zaA hlt, e]
 rfl
theorem Tv {α : Type} {T : List α} {o w o' : Nat} {c : List α} (h : (T.drop o).take w = c) (ho : o' = o + w) : T.take o' = T.take o ++ c := by
 rw [ho, List.take_add, h]
theorem F9 {T : List Nat} {C Z : List AV} {o o' : Nat} {v : Value} {K : Ac → Option β} {r : Option β} (hT : T.length = C.length) (hZ : Z.length = C.length) (hC : C[o]? = some (.sc v)) (hv : O7 v = true) (ho : o' = o + 1) (h : K (StB T C Z o') = r) :
  (C4 o (.ptr 0 0) fun t4 => Cu false 1 t4 (StB T C Z o) fun t5 => C4 o (.ptr 2 0) fun t6 => Fp 1 t6 t5 (StB T C Z o) fun H => K H) = r := by
 obtain ⟨hlt, _⟩ := zad.1 hC
 have hz : Z.drop o = Z[o]'(by omega) :: Z.drop o' := by rw [ho]; exact zaA _
 refine AnR (t := T[o]'(by omega)) (z' := Z.drop o') (Abk (Zu hC) rfl (by decide)) hv (by simp [hT]) (by simp; omega) hz ?_
 have e1 : T.take o' = T.take o ++ [T[o]'(by omega)] := Tv (w := 1) (by rw [zaA (by omega)]; rfl) ho
 have e2 : C.take o' = C.take o ++ [.sc v] := Tv (Zu hC) ho
 rw [← e1, ← e2]
 exact h
theorem Ra {T : List Nat} {C Z : List AV} {o o' t g len : Nat} {cells : List AV} {K : Ac → Option β} {r : Option β} (hT : T.length = C.length) (hZ : Z.length = C.length) (hC : C[o]? = some (.ro len cells)) (hTt : T[o]? = some t) (hh : E9 g = false) (ht : Bz E0 n t g [.ro len cells] = some (.ro len cells)) (ho : o' = o + 1) (h : K (StB T C Z o') = r) :
  (C4 o (.ptr 0 0) fun t4 => Cu false 1 t4 (StB T C Z o) fun t5 => (PR n β).call t (.fn g [] []) [t5] (StB T C Z o) fun t9 H => C4 o (.ptr 2 0) fun t6 => Fp 1 t6 t9 H fun H => K H) = r := by
 obtain ⟨hlt, _⟩ := zad.1 hC
 obtain ⟨hlt2, hTe⟩ := zad.1 hTt
 have hz : Z.drop o = Z[o]'(by omega) :: Z.drop o' := by rw [ho]; exact zaA _
 refine AnQ (z' := Z.drop o') (Abk (Zu hC) rfl (by decide)) hh ht (by simp [hT]) (by simp; omega) hz ?_
 have e1 : T.take o' = T.take o ++ [t] := Tv (w := 1) (by rw [zaA hlt2, hTe]; rfl) ho
 have e2 : C.take o' = C.take o ++ [.ro len cells] := Tv (Zu hC) ho
 rw [← e1, ← e2]
 exact h
theorem Ah9 {T cty : List Nat} {C Z : List AV} {o o' t g w : Nat} {cells : List AV} {K : Ac → Option β} {r : Option β} (hT : T.length = C.length) (hZ : Z.length = C.length) (hC : (C.drop o).take w = cells) (hTt : (T.drop o).take w = cty) (hh : E9 g = false) (hfl : cells.all Ja = true) (ht : Bz E0 n t g [.agg cells] = some (.agg cells)) (hty : ∃ i, As t = some i ∧ i.cty = cty) (hw : cells.length = w) (hw0 : 0 < w) (ho : o' = o + w) (h : K (StB T C Z o') = r) :
  (C4 o (.ptr 0 0) fun t4 => Cu true w t4 (StB T C Z o) fun t5 => (PR n β).call t (.fn g [] []) [t5] (StB T C Z o) fun t9 H => C4 o (.ptr 2 0) fun t6 => Fp w t6 t9 H fun H => K H) = r := by
 have hle : o + w ≤ C.length := by
  have := congrArg List.length hC
  rw [hw, List.length_take, List.length_drop] at this
  omega
 have hz : Z.drop o = (Z.drop o).take w ++ Z.drop o' := by
  rw [ho]
  conv => lhs; rw [← List.take_append_drop w (Z.drop o)]
  rw [zb6]
 refine AmA (z0 := (Z.drop o).take w) (z' := Z.drop o') (Abk hC hw hw0) hh hfl ht hty hw (by simp [hT]) (by simp; omega) hz (by simp; omega) ?_
 have e1 : T.take o' = T.take o ++ cty := Tv hTt ho
 have e2 : C.take o' = C.take o ++ cells := Tv hC ho
 rw [← e1, ← e2]
 exact h
theorem W9 {T : List Nat} {C Z : List AV} {w ty : Nat} (hT : T.length = C.length) (hZ : Z.length = C.length) (hw : C.length = w) (hfl : C.all Ja = true) (hty : ∃ i, As ty = some i ∧ i.cty = T) (hok : Hj (I0 As E0.tp 7) T C) :
  (Cu true w (.ptr 2 0) (StB T C Z w) fun t14 => Fp w (.ptr 1 0) t14 (StB T C Z w) fun H => Cu true w (.ptr 1 0) H fun r0 => Bc As E0.tp ty H r0) = some (.agg C) := by
 have e : StB T C Z w = Tb ⟨C, true, true⟩ ⟨Z, true, true⟩ T C [] := by
  unfold StB
  rw [zaY (by omega), zaY (by omega), zbh (by omega)]
 rw [e]
 exact AmB hw (by omega) hfl hty hok
theorem Jo {o : Nat} {H : Ac} {v : Value} {A K r : Option β} (h0 : Ba H 0 o 1 = some [.sc v]) (h1 : Ba H 1 o 1 = some [.sc v]) (hv : ∀ k : AV → Option β, C7 .neq (.sc v) (.sc v) k = k (.sc (.bool false))) (h : K = r) :
  (C4 o (.ptr 0 0) fun t5 => Cu false 1 t5 H fun t6 => C4 o (.ptr 1 0) fun t7 => Cu false 1 t7 H fun t8 => C7 .neq t6 t8 fun t9 => Eo t9 A K) = r := by
 simp only [C4, zav]
 rw [ldF h0, ldF h1, hv, Dn]
 exact h
theorem R2 {o : Nat} {H : Ac} {b : Bool} {A K r : Option β} (h0 : Ba H 0 o 1 = some [.sc (.bool b)]) (h1 : Ba H 1 o 1 = some [.sc (.bool b)]) (h : K = r) :
  (C4 o (.ptr 0 0) fun t5 => Cu false 1 t5 H fun t6 => C4 o (.ptr 1 0) fun t7 => Cu false 1 t7 H fun t8 => Nz .neq t6 t8 fun t9 => Eo t9 A K) = r := by
 simp only [C4, zav]
 rw [ldF h0, ldF h1]
 simp only [Nz, asB, zac, binB, beq_self_eq_true, zax]
 exact h
theorem Q1 {o tb g : Nat} {H : Ac} {len : Nat} {cells : List AV} {A : Ac → Option β} {K : Ac → Option β} {r : Option β} (h0 : Ba H 0 o 1 = some [.ro len cells]) (h1 : Ba H 1 o 1 = some [.ro len cells]) (hh : E9 g = false) (ht : Bz E0 n tb g [.ro len cells, .ro len cells] = some (.sc (.bool true))) (h : K H = r) :
  (C4 o (.ptr 0 0) fun t5 => Cu false 1 t5 H fun t6 => C4 o (.ptr 1 0) fun t7 => Cu false 1 t7 H fun t8 => (PR n β).call tb (.fn g [] []) [t6, t8] H fun t H => pUn .not t fun t9 => Eo t9 (A H) (K H)) = r := by
 simp only [C4, zav]
 rw [ldF h0, ldF h1, Hn (vs := [.ro len cells, .ro len cells]) hh (by simp only [za4, Xj]; rfl) ht, G2, zan]
 exact h
theorem Afg {o tb g w : Nat} {H : Ac} {cells : List AV} {A : Ac → Option β} {K : Ac → Option β} {r : Option β} (h0 : Ba H 0 o w = some cells) (h1 : Ba H 1 o w = some cells) (hh : E9 g = false) (hfl : cells.all Ja = true) (ht : Bz E0 n tb g [.agg cells, .agg cells] = some (.sc (.bool true))) (h : K H = r) :
  (C4 o (.ptr 0 0) fun t5 => Cu true w t5 H fun t6 => C4 o (.ptr 1 0) fun t7 => Cu true w t7 H fun t8 => (PR n β).call tb (.fn g [] []) [t6, t8] H fun t H => pUn .not t fun t9 => Eo t9 (A H) (K H)) = r := by
 simp only [C4, zav]
 rw [ldT h0, ldT h1, Hn (vs := [.agg cells, .agg cells]) hh (by simp only [za4, (M9 _ hfl).now]; rfl) ht, G2, zan]
 exact h
theorem Kl (z : Int) (k : AV → Option β) : C7 .neq (.sc (.int .i64 z)) (.sc (.int .i64 z)) k = k (.sc (.bool false)) := by
 show k (.sc (.bool (z != z))) = _
 rw [bne_self_eq_false]
theorem P1 (s : ByteArray) (k : AV → Option β) : C7 .neq (.sc (.string s)) (.sc (.string s)) k = k (.sc (.bool false)) := by
 show k (.sc (.bool (!(s.toList == s.toList)))) = _
 rw [beq_self_eq_true, zax]
theorem AnH (z : Int) (k : AV → Option β) : C7 .neq (.sc (.int .u8 z)) (.sc (.int .u8 z)) k = k (.sc (.bool false)) := by
 show k (.sc (.bool (z != z))) = _
 rw [bne_self_eq_false]
def Xo (W : Nat) (left : Int) : Option AV := some (.sc (.int .i64 (Jd W left)))
theorem Z5 {s W : Nat} {left : Int} (h : left < s) : Jd (s + W) left = -1 := by rw [Jd, if_pos]; omega
theorem Xa {s W : Nat} {left : Int} (h : ¬ left < s) : Jd (s + W) left = Jd W (left - s) := by
 unfold Jd
 by_cases h2 : left < ((s + W : Nat) : Int)
 ·rw [if_pos h2, if_pos (by omega)]
 ·rw [if_neg h2, if_neg (by omega)]; omega
theorem Rt {o : Nat} {H : Ac} {s : ByteArray} {W : Nat} {left : Int} {A : Option AV} {K : AV → Option AV} (hr : Ba H 0 o 1 = some [.sc (.string s)]) (h0 : 0 ≤ left) (h1 : left ≤ 1048576) (hs : s.size ≤ 9223372036854775807) (hA : A = some (.sc (.int .i64 (-1)))) (hK : 0 ≤ left - s.size → left - s.size ≤ 1048576 → K (.sc (.int .i64 (left - s.size))) = Xo W (left - s.size)) :
  (C4 o (.ptr 0 0) fun t6 => Cu false 1 t6 H fun t7 => Q5 t7 fun t8 => C7 .sub (.sc (.int .i64 left)) t8 fun t9 => C7 .lss t9 (.sc (.int .i64 0)) fun t11 => Eo t11 A (K t9)) = Xo (s.size + W) left := by
 simp only [C4, zav]
 rw [ldF hr]
 simp only [Q5, asS, zac]
 rw [Pb _ _ _ (by omega) (by omega), Nx, Dn]
 by_cases h : left < s.size
 ·rw [if_pos (by simpa using (show left - (s.size : Int) < 0 by omega)), hA, Xo, Z5 h]
 ·rw [if_neg (by simpa using (show ¬ left - (s.size : Int) < 0 by omega)), hK (by omega) (by omega), Xo, Xo, Xa h]
theorem Rb {o ty g : Nat} {H : Ac} {len : Nat} {cells : List AV} {w W : Nat} {left : Int} {A : Ac → Option AV} {K : AV → Ac → Option AV} (hr : Ba H 0 o 1 = some [.ro len cells]) (h0 : 0 ≤ left) (h1 : left ≤ 1048576) (hh : E9 g = false) (ht : Bz E0 n ty g [.ro len cells, .sc (.int .i64 left)] = some (.sc (.int .i64 (Jd w left)))) (hA : A H = some (.sc (.int .i64 (-1)))) (hK : 0 ≤ left - w → left - w ≤ 1048576 → K (.sc (.int .i64 (left - w))) H = Xo W (left - w)) :
  (C4 o (.ptr 0 0) fun t6 => Cu false 1 t6 H fun t7 => (PR n AV).call ty (.fn g [] []) [t7, .sc (.int .i64 left)] H fun t15 H => C7 .lss t15 (.sc (.int .i64 0)) fun t11 => Eo t11 (A H) (K t15 H)) = Xo (w + W) left := by
 simp only [C4, zav]
 rw [ldF hr, Hn (vs := [.ro len cells, .sc (.int .i64 left)]) hh (by simp only [za4, Xj, Abh]; rfl) ht, G2, zan]
 simp only
 rw [Nx, Dn]
 by_cases h : left < w
 ·have e : Jd w left = -1 := by rw [Jd, if_pos h]
  rw [e, if_pos (by decide), hA, Xo, Z5 h]
 ·have e : Jd w left = left - w := by rw [Jd, if_neg h]
  rw [e, if_neg (by simpa using (show ¬ left - (w : Int) < 0 by omega)), hK (by omega) (by omega), Xo, Xo, Xa h]
theorem AhD {o ty g wd : Nat} {H : Ac} {cells : List AV} {w W : Nat} {left : Int} {A : Ac → Option AV} {K : AV → Ac → Option AV} (hr : Ba H 0 o wd = some cells) (h0 : 0 ≤ left) (h1 : left ≤ 1048576) (hh : E9 g = false) (hfl : cells.all Ja = true) (ht : Bz E0 n ty g [.agg cells, .sc (.int .i64 left)] = some (.sc (.int .i64 (Jd w left)))) (hA : A H = some (.sc (.int .i64 (-1)))) (hK : 0 ≤ left - w → left - w ≤ 1048576 → K (.sc (.int .i64 (left - w))) H = Xo W (left - w)) :
  (C4 o (.ptr 0 0) fun t6 => Cu true wd t6 H fun t7 => (PR n AV).call ty (.fn g [] []) [t7, .sc (.int .i64 left)] H fun t15 H => C7 .lss t15 (.sc (.int .i64 0)) fun t11 => Eo t11 (A H) (K t15 H)) = Xo (w + W) left := by
 simp only [C4, zav]
 rw [ldT hr, Hn (vs := [.agg cells, .sc (.int .i64 left)]) hh (by simp only [za4, (M9 _ hfl).now, Abh]; rfl) ht, G2, zan]
 simp only
 rw [Nx, Dn]
 by_cases h : left < w
 ·have e : Jd w left = -1 := by rw [Jd, if_pos h]
  rw [e, if_pos (by decide), hA, Xo, Z5 h]
 ·have e : Jd w left = left - w := by rw [Jd, if_neg h]
  rw [e, if_neg (by simpa using (show ¬ left - (w : Int) < 0 by omega)), hK (by omega) (by omega), Xo, Xo, Xa h]
theorem Xb {left : Int} (h0 : 0 ≤ left) : some (AV.sc (.int .i64 left)) = Xo 0 left := by
 rw [Xo, Jd, if_neg (by omega)]
 simp
abbrev Af (s : ByteArray) : AV := .ro s.size (Bl s)
abbrev Ei (l : List Int) : AV := .ro l.length (l.map fun z => .sc (.int .i64 z))
abbrev Ee (l : List ByteArray) : AV := .ro l.length (l.map fun s => .sc (.string s))
abbrev Ci {α : Type} (enc : α → List AV) (l : List α) : AV := .ro l.length (l.map enc).flatten
def Xu (z : Int) : Prop := -9223372036854775808 ≤ z ∧ z ≤ 9223372036854775807
def Sq (s : ByteArray) : Prop := s.size ≤ 9223372036854775807
theorem Yo {f : Nat → AV → Prop} {α : Type} (e : α → Value) (hf : ∀ t v, f t (.sc v)) : ∀ (ts : List Nat) (l : List α), ts.length = l.length → Hj f ts (l.map fun x => .sc (e x))
 | [], [], _ => trivial
 | t :: ts, x :: l, h => ⟨hf _ _, Yo e hf ts l (by simpa using h)⟩
 | [], _ :: _, h => by simp at h
 | _ :: _, [], h => by simp at h
theorem P4 {α : Type} {ty d : Nat} (e : α → Value) (hty : ∃ i j, As ty = some i ∧ As i.elem = some j ∧ j.size = 1 ∧ j.cty.length = 1) (l : List α) : I0 As E0.tp (d + 2) ty (.ro l.length (l.map fun x => .sc (e x))) := by
 obtain ⟨i, j, h1, h2, h3, h4⟩ := hty
 exact ⟨i, j, h1, h2, by simp [h3], Yo e (fun _ _ => trivial) _ l (by simp [h4])⟩
theorem Kn {d ty : Nat} (hty : ∃ i j, As ty = some i ∧ As i.elem = some j ∧ j.size = 1 ∧ j.cty.length = 1) (s : ByteArray) : I0 As E0.tp (d + 2) ty (Af s) := by
 have := P4 (d := d) (fun b : UInt8 => .int .u8 b.toNat) hty s.data.toList
 have e : s.data.toList.length = s.size := by simp
 rw [e] at this
 exact this
theorem Wm {α : Type} {ty d w : Nat} {cty : List Nat} {enc : α → List AV} (hw : ∀ x, (enc x).length = w) (hty : ∃ i j, As ty = some i ∧ As i.elem = some j ∧ j.size = w ∧ j.cty = cty) (he : ∀ x, Hj (I0 As E0.tp d) cty (enc x)) (l : List α) : I0 As E0.tp (d + 1) ty (Ci enc l) := by
 obtain ⟨i, j, h1, h2, h3, rfl⟩ := hty
 exact ⟨i, j, h1, h2, by rw [Qa hw, h3], Qn l fun x _ => he x⟩
theorem P3 {α : Type} {enc : α → List AV} {ok : α → Prop} {n t e : Nat} {cs : List AV} (hi : ∃ i, As t = some i ∧ i.isB = false ∧ i.ik = none ∧ i.isStr = false ∧ i.sl = true ∧ i.elem = e) (hel : ∀ n cs, Ux As n e cs → ∃ x, cs = enc x ∧ ok x) (h : Ux As n t cs) :
  ∃ l : List α, cs = [Ci enc l] ∧ l.length ≤ 9223372036854775807 ∧ ∀ x ∈ l, ok x := by
 cases n with
 | zero => cases h
 | succ n =>
  obtain ⟨i, h1, h2, h3, h4, h5, rfl⟩ := hi
  obtain ⟨i', hi', h⟩ := h
  rw [h1] at hi'
  obtain rfl := Option.some.inj hi'
  simp only [h2, h3, h4, h5] at h
  obtain ⟨rows, rfl, hl, hr⟩ := h
  have hm : maxLen = 9223372036854775807 := by decide
  rw [hm] at hl
  have key : ∀ rows : List (List AV), (∀ r ∈ rows, Ux As n i.elem r) → ∃ l : List α, rows = l.map enc ∧ ∀ x ∈ l, ok x := by
   intro rows
   induction rows with
   | nil => intro _; exact ⟨[], rfl, fun x h => by cases h⟩
   | cons r rows ih =>
    intro h
    obtain ⟨l, h1, h2⟩ := ih fun r hr => h r (zay _ hr)
    obtain ⟨x, hx, hox⟩ := hel n r (h r za1)
    exact ⟨x :: l, by rw [h1, hx]; rfl, fun y hy => by rcases zbF.1 hy with rfl | hy; exact hox; exact h2 y hy⟩
  obtain ⟨l, rfl, h2⟩ := key rows hr
  exact ⟨l, by simp, by simpa using hl, h2⟩
theorem K0 {n : Nat} {cs : List AV} (h : Ux As n 9 cs) : ∃ s : ByteArray, cs = [.sc (.string s)] ∧ Sq s := by
 cases n with
 | zero => cases h
 | succ n =>
  obtain ⟨i, hi, h⟩ := h
  obtain rfl := Option.some.inj (show some _ = some i from hi)
  have hm : maxLen = 9223372036854775807 := by decide
  obtain ⟨s, h1, h2⟩ := (show ∃ s : ByteArray, cs = [.sc (.string s)] ∧ s.size ≤ maxLen from h)
  exact ⟨s, h1, by rw [hm] at h2; exact h2⟩
theorem G4 {n : Nat} {cs : List AV} (h : Ux As n 3 cs) : ∃ z : Int, cs = [.sc (.int .i64 z)] ∧ Xu z := by
 cases n with
 | zero => cases h
 | succ n =>
  obtain ⟨i, hi, h⟩ := h
  obtain rfl := Option.some.inj (show some _ = some i from hi)
  obtain ⟨z, h1, h2⟩ := (show ∃ z, cs = [.sc (.int .i64 z)] ∧ (Lit.int .i64 z).wf = true from h)
  refine ⟨z, h1, ?_⟩
  have hw' : IntKind.i64.min ≤ z ∧ z ≤ IntKind.i64.max := by simpa [Lit.wf] using h2
  have e1 : IntKind.i64.min = -9223372036854775808 := by decide
  have e2 : IntKind.i64.max = 9223372036854775807 := by decide
  rw [e1, e2] at hw'
  exact hw'
theorem F3 {n : Nat} {cs : List AV} (h : Ux As n 4 cs) : ∃ b : Bool, cs = [.sc (.bool b)] := by
 cases n with
 | zero => cases h
 | succ n =>
  obtain ⟨i, hi, h⟩ := h
  obtain rfl := Option.some.inj (show some _ = some i from hi)
  exact h
theorem AeB {n : Nat} {cs : List AV} (h : Ux As n 5 cs) : ∃ b : UInt8, cs = [.sc (.int .u8 b.toNat)] := by
 cases n with
 | zero => cases h
 | succ n =>
  obtain ⟨i, hi, h⟩ := h
  obtain rfl := Option.some.inj (show some _ = some i from hi)
  obtain ⟨z, rfl, hw⟩ := (show ∃ z, cs = [.sc (.int .u8 z)] ∧ (Lit.int .u8 z).wf = true from h)
  have hz : 0 ≤ z ∧ z < 256 := by
   have hw' : IntKind.u8.min ≤ z ∧ z ≤ IntKind.u8.max := by simpa [Lit.wf] using hw
   have e1 : IntKind.u8.min = 0 := by decide
   have e2 : IntKind.u8.max = 255 := by decide
   rw [e1, e2] at hw'
   omega
  refine ⟨UInt8.ofNat z.toNat, ?_⟩
  have : (UInt8.ofNat z.toNat).toNat = z.toNat := by simp [UInt8.toNat_ofNat']; omega
  rw [this, Int.toNat_of_nonneg hz.1]
theorem Nr {α : Type} (e : α → AV) (l : List α) : (l.map fun x => [e x]).flatten = l.map e := by
 induction l with
 | nil => rfl
 | cons x l ih => rw [zat, za3, ih]; rfl
theorem Km {n t : Nat} {cs : List AV} (hi : ∃ i, As t = some i ∧ i.isB = false ∧ i.ik = none ∧ i.isStr = false ∧ i.sl = true ∧ i.elem = 5) (h : Ux As n t cs) : ∃ s : ByteArray, cs = [Af s] ∧ Sq s := by
 obtain ⟨l, rfl, h1, _⟩ := P3 (α := UInt8) (enc := fun b => [.sc (.int .u8 b.toNat)]) (ok := fun _ => True) hi (fun n cs h => by obtain ⟨b, h⟩ := AeB h; exact ⟨b, h, trivial⟩) h
 refine ⟨⟨l.toArray⟩, ?_, ?_⟩
 ·rw [Ci, Nr]
  simp [Af, Bl]
  rfl
 ·exact h1
theorem AeC {n t : Nat} {cs : List AV} (hi : ∃ i, As t = some i ∧ i.isB = false ∧ i.ik = none ∧ i.isStr = false ∧ i.sl = true ∧ i.elem = 3) (h : Ux As n t cs) : ∃ l : List Int, cs = [Ei l] ∧ l.length ≤ 9223372036854775807 ∧ ∀ z ∈ l, Xu z := by
 obtain ⟨l, rfl, h1, h2⟩ := P3 (α := Int) (enc := fun z => [.sc (.int .i64 z)]) (ok := Xu) hi (fun n cs h => G4 h) h
 exact ⟨l, by rw [Ci, Nr], h1, h2⟩
theorem AeD {n t : Nat} {cs : List AV} (hi : ∃ i, As t = some i ∧ i.isB = false ∧ i.ik = none ∧ i.isStr = false ∧ i.sl = true ∧ i.elem = 9) (h : Ux As n t cs) : ∃ l : List ByteArray, cs = [Ee l] ∧ l.length ≤ 9223372036854775807 ∧ ∀ s ∈ l, Sq s := by
 obtain ⟨l, rfl, h1, h2⟩ := P3 (α := ByteArray) (enc := fun s => [.sc (.string s)]) (ok := Sq) hi (fun n cs h => K0 h) h
 exact ⟨l, by rw [Ci, Nr], h1, h2⟩
theorem Mn {n t : Nat} {cs : List AV} {fs : List (Nat × Nat)} (hi : ∃ i, As t = some i ∧ i.isB = false ∧ i.ik = none ∧ i.isStr = false ∧ i.sl = false ∧ i.isAgg = true ∧ i.fields = fs) (h : Ux As n t cs) : ∃ m, Ahi (Ux As m) fs cs := by
 cases n with
 | zero => cases h
 | succ n =>
  obtain ⟨i, h1, h2, h3, h4, h5, h6, rfl⟩ := hi
  obtain ⟨i', hi', h⟩ := h
  rw [h1] at hi'
  obtain rfl := Option.some.inj hi'
  simp only [h2, h3, h4, h5, h6] at h
  exact ⟨n, h⟩
end
end Go.Proofs.YtlcpigdmekgajaaGreatDoor.Abs
