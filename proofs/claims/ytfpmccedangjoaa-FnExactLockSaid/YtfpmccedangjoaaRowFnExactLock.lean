/- The law FnExactLock and its row: every input, no condition (written by laws.py). -/
import Derived.Test.YtfpmccedangjoaaRows
import Derived.Test.YtfpmccedangjoaaVLock
import Derived.Test.YtfpmccedangjoaaMk
import Derived.WalkKit
import Derived.ProofKit
import Derived.OpenShut
import Derived.ShutString
import Derived.ChangeOld
import Derived.Below
import Derived.SizedLaws
namespace Go.Proofs.Ytfpmccedangjoaa.Abs
open Go
set_option linter.unusedVariables false
set_option linter.unusedSimpArgs false
theorem law_Lock (n : Nat) (hn : 1048576 < n) (x0 : StripeV) (x1 : Int) (k0 : okStripe x0) (k1 : okI x1) : tree E0 (n + 30) 4 3 [.agg (encStripe x0), .sc (.int .i64 x1)] = some (.sc (.bool true)) := by
  rw [tree_def, f3_eq, f3]
  simp only [PR_box, PR_new, PR_load, PR_store, PR_bin, PR_binB, PR_un, PR_cond, PR_lenS, PR_extr, PR_guard, PR_pick]
  refine w_box (flStripe x0) fun i2 i2E b1 => ?_
  refine lw_ld b1 (lenStripe x0) ?_
  refine lw_sz rfl (vcons (Vw_agg _ (flStripe x0)) (vcons (Vw_sc _ _) vnil)) (szF_Stripe (n + 21) (by omega) _ x0 k0 _ (by omega) (by omega)) (by omega) rfl fun b0 => ?_
  have c4 := cntvStripe (x0)
  have s3w : wtStripe x0 ≤ 1048576 := by omega
  have s3 := smwStripe x0 s3w
  have c5 := cntvStripe (vLock0 x0 x1)
  obtain ⟨s6w, s6⟩ := resF_Lock_0 x0 x1 (by omega)
  refine lw_ld b1 (lenStripe x0) ?_
  refine lm_agg rfl (vcons (Vw_agg _ (flStripe x0)) vnil) (toF_Stripe (n + 21) (by omega) x0 (by omega)) tyStripe fun y10 X8 N7 n9 a11 => ?_
  have o12 : i2 < N7 := by have := (List.getElem?_eq_some_iff.1 b1).1; omega
  replace b1 := blk_grow b1 X8
  refine lm_tup rfl (vcons (a11.vw (okWStripe 3 (x0))) (vcons (Vw_sc _ _) vnil)) (specF_Lock (n + 22) (by omega) x0 x1 k0 k1 (by omega)) rfl fun ys16 X14 N13 n15 a17 => ?_
  have o18 : i2 < N13 := by have := (List.getElem?_eq_some_iff.1 b1).1; omega
  replace b1 := blk_grow b1 X14
  obtain ⟨y19, ys20, rfl, a21, a22⟩ := a17.cons
  obtain ⟨y23, ys24, rfl, a25, a26⟩ := a22.cons
  obtain rfl := a26.nil
  refine lm_ex rfl ?_
  obtain ⟨ys27, rfl, a28⟩ := a21.agg tyStripe
  refine lm_ex rfl ?_
  obtain rfl := a25.sc
  refine lm_put rfl (a28.len.trans (lenStripe _)) (a28.leaf (flStripe _)) fun i30 i30E b29 => ?_
  have o31 : i2 < i30 := by have := (List.getElem?_eq_some_iff.1 b1).1; omega
  have o32 : N13 + nbL (encStripe (vLock0 x0 x1)) ≤ i30 := by have := a28.2.1; omega
  replace b1 := blk_grow b1 [⟨ys27, true, true⟩]
  replace a28 := a28.grow [⟨ys27, true, true⟩]
  refine lw_ld b1 (lenStripe x0) ?_
  refine lm_agg rfl (vcons (Vw_agg _ (flStripe x0)) vnil) (toF_Stripe (n + 21) (by omega) x0 (by omega)) tyStripe fun y36 X34 N33 n35 a37 => ?_
  have o38 : i2 < N33 := by have := (List.getElem?_eq_some_iff.1 b1).1; omega
  have o39 : N13 + nbL (encStripe (vLock0 x0 x1)) ≤ N33 := by have := a28.2.1; omega
  have o40 : i30 < N33 := by have := (List.getElem?_eq_some_iff.1 b29).1; omega
  replace b1 := blk_grow b1 X34
  replace a28 := a28.grow X34
  replace b29 := blk_grow b29 X34
  refine lm_put rfl (a37.len.trans (lenStripe _)) (a37.leaf (flStripe _)) fun i42 i42E b41 => ?_
  have o43 : i2 < i42 := by have := (List.getElem?_eq_some_iff.1 b1).1; omega
  have o44 : N13 + nbL (encStripe (vLock0 x0 x1)) ≤ i42 := by have := a28.2.1; omega
  have o45 : i30 < i42 := by have := (List.getElem?_eq_some_iff.1 b29).1; omega
  have o46 : N33 + nbL (encStripe (x0)) ≤ i42 := by have := a37.2.1; omega
  replace b1 := blk_grow b1 [⟨y36, true, true⟩]
  replace a28 := a28.grow [⟨y36, true, true⟩]
  replace b29 := blk_grow b29 [⟨y36, true, true⟩]
  replace a37 := a37.grow [⟨y36, true, true⟩]
  refine lw_ld b41 (a37.len.trans (lenStripe _)) ?_
  refine lm_tup rfl (vcons (a37.vw (okWStripe 3 (x0))) (vcons (Vw_sc _ _) vnil)) (implF_Lock (n + 22) (by omega) x0 x1 k0 k1 (by omega)) rfl fun ys50 X48 N47 n49 a51 => ?_
  have o52 : i2 < N47 := by have := (List.getElem?_eq_some_iff.1 b1).1; omega
  have o53 : N13 + nbL (encStripe (vLock0 x0 x1)) ≤ N47 := by have := a28.2.1; omega
  have o54 : i30 < N47 := by have := (List.getElem?_eq_some_iff.1 b29).1; omega
  have o55 : N33 + nbL (encStripe (x0)) ≤ N47 := by have := a37.2.1; omega
  have o56 : i42 < N47 := by have := (List.getElem?_eq_some_iff.1 b41).1; omega
  replace b1 := blk_grow b1 X48
  replace a28 := a28.grow X48
  replace b29 := blk_grow b29 X48
  replace a37 := a37.grow X48
  replace b41 := blk_grow b41 X48
  obtain ⟨y57, ys58, rfl, a59, a60⟩ := a51.cons
  obtain ⟨y61, ys62, rfl, a63, a64⟩ := a60.cons
  obtain rfl := a64.nil
  refine lm_ex rfl ?_
  obtain ⟨ys65, rfl, a66⟩ := a59.agg tyStripe
  refine lm_ex rfl ?_
  obtain rfl := a63.sc
  refine lm_put rfl (a66.len.trans (lenStripe _)) (a66.leaf (flStripe _)) fun i68 i68E b67 => ?_
  have o69 : i2 < i68 := by have := (List.getElem?_eq_some_iff.1 b1).1; omega
  have o70 : N13 + nbL (encStripe (vLock0 x0 x1)) ≤ i68 := by have := a28.2.1; omega
  have o71 : i30 < i68 := by have := (List.getElem?_eq_some_iff.1 b29).1; omega
  have o72 : N33 + nbL (encStripe (x0)) ≤ i68 := by have := a37.2.1; omega
  have o73 : i42 < i68 := by have := (List.getElem?_eq_some_iff.1 b41).1; omega
  have o74 : N47 + nbL (encStripe (vLock0 x0 x1)) ≤ i68 := by have := a66.2.1; omega
  replace b1 := blk_grow b1 [⟨ys65, true, true⟩]
  replace a28 := a28.grow [⟨ys65, true, true⟩]
  replace b29 := blk_grow b29 [⟨ys65, true, true⟩]
  replace a37 := a37.grow [⟨ys65, true, true⟩]
  replace b41 := blk_grow b41 [⟨ys65, true, true⟩]
  replace a66 := a66.grow [⟨ys65, true, true⟩]
  refine lw_ld b67 (a66.len.trans (lenStripe _)) ?_
  refine lw_ld b29 (a28.len.trans (lenStripe _)) ?_
  refine lm_eq rfl (vcons (a66.vw (okWStripe 3 (vLock0 x0 x1))) (vcons (a28.vw (okWStripe 3 (vLock0 x0 x1))) vnil)) (eqF_Stripe (n + 21) (by omega) _ (vLock0 x0 x1) s6w) ?_
  refine lm_not ?_
  refine lm_gf ?_
  refine lm_gf ?_
  refine lm_gf ?_
  refine lm_neB ?_
  refine lm_pk ?_
  refine lm_cf ?_
  refine lw_ld b41 (a37.len.trans (lenStripe _)) ?_
  refine lw_ld b1 (lenStripe x0) ?_
  refine lm_agg rfl (vcons (Vw_agg _ (flStripe x0)) vnil) (toF_Stripe (n + 21) (by omega) x0 (by omega)) tyStripe fun y78 X76 N75 n77 a79 => ?_
  have o80 : i2 < N75 := by have := (List.getElem?_eq_some_iff.1 b1).1; omega
  have o81 : N13 + nbL (encStripe (vLock0 x0 x1)) ≤ N75 := by have := a28.2.1; omega
  have o82 : i30 < N75 := by have := (List.getElem?_eq_some_iff.1 b29).1; omega
  have o83 : N33 + nbL (encStripe (x0)) ≤ N75 := by have := a37.2.1; omega
  have o84 : i42 < N75 := by have := (List.getElem?_eq_some_iff.1 b41).1; omega
  have o85 : N47 + nbL (encStripe (vLock0 x0 x1)) ≤ N75 := by have := a66.2.1; omega
  have o86 : i68 < N75 := by have := (List.getElem?_eq_some_iff.1 b67).1; omega
  replace b1 := blk_grow b1 X76
  replace a28 := a28.grow X76
  replace b29 := blk_grow b29 X76
  replace a37 := a37.grow X76
  replace b41 := blk_grow b41 X76
  replace a66 := a66.grow X76
  replace b67 := blk_grow b67 X76
  refine lm_eq rfl (vcons (a37.vw (okWStripe 3 (x0))) (vcons (a79.vw (okWStripe 3 (x0))) vnil)) (eqF_Stripe (n + 21) (by omega) _ (x0) s3w) ?_
  refine lm_not ?_
  refine lm_cf ?_
  refine lw_ld b41 (a37.len.trans (lenStripe _)) ?_
  refine lm_markv (mk_StripeV (n + 24) (by omega)) rfl a37 (wfvStripe _ s3) (by omega) (by omega) fun G87 a89 q88 => ?_
  replace b1 := blk_kept b1 q88 (by omega)
  replace a28 := a28.kept q88 (by omega)
  replace b29 := blk_kept b29 q88 (by omega)
  replace a66 := a66.kept q88 (by omega)
  replace b67 := blk_kept b67 q88 (by omega)
  refine lm_neg (by omega) ?_
  refine lm_gf ?_
  refine lw_ld b67 (a66.len.trans (lenStripe _)) ?_
  refine lm_gf ?_
  refine lw_ld b29 (a28.len.trans (lenStripe _)) ?_
  refine lm_gf ?_
  refine lm_eq rfl (vcons (a66.vw (okWStripe 3 (vLock0 x0 x1))) (vcons (a28.vw (okWStripe 3 (vLock0 x0 x1))) vnil)) (eqF_Stripe (n + 21) (by omega) _ (vLock0 x0 x1) s6w) ?_
  refine lm_gf ?_
  refine lm_not ?_
  refine lm_pk ?_
  refine lm_gf ?_
  refine lm_gf ?_
  refine lm_gf ?_
  refine lm_neB ?_
  refine lm_pk ?_
  refine lm_cf ?_
  refine lw_ld b67 (a66.len.trans (lenStripe _)) ?_
  refine lm_markv (mk_StripeV (n + 24) (by omega)) rfl a66 (wfvStripe _ s6) (by omega) (by omega) fun G90 a92 q91 => ?_
  replace b1 := blk_kept b1 q91 (by omega)
  replace a28 := a28.kept q91 (by omega)
  replace b29 := blk_kept b29 q91 (by omega)
  replace b67 := blk_kept b67 q91 (by omega)
  refine lw_ld b67 (a66.len.trans (lenStripe _)) ?_
  refine lm_heldv (hd_StripeV (n + 24) (by omega)) (a92.vw (okLW_mk7 _ _ (okWStripe 3 (vLock0 x0 x1)))) (wfvStripe _ s6) (by omega) (by omega) ?_
  refine lm_neI ?_
  refine lm_cf ?_
  refine lw_ld b1 (lenStripe x0) ?_
  refine lm_agg rfl (vcons (Vw_agg _ (flStripe x0)) vnil) (toF_Stripe (n + 21) (by omega) x0 (by omega)) tyStripe fun y96 X94 N93 n95 a97 => ?_
  have o98 : N13 + nbL (encStripe (vLock0 x0 x1)) ≤ N93 := by have := a28.2.1; omega
  have o99 : i30 < N93 := by have := (List.getElem?_eq_some_iff.1 b29).1; omega
  have o100 : N47 + nbL (encStripe (vLock0 x0 x1)) ≤ N93 := by have := a92.2.1; rw [mkL_nb] at this; omega
  have o101 : i68 < N93 := by have := (List.getElem?_eq_some_iff.1 b67).1; omega
  replace a28 := a28.grow X94
  replace b29 := blk_grow b29 X94
  replace a92 := a92.grow X94
  replace b67 := blk_grow b67 X94
  refine lm_tup rfl (vcons (a97.vw (okWStripe 3 (x0))) (vcons (Vw_sc _ _) vnil)) (implF_Lock (n + 22) (by omega) x0 x1 k0 k1 (by omega)) rfl fun ys105 X103 N102 n104 a106 => ?_
  have o107 : N13 + nbL (encStripe (vLock0 x0 x1)) ≤ N102 := by have := a28.2.1; omega
  have o108 : i30 < N102 := by have := (List.getElem?_eq_some_iff.1 b29).1; omega
  have o109 : N47 + nbL (encStripe (vLock0 x0 x1)) ≤ N102 := by have := a92.2.1; rw [mkL_nb] at this; omega
  have o110 : i68 < N102 := by have := (List.getElem?_eq_some_iff.1 b67).1; omega
  replace a28 := a28.grow X103
  replace b29 := blk_grow b29 X103
  replace a92 := a92.grow X103
  replace b67 := blk_grow b67 X103
  obtain ⟨y111, ys112, rfl, a113, a114⟩ := a106.cons
  obtain ⟨y115, ys116, rfl, a117, a118⟩ := a114.cons
  obtain rfl := a118.nil
  refine lm_ex rfl ?_
  obtain ⟨ys119, rfl, a120⟩ := a113.agg tyStripe
  refine lm_ex rfl ?_
  obtain rfl := a117.sc
  refine lm_put rfl (a120.len.trans (lenStripe _)) (a120.leaf (flStripe _)) fun i122 i122E b121 => ?_
  have o123 : N13 + nbL (encStripe (vLock0 x0 x1)) ≤ i122 := by have := a28.2.1; omega
  have o124 : i30 < i122 := by have := (List.getElem?_eq_some_iff.1 b29).1; omega
  have o125 : N47 + nbL (encStripe (vLock0 x0 x1)) ≤ i122 := by have := a92.2.1; rw [mkL_nb] at this; omega
  have o126 : i68 < i122 := by have := (List.getElem?_eq_some_iff.1 b67).1; omega
  have o127 : N102 + nbL (encStripe (vLock0 x0 x1)) ≤ i122 := by have := a120.2.1; omega
  replace a28 := a28.grow [⟨ys119, true, true⟩]
  replace b29 := blk_grow b29 [⟨ys119, true, true⟩]
  replace a92 := a92.grow [⟨ys119, true, true⟩]
  replace b67 := blk_grow b67 [⟨ys119, true, true⟩]
  replace a120 := a120.grow [⟨ys119, true, true⟩]
  refine lw_ld b121 (a120.len.trans (lenStripe _)) ?_
  refine lw_ld b29 (a28.len.trans (lenStripe _)) ?_
  refine lm_eq rfl (vcons (a120.vw (okWStripe 3 (vLock0 x0 x1))) (vcons (a28.vw (okWStripe 3 (vLock0 x0 x1))) vnil)) (eqF_Stripe (n + 21) (by omega) _ (vLock0 x0 x1) s6w) ?_
  refine lm_not ?_
  refine lm_gf ?_
  refine lm_gf ?_
  refine lm_gf ?_
  refine lm_neB ?_
  refine lm_pk ?_
  refine lm_cf ?_
  refine lw_ld b67 (a66.len.trans (lenStripe _)) ?_
  refine lm_heldv (hd_StripeV (n + 24) (by omega)) (a92.vw (okLW_mk7 _ _ (okWStripe 3 (vLock0 x0 x1)))) (wfvStripe _ s6) (by omega) (by omega) ?_
  refine lm_neI ?_
  refine lm_cf ?_
  rfl
end Go.Proofs.Ytfpmccedangjoaa.Abs
namespace Go.Proofs.Ytfpmccedangjoaa.fnExactLock
open Go Go.ChangeShapes Go.WideShapes Go.ChangeAt Go.RowKit
open Go.Proofs.Ytfpmccedangjoaa.Abs
set_option linter.unusedVariables false
theorem own : ownKnob Try.prog.godebug = none := by kernel_rfl
theorem laidOut : laidOutB Try.prog = true := by kernel_rfl
theorem types : ([24, 3].all (tyB ti0 14)) = true := by kernel_rfl
theorem readable : ([24, 3].all fun t => Try.prog.readableRec t && decide (t < Try.prog.types.size)) = true := by kernel_rfl

theorem pure_ {xs : List AV} (h : okAs ti0 14 [24, 3] xs) : ∃ n, tree E0 n 4 3 xs = some (.sc (.bool true)) := by
  obtain ⟨y0, ys0, rfl, ⟨cs0, h0, rfl⟩, h⟩ := h
  obtain ⟨y1, ys1, rfl, ⟨cs1, h1, rfl⟩, h⟩ := h
  obtain rfl := h
  obtain ⟨x0, rfl, k0⟩ := okT_Stripe h0
  obtain ⟨x1, rfl, k1⟩ := okT_int' h1
  exact ⟨_, law_Lock 1048577 (by omega) x0 x1 k0 k1⟩

set_option maxRecDepth 100000 in
theorem lifted (os : Os) (started : os.Started) (H : Type) (enc : TypeId × Value → H) :
    ReturnsInHanded {} Try.checked os 3 .any (Rows.fnExactLockSpec.pre6 enc Try.prog Try.f3 Rows.fnExactLockRow.domain false) (Rows.fnExactLockSpec.post enc Try.prog Try.f3 false true false false) := by
  refine returnsInHanded_of_change_sized (C := Try.checked) own started (by kernel_rfl) Try.func3
    (ChangeSpec.witness6 (enc := enc) (C := Try.checked) false ⟨#[], #[.agg #[.int .i64 0, .slice none 0 0], .int .i64 0], []⟩ 8 (by kernel_rfl) (by kernel_rfl) (by kernel_rfl) (by kernel_rfl)) ?_
  intro W base args ds gs before hval0 hW hcnd hsz0 _
  have hval : ∀ (j : Nat) t v, Try.f3.params[j]? = some t → args[j]? = some v → Value.okWide Try.prog W .any base t v := hval0
  have hW' := hW
  obtain ⟨p, q, hA0, hV, rfl, hfz, hnd⟩ := hW
  have hA : DataW.TrodAll enc Try.prog W 0 (fun _ => true) true Try.f3.params.toList args.toList ds p := hA0
  rw [Try.params3] at hA hval
  obtain ⟨xs, hok, hl, hx⟩ := args_sound tabOk0 (n := 14) [24, 3] args.toList ds p hA (fun j t v ht hv => hval j t v (by simpa using ht) (by simpa using hv)) types
  obtain ⟨m, hm⟩ := pure_ hok
  have hc := tree_bool env0 hm (w := W) trivial hl hx
  have hA1 := hA
  obtain ⟨v0, vs0, d0, ds0, p0, q0, hargs, rfl, rfl, g0, r0⟩ := trodAll_cons hA
  obtain ⟨v1, vs1, d1, ds1, p1, q1, rfl, rfl, rfl, g1, r1⟩ := trodAll_cons r0
  obtain ⟨rfl, rfl, rfl⟩ := trodAll_nil r1
  obtain ⟨rfl, rfl⟩ := trodVars_none hV
  have hc2 : Calls Try.prog 3 args W fun e W' => e = .returned (.bool true) ∧ Below W.heap.size W W' := by simpa using hc
  refine hc2.mono fun e W' ⟨he, bel⟩ => ?_
  subst he
  exact ⟨_, rfl, _, _, _, [], _, [], hW', trodAll_mk1 (shut_bool Try.underlying4 _), trodAll_stays laidOut bel readable hA1, rfl, bel.frame _, fun h => by cases h⟩
theorem over : Rows.fnExactLockRow.holds Try.pinned (OpenSpec.ofChange Rows.fnExactLockSpec) :=
  OpenClaim.holds_of_wide 3 Try.f3 rfl rfl rfl rfl rfl rfl rfl ⟨rfl, rfl, rfl, rfl, rfl⟩ rfl rfl rfl rfl rfl (by kernel_rfl) Try.func3 (by kernel_rfl)
    (of_decide_eq_true (by kernel_rfl)) (by unfold Func.isWrapper; first | (rw [if_pos (by decide +kernel)]; kernel_rfl) | (rw [if_neg (by decide +kernel)]; exact ⟨rfl, rfl⟩))
    (fun os started H enc _ => lifted os started H enc)
theorem proved : Rows.FnExactLockSaid := over
#print axioms proved
end Go.Proofs.Ytfpmccedangjoaa.fnExactLock
namespace Go.Proofs.Ytfpmccedangjoaa
/-- The row, under a short name, for the claim. -/
theorem fnExactLock_holds : Rows.FnExactLockSaid := fnExactLock.proved
end Go.Proofs.Ytfpmccedangjoaa
