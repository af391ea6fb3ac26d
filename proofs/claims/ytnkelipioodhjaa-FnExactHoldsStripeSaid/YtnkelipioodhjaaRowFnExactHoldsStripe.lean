/- The law FnExactHoldsStripe and its row: every input, no condition (written by laws.py). -/
import Derived.Test.YtnkelipioodhjaaRows
import Derived.Test.YtnkelipioodhjaaVC
import Derived.WalkKit
import Derived.ProofKit
import Derived.OpenShut
import Derived.ShutString
import Derived.ChangeOld
import Derived.Below
import Derived.SizedLaws
namespace Go.Proofs.Ytnkelipioodhjaa.Abs
open Go
set_option linter.unusedVariables false
set_option linter.unusedSimpArgs false
theorem law_HoldsStripe (n : Nat) (hn : 1048576 < n) (x0 : TaskV) (k0 : okTask x0) : tree E0 (n + 30) 4 7 [.agg (encTask x0)] = some (.sc (.bool true)) := by
  rw [tree_def, f7_eq, f7]
  simp only [PR_box, PR_new, PR_load, PR_store, PR_bin, PR_binB, PR_un, PR_cond, PR_lenS]
  refine lw_box (flTask x0) fun it1 ht1 => ?_
  refine lw_ld ht1 (lenTask x0) ?_
  refine lw_sz rfl (vcons (Vw_agg _ (flTask x0)) (vcons (Vw_sc _ _) vnil)) (szF_Task (n + 25) (by omega) _ x0 k0 _ (by omega) (by omega)) (by omega) rfl fun b0 => ?_
  refine lw_ld ht1 (lenTask x0) ?_
  refine lw_agg rfl (vcons (Vw_agg _ (flTask x0)) vnil) (toF_Task (n + 25) (by omega) x0 (by omega)) (flTask x0) (okW_agg tyTask (okWTask 4 x0)) fun Xt13 yt13 lt13 et13 wt13 => ?_
  replace ht1 := blk_grow ht1 Xt13
  refine lw_sc rfl (vcons wt13 vnil) (specF_HoldsStripe (n + 26) (by omega) x0 k0 (by omega)) ?_
  refine lw_ld ht1 (lenTask x0) ?_
  refine lw_agg rfl (vcons (Vw_agg _ (flTask x0)) vnil) (toF_Task (n + 25) (by omega) x0 (by omega)) (flTask x0) (okW_agg tyTask (okWTask 4 x0)) fun Xt16 yt16 lt16 et16 wt16 => ?_
  replace ht1 := blk_grow ht1 Xt16
  replace wt13 := wt13.grow Xt16
  refine lw_put rfl (lt16.trans (lenTask x0)) et16 fun it5 ht5 => ?_
  replace ht1 := blk_grow ht1 [⟨yt16, true, true⟩]
  replace wt13 := wt13.grow [⟨yt16, true, true⟩]
  replace wt16 := wt16.grow [⟨yt16, true, true⟩]
  refine lw_ld ht5 (lt16.trans (lenTask x0)) ?_
  refine lw_sc rfl (vcons wt16 vnil) (implF_HoldsStripe (n + 26) (by omega) x0 k0 (by omega)) ?_
  refine lw_nei ?_
  refine lw_ld ht5 (lt16.trans (lenTask x0)) ?_
  refine lw_ld ht1 (lenTask x0) ?_
  refine lw_agg rfl (vcons (Vw_agg _ (flTask x0)) vnil) (toF_Task (n + 25) (by omega) x0 (by omega)) (flTask x0) (okW_agg tyTask (okWTask 4 x0)) fun Xt24 yt24 lt24 et24 wt24 => ?_
  replace ht1 := blk_grow ht1 Xt24
  replace wt13 := wt13.grow Xt24
  replace wt16 := wt16.grow Xt24
  replace ht5 := blk_grow ht5 Xt24
  refine lw_eq rfl (vcons wt16 (vcons wt24 vnil)) (eqF_Task (n + 25) (by omega) _ x0 (by omega)) ?_
  rfl
end Go.Proofs.Ytnkelipioodhjaa.Abs
namespace Go.Proofs.Ytnkelipioodhjaa.fnExactHoldsStripe
open Go Go.ChangeShapes Go.WideShapes Go.ChangeAt Go.RowKit
open Go.Proofs.Ytnkelipioodhjaa.Abs
set_option linter.unusedVariables false
theorem own : ownKnob Try.prog.godebug = none := by kernel_rfl
theorem laidOut : laidOutB Try.prog = true := by kernel_rfl
theorem types : ([59].all (tyB ti0 14)) = true := by kernel_rfl
theorem readable : ([59].all fun t => Try.prog.readableRec t && decide (t < Try.prog.types.size)) = true := by kernel_rfl

theorem pure_ {xs : List AV} (h : okAs ti0 14 [59] xs) : ∃ n, tree E0 n 4 7 xs = some (.sc (.bool true)) := by
  obtain ⟨y0, ys0, rfl, ⟨cs0, h0, rfl⟩, h⟩ := h
  obtain rfl := h
  obtain ⟨x0, rfl, k0⟩ := okT_Task h0
  exact ⟨_, law_HoldsStripe 1048577 (by omega) x0 k0⟩

set_option maxRecDepth 100000 in
theorem lifted (os : Os) (started : os.Started) (H : Type) (enc : TypeId × Value → H) :
    ReturnsInHanded {} Try.checked os 7 .any (Rows.fnExactHoldsStripeSpec.pre6 enc Try.prog Try.f7 Rows.fnExactHoldsStripeRow.domain false) (Rows.fnExactHoldsStripeSpec.post enc Try.prog Try.f7 false true false false) := by
  refine returnsInHanded_of_change_sized (C := Try.checked) own started (by kernel_rfl) Try.func7
    (ChangeSpec.witness6 (enc := enc) (C := Try.checked) false ⟨#[], #[.agg #[.int .i64 0, .int .i64 0, .string ⟨#[]⟩, .int .i64 0, .bool false, .int .i64 0, .bool false, .int .i64 0, .string ⟨#[]⟩, .slice none 0 0, .string ⟨#[]⟩, .int .i64 0, .bool false, .int .i64 0, .bool false, .string ⟨#[]⟩, .slice none 0 0, .int .i64 0, .bool false, .bool false, .string ⟨#[]⟩, .bool false, .slice none 0 0, .int .i64 0, .bool false, .slice none 0 0, .slice none 0 0, .slice none 0 0, .slice none 0 0, .string ⟨#[]⟩, .slice none 0 0, .int .i64 0, .bool false, .slice none 0 0, .int .i64 0]], []⟩ 8 (by kernel_rfl) (by kernel_rfl) (by kernel_rfl) (by kernel_rfl)) ?_
  intro W base args ds gs before hval0 hW hcnd hsz0 _
  have hval : ∀ (j : Nat) t v, Try.f7.params[j]? = some t → args[j]? = some v → Value.okWide Try.prog W .any base t v := hval0
  have hW' := hW
  obtain ⟨p, q, hA0, hV, rfl, hfz, hnd⟩ := hW
  have hA : DataW.TrodAll enc Try.prog W 0 (fun _ => true) true Try.f7.params.toList args.toList ds p := hA0
  rw [Try.params7] at hA hval
  obtain ⟨xs, hok, hl, hx⟩ := args_sound tabOk0 (n := 14) [59] args.toList ds p hA (fun j t v ht hv => hval j t v (by simpa using ht) (by simpa using hv)) types
  obtain ⟨m, hm⟩ := pure_ hok
  have hc := tree_bool env0 hm hl hx
  have hA1 := hA
  obtain ⟨v0, vs0, d0, ds0, p0, q0, hargs, rfl, rfl, g0, r0⟩ := trodAll_cons hA
  obtain ⟨rfl, rfl, rfl⟩ := trodAll_nil r0
  obtain ⟨rfl, rfl⟩ := trodVars_none hV
  have hc2 : Calls Try.prog 7 args W fun e W' => e = .returned (.bool true) ∧ Below W.heap.size W W' := by simpa using hc
  refine hc2.mono fun e W' ⟨he, bel⟩ => ?_
  subst he
  exact ⟨_, rfl, _, _, _, [], _, [], hW', trodAll_mk1 (shut_bool Try.underlying4 _), trodAll_stays laidOut bel readable hA1, rfl, bel.frame _, fun h => by cases h⟩
theorem over : Rows.fnExactHoldsStripeRow.holds Try.pinned (OpenSpec.ofChange Rows.fnExactHoldsStripeSpec) :=
  OpenClaim.holds_of_wide 7 Try.f7 rfl rfl rfl rfl rfl rfl rfl ⟨rfl, rfl, rfl, rfl, rfl⟩ rfl rfl rfl rfl rfl (by kernel_rfl) Try.func7 (by kernel_rfl)
    (of_decide_eq_true (by kernel_rfl)) (by unfold Func.isWrapper; first | (rw [if_pos (by decide +kernel)]; kernel_rfl) | (rw [if_neg (by decide +kernel)]; exact ⟨rfl, rfl⟩))
    (fun os started H enc _ => lifted os started H enc)
theorem proved : Rows.FnExactHoldsStripeSaid := over
#print axioms proved
end Go.Proofs.Ytnkelipioodhjaa.fnExactHoldsStripe
namespace Go.Proofs.Ytnkelipioodhjaa
/-- The row, under a short name, for the claim. -/
theorem fnExactHoldsStripe_holds : Rows.FnExactHoldsStripeSaid := fnExactHoldsStripe.proved
end Go.Proofs.Ytnkelipioodhjaa
