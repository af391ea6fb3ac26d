/- The law FnExactSessAt and its row: every input, no condition (written by laws.py). -/
import Derived.Test.YtnkelipioodhjaaRows
import Derived.Test.YtnkelipioodhjaaVB
import Derived.WalkKit
import Derived.ProofKit
import Derived.OpenShut
import Derived.ShutString
import Derived.ChangeOld
import Derived.Below
import Derived.SizedLaws
namespace Go.Proofs.Ytnkelipioodhjaa.Abs
open Go
set_option linter.unusedVariables false
set_option linter.unusedSimpArgs false
theorem law_SessAt (n : Nat) (hn : 1048576 < n) (x0 : StripeV) (x1 : ByteArray) (k0 : okStripe x0) (k1 : okS x1) : tree E0 (n + 30) 4 3 [.agg (encStripe x0), .sc (.string x1)] = some (.sc (.bool true)) := by
  rw [tree_def, f3_eq, f3]
  simp only [PR_box, PR_new, PR_load, PR_store, PR_bin, PR_binB, PR_un, PR_cond, PR_lenS]
  refine lw_box (flStripe x0) fun it2 ht2 => ?_
  refine lw_str rfl fun b1 => ?_
  refine lw_ld ht2 (lenStripe x0) ?_
  refine lw_sz rfl (vcons (Vw_agg _ (flStripe x0)) (vcons (Vw_sc _ _) vnil)) (szF_Stripe (n + 21) (by omega) _ x0 k0 _ (by omega) (by omega)) (by omega) rfl fun b0 => ?_
  refine lw_ld ht2 (lenStripe x0) ?_
  refine lw_agg rfl (vcons (Vw_agg _ (flStripe x0)) vnil) (toF_Stripe (n + 21) (by omega) x0 (by omega)) (flStripe x0) (okW_agg tyStripe (okWStripe 3 x0)) fun Xt18 yt18 lt18 et18 wt18 => ?_
  replace ht2 := blk_grow ht2 Xt18
  refine lw_sc rfl (vcons wt18 (vcons (Vw_sc _ _) vnil)) (specF_SessAt (n + 28) (by omega) x0 x1 k0 k1 (by omega) (by omega)) ?_
  refine lw_ld ht2 (lenStripe x0) ?_
  refine lw_agg rfl (vcons (Vw_agg _ (flStripe x0)) vnil) (toF_Stripe (n + 21) (by omega) x0 (by omega)) (flStripe x0) (okW_agg tyStripe (okWStripe 3 x0)) fun Xt22 yt22 lt22 et22 wt22 => ?_
  replace ht2 := blk_grow ht2 Xt22
  replace wt18 := wt18.grow Xt22
  refine lw_put rfl (lt22.trans (lenStripe x0)) et22 fun it7 ht7 => ?_
  replace ht2 := blk_grow ht2 [⟨yt22, true, true⟩]
  replace wt18 := wt18.grow [⟨yt22, true, true⟩]
  replace wt22 := wt22.grow [⟨yt22, true, true⟩]
  refine lw_ld ht7 (lt22.trans (lenStripe x0)) ?_
  refine lw_sc rfl (vcons wt22 (vcons (Vw_sc _ _) vnil)) (implF_SessAt (n + 26) (by omega) x0 x1 k0 k1 (by omega) (by omega)) ?_
  refine lw_nei ?_
  refine lw_ld ht7 (lt22.trans (lenStripe x0)) ?_
  refine lw_ld ht2 (lenStripe x0) ?_
  refine lw_agg rfl (vcons (Vw_agg _ (flStripe x0)) vnil) (toF_Stripe (n + 21) (by omega) x0 (by omega)) (flStripe x0) (okW_agg tyStripe (okWStripe 3 x0)) fun Xt31 yt31 lt31 et31 wt31 => ?_
  replace ht2 := blk_grow ht2 Xt31
  replace wt18 := wt18.grow Xt31
  replace wt22 := wt22.grow Xt31
  replace ht7 := blk_grow ht7 Xt31
  refine lw_eq rfl (vcons wt22 (vcons wt31 vnil)) (eqF_Stripe (n + 21) (by omega) _ x0 (by omega)) ?_
  rfl
end Go.Proofs.Ytnkelipioodhjaa.Abs
namespace Go.Proofs.Ytnkelipioodhjaa.fnExactSessAt
open Go Go.ChangeShapes Go.WideShapes Go.ChangeAt Go.RowKit
open Go.Proofs.Ytnkelipioodhjaa.Abs
set_option linter.unusedVariables false
theorem own : ownKnob Try.prog.godebug = none := by kernel_rfl
theorem laidOut : laidOutB Try.prog = true := by kernel_rfl
theorem types : ([24, 9].all (tyB ti0 14)) = true := by kernel_rfl
theorem readable : ([24, 9].all fun t => Try.prog.readableRec t && decide (t < Try.prog.types.size)) = true := by kernel_rfl

theorem pure_ {xs : List AV} (h : okAs ti0 14 [24, 9] xs) : ∃ n, tree E0 n 4 3 xs = some (.sc (.bool true)) := by
  obtain ⟨y0, ys0, rfl, ⟨cs0, h0, rfl⟩, h⟩ := h
  obtain ⟨y1, ys1, rfl, ⟨cs1, h1, rfl⟩, h⟩ := h
  obtain rfl := h
  obtain ⟨x0, rfl, k0⟩ := okT_Stripe h0
  obtain ⟨x1, rfl, k1⟩ := okT_str' h1
  exact ⟨_, law_SessAt 1048577 (by omega) x0 x1 k0 k1⟩

set_option maxRecDepth 100000 in
theorem lifted (os : Os) (started : os.Started) (H : Type) (enc : TypeId × Value → H) :
    ReturnsInHanded {} Try.checked os 3 .any (Rows.fnExactSessAtSpec.pre6 enc Try.prog Try.f3 Rows.fnExactSessAtRow.domain false) (Rows.fnExactSessAtSpec.post enc Try.prog Try.f3 false true false false) := by
  refine returnsInHanded_of_change_sized (C := Try.checked) own started (by kernel_rfl) Try.func3
    (ChangeSpec.witness6 (enc := enc) (C := Try.checked) false ⟨#[], #[.agg #[.int .i64 0, .slice none 0 0], .string ⟨#[]⟩], []⟩ 8 (by kernel_rfl) (by kernel_rfl) (by kernel_rfl) (by kernel_rfl)) ?_
  intro W base args ds gs before hval0 hW hcnd hsz0 _
  have hval : ∀ (j : Nat) t v, Try.f3.params[j]? = some t → args[j]? = some v → Value.okWide Try.prog W .any base t v := hval0
  have hW' := hW
  obtain ⟨p, q, hA0, hV, rfl, hfz, hnd⟩ := hW
  have hA : DataW.TrodAll enc Try.prog W 0 (fun _ => true) true Try.f3.params.toList args.toList ds p := hA0
  rw [Try.params3] at hA hval
  obtain ⟨xs, hok, hl, hx⟩ := args_sound tabOk0 (n := 14) [24, 9] args.toList ds p hA (fun j t v ht hv => hval j t v (by simpa using ht) (by simpa using hv)) types
  obtain ⟨m, hm⟩ := pure_ hok
  have hc := tree_bool env0 hm hl hx
  have hA1 := hA
  obtain ⟨v0, vs0, d0, ds0, p0, q0, hargs, rfl, rfl, g0, r0⟩ := trodAll_cons hA
  obtain ⟨v1, vs1, d1, ds1, p1, q1, rfl, rfl, rfl, g1, r1⟩ := trodAll_cons r0
  obtain ⟨rfl, rfl, rfl⟩ := trodAll_nil r1
  obtain ⟨rfl, rfl⟩ := trodVars_none hV
  have hc2 : Calls Try.prog 3 args W fun e W' => e = .returned (.bool true) ∧ Below W.heap.size W W' := by simpa using hc
  refine hc2.mono fun e W' ⟨he, bel⟩ => ?_
  subst he
  exact ⟨_, rfl, _, _, _, [], _, [], hW', trodAll_mk1 (shut_bool Try.underlying4 _), trodAll_stays laidOut bel readable hA1, rfl, bel.frame _, fun h => by cases h⟩
theorem over : Rows.fnExactSessAtRow.holds Try.pinned (OpenSpec.ofChange Rows.fnExactSessAtSpec) :=
  OpenClaim.holds_of_wide 3 Try.f3 rfl rfl rfl rfl rfl rfl rfl ⟨rfl, rfl, rfl, rfl, rfl⟩ rfl rfl rfl rfl rfl (by kernel_rfl) Try.func3 (by kernel_rfl)
    (of_decide_eq_true (by kernel_rfl)) (by unfold Func.isWrapper; first | (rw [if_pos (by decide +kernel)]; kernel_rfl) | (rw [if_neg (by decide +kernel)]; exact ⟨rfl, rfl⟩))
    (fun os started H enc _ => lifted os started H enc)
theorem proved : Rows.FnExactSessAtSaid := over
#print axioms proved
end Go.Proofs.Ytnkelipioodhjaa.fnExactSessAt
namespace Go.Proofs.Ytnkelipioodhjaa
/-- The row, under a short name, for the claim. -/
theorem fnExactSessAt_holds : Rows.FnExactSessAtSaid := fnExactSessAt.proved
end Go.Proofs.Ytnkelipioodhjaa
