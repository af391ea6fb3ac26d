/- The law FnExactSameDeed and its row: every input, no condition (written by laws.py). -/
import Derived.Test.YtnkelipioodhjaaRows
import Derived.Test.YtnkelipioodhjaaVD
import Derived.WalkKit
import Derived.ProofKit
import Derived.OpenShut
import Derived.ShutString
import Derived.ChangeOld
import Derived.Below
import Derived.SizedLaws
namespace Go.Proofs.Ytnkelipioodhjaa.Abs
open Go
set_option linter.unusedVariables false
set_option linter.unusedSimpArgs false
theorem law_SameDeed (n : Nat) (hn : 1048576 < n) (x0 : DeedV) (x1 : DeedV) (k0 : okDeed x0) (k1 : okDeed x1) : tree E0 (n + 30) 4 10 [.agg (encDeed x0), .agg (encDeed x1)] = some (.sc (.bool true)) := by
  rw [tree_def, f10_eq, f10]
  simp only [PR_box, PR_new, PR_load, PR_store, PR_bin, PR_binB, PR_un, PR_cond, PR_lenS]
  refine lw_box (flDeed x0) fun it2 ht2 => ?_
  refine lw_box (flDeed x1) fun it3 ht3 => ?_
  replace ht2 := blk_grow ht2 [⟨encDeed x1, true, true⟩]
  refine lw_ld ht2 (lenDeed x0) ?_
  refine lw_sz rfl (vcons (Vw_agg _ (flDeed x0)) (vcons (Vw_sc _ _) vnil)) (szF_Deed (n + 25) (by omega) _ x0 k0 _ (by omega) (by omega)) (by omega) rfl fun b0 => ?_
  refine lw_ld ht3 (lenDeed x1) ?_
  refine lw_sz rfl (vcons (Vw_agg _ (flDeed x1)) (vcons (Vw_sc _ _) vnil)) (szF_Deed (n + 25) (by omega) _ x1 k1 _ (by omega) (by omega)) (by omega) rfl fun b1 => ?_
  refine lw_ld ht2 (lenDeed x0) ?_
  refine lw_ld ht3 (lenDeed x1) ?_
  refine lw_agg rfl (vcons (Vw_agg _ (flDeed x0)) vnil) (toF_Deed (n + 25) (by omega) x0 (by omega)) (flDeed x0) (okW_agg tyDeed (okWDeed 4 x0)) fun Xt21 yt21 lt21 et21 wt21 => ?_
  replace ht2 := blk_grow ht2 Xt21
  replace ht3 := blk_grow ht3 Xt21
  refine lw_agg rfl (vcons (Vw_agg _ (flDeed x1)) vnil) (toF_Deed (n + 25) (by omega) x1 (by omega)) (flDeed x1) (okW_agg tyDeed (okWDeed 4 x1)) fun Xt23 yt23 lt23 et23 wt23 => ?_
  replace ht2 := blk_grow ht2 Xt23
  replace ht3 := blk_grow ht3 Xt23
  replace wt21 := wt21.grow Xt23
  refine lw_sc rfl (vcons wt21 (vcons wt23 vnil)) (specF_SameDeed (n + 22) (by omega) x0 x1 k0 k1 (by omega) (by omega)) ?_
  refine lw_ld ht2 (lenDeed x0) ?_
  refine lw_agg rfl (vcons (Vw_agg _ (flDeed x0)) vnil) (toF_Deed (n + 25) (by omega) x0 (by omega)) (flDeed x0) (okW_agg tyDeed (okWDeed 4 x0)) fun Xt26 yt26 lt26 et26 wt26 => ?_
  replace ht2 := blk_grow ht2 Xt26
  replace ht3 := blk_grow ht3 Xt26
  replace wt21 := wt21.grow Xt26
  replace wt23 := wt23.grow Xt26
  refine lw_put rfl (lt26.trans (lenDeed x0)) et26 fun it7 ht7 => ?_
  replace ht2 := blk_grow ht2 [⟨yt26, true, true⟩]
  replace ht3 := blk_grow ht3 [⟨yt26, true, true⟩]
  replace wt21 := wt21.grow [⟨yt26, true, true⟩]
  replace wt23 := wt23.grow [⟨yt26, true, true⟩]
  replace wt26 := wt26.grow [⟨yt26, true, true⟩]
  refine lw_ld ht3 (lenDeed x1) ?_
  refine lw_agg rfl (vcons (Vw_agg _ (flDeed x1)) vnil) (toF_Deed (n + 25) (by omega) x1 (by omega)) (flDeed x1) (okW_agg tyDeed (okWDeed 4 x1)) fun Xt28 yt28 lt28 et28 wt28 => ?_
  replace ht2 := blk_grow ht2 Xt28
  replace ht3 := blk_grow ht3 Xt28
  replace wt21 := wt21.grow Xt28
  replace wt23 := wt23.grow Xt28
  replace wt26 := wt26.grow Xt28
  replace ht7 := blk_grow ht7 Xt28
  refine lw_put rfl (lt28.trans (lenDeed x1)) et28 fun it8 ht8 => ?_
  replace ht2 := blk_grow ht2 [⟨yt28, true, true⟩]
  replace ht3 := blk_grow ht3 [⟨yt28, true, true⟩]
  replace wt21 := wt21.grow [⟨yt28, true, true⟩]
  replace wt23 := wt23.grow [⟨yt28, true, true⟩]
  replace wt26 := wt26.grow [⟨yt28, true, true⟩]
  replace ht7 := blk_grow ht7 [⟨yt28, true, true⟩]
  replace wt28 := wt28.grow [⟨yt28, true, true⟩]
  refine lw_ld ht7 (lt26.trans (lenDeed x0)) ?_
  refine lw_ld ht8 (lt28.trans (lenDeed x1)) ?_
  refine lw_sc rfl (vcons wt26 (vcons wt28 vnil)) (implF_SameDeed (n + 22) (by omega) x0 x1 k0 k1 (by omega) (by omega)) ?_
  refine lw_neb ?_
  refine lw_ld ht7 (lt26.trans (lenDeed x0)) ?_
  refine lw_ld ht2 (lenDeed x0) ?_
  refine lw_agg rfl (vcons (Vw_agg _ (flDeed x0)) vnil) (toF_Deed (n + 25) (by omega) x0 (by omega)) (flDeed x0) (okW_agg tyDeed (okWDeed 4 x0)) fun Xt37 yt37 lt37 et37 wt37 => ?_
  replace ht2 := blk_grow ht2 Xt37
  replace ht3 := blk_grow ht3 Xt37
  replace wt21 := wt21.grow Xt37
  replace wt23 := wt23.grow Xt37
  replace wt26 := wt26.grow Xt37
  replace ht7 := blk_grow ht7 Xt37
  replace wt28 := wt28.grow Xt37
  replace ht8 := blk_grow ht8 Xt37
  refine lw_eq rfl (vcons wt26 (vcons wt37 vnil)) (eqF_Deed (n + 25) (by omega) _ x0 (by omega)) ?_
  refine lw_ld ht8 (lt28.trans (lenDeed x1)) ?_
  refine lw_ld ht3 (lenDeed x1) ?_
  refine lw_agg rfl (vcons (Vw_agg _ (flDeed x1)) vnil) (toF_Deed (n + 25) (by omega) x1 (by omega)) (flDeed x1) (okW_agg tyDeed (okWDeed 4 x1)) fun Xt42 yt42 lt42 et42 wt42 => ?_
  replace ht2 := blk_grow ht2 Xt42
  replace ht3 := blk_grow ht3 Xt42
  replace wt21 := wt21.grow Xt42
  replace wt23 := wt23.grow Xt42
  replace wt26 := wt26.grow Xt42
  replace ht7 := blk_grow ht7 Xt42
  replace wt28 := wt28.grow Xt42
  replace ht8 := blk_grow ht8 Xt42
  replace wt37 := wt37.grow Xt42
  refine lw_eq rfl (vcons wt28 (vcons wt42 vnil)) (eqF_Deed (n + 25) (by omega) _ x1 (by omega)) ?_
  rfl
end Go.Proofs.Ytnkelipioodhjaa.Abs
namespace Go.Proofs.Ytnkelipioodhjaa.fnExactSameDeed
open Go Go.ChangeShapes Go.WideShapes Go.ChangeAt Go.RowKit
open Go.Proofs.Ytnkelipioodhjaa.Abs
set_option linter.unusedVariables false
theorem own : ownKnob Try.prog.godebug = none := by kernel_rfl
theorem laidOut : laidOutB Try.prog = true := by kernel_rfl
theorem types : ([73, 73].all (tyB ti0 14)) = true := by kernel_rfl
theorem readable : ([73, 73].all fun t => Try.prog.readableRec t && decide (t < Try.prog.types.size)) = true := by kernel_rfl

theorem pure_ {xs : List AV} (h : okAs ti0 14 [73, 73] xs) : ∃ n, tree E0 n 4 10 xs = some (.sc (.bool true)) := by
  obtain ⟨y0, ys0, rfl, ⟨cs0, h0, rfl⟩, h⟩ := h
  obtain ⟨y1, ys1, rfl, ⟨cs1, h1, rfl⟩, h⟩ := h
  obtain rfl := h
  obtain ⟨x0, rfl, k0⟩ := okT_Deed h0
  obtain ⟨x1, rfl, k1⟩ := okT_Deed h1
  exact ⟨_, law_SameDeed 1048577 (by omega) x0 x1 k0 k1⟩

set_option maxRecDepth 100000 in
theorem lifted (os : Os) (started : os.Started) (H : Type) (enc : TypeId × Value → H) :
    ReturnsInHanded {} Try.checked os 10 .any (Rows.fnExactSameDeedSpec.pre6 enc Try.prog Try.f10 Rows.fnExactSameDeedRow.domain false) (Rows.fnExactSameDeedSpec.post enc Try.prog Try.f10 false true false false) := by
  refine returnsInHanded_of_change_sized (C := Try.checked) own started (by kernel_rfl) Try.func10
    (ChangeSpec.witness6 (enc := enc) (C := Try.checked) false ⟨#[], #[.agg #[.int .i64 0, .int .i64 0, .int .i64 0, .string ⟨#[]⟩, .int .i64 0, .bool false, .int .i64 0, .bool false, .int .i64 0, .string ⟨#[]⟩, .slice none 0 0, .string ⟨#[]⟩, .int .i64 0, .bool false, .int .i64 0, .bool false, .string ⟨#[]⟩, .slice none 0 0, .int .i64 0, .bool false, .bool false, .string ⟨#[]⟩, .bool false, .slice none 0 0, .int .i64 0, .bool false, .slice none 0 0, .slice none 0 0, .slice none 0 0, .int .i64 0, .int .i64 0, .int .i64 0, .bool false, .int .i64 0, .int .i64 0, .bool false, .bool false, .slice none 0 0, .slice none 0 0, .slice none 0 0], .agg #[.int .i64 0, .int .i64 0, .int .i64 0, .string ⟨#[]⟩, .int .i64 0, .bool false, .int .i64 0, .bool false, .int .i64 0, .string ⟨#[]⟩, .slice none 0 0, .string ⟨#[]⟩, .int .i64 0, .bool false, .int .i64 0, .bool false, .string ⟨#[]⟩, .slice none 0 0, .int .i64 0, .bool false, .bool false, .string ⟨#[]⟩, .bool false, .slice none 0 0, .int .i64 0, .bool false, .slice none 0 0, .slice none 0 0, .slice none 0 0, .int .i64 0, .int .i64 0, .int .i64 0, .bool false, .int .i64 0, .int .i64 0, .bool false, .bool false, .slice none 0 0, .slice none 0 0, .slice none 0 0]], []⟩ 8 (by kernel_rfl) (by kernel_rfl) (by kernel_rfl) (by kernel_rfl)) ?_
  intro W base args ds gs before hval0 hW hcnd hsz0 _
  have hval : ∀ (j : Nat) t v, Try.f10.params[j]? = some t → args[j]? = some v → Value.okWide Try.prog W .any base t v := hval0
  have hW' := hW
  obtain ⟨p, q, hA0, hV, rfl, hfz, hnd⟩ := hW
  have hA : DataW.TrodAll enc Try.prog W 0 (fun _ => true) true Try.f10.params.toList args.toList ds p := hA0
  rw [Try.params10] at hA hval
  obtain ⟨xs, hok, hl, hx⟩ := args_sound tabOk0 (n := 14) [73, 73] args.toList ds p hA (fun j t v ht hv => hval j t v (by simpa using ht) (by simpa using hv)) types
  obtain ⟨m, hm⟩ := pure_ hok
  have hc := tree_bool env0 hm hl hx
  have hA1 := hA
  obtain ⟨v0, vs0, d0, ds0, p0, q0, hargs, rfl, rfl, g0, r0⟩ := trodAll_cons hA
  obtain ⟨v1, vs1, d1, ds1, p1, q1, rfl, rfl, rfl, g1, r1⟩ := trodAll_cons r0
  obtain ⟨rfl, rfl, rfl⟩ := trodAll_nil r1
  obtain ⟨rfl, rfl⟩ := trodVars_none hV
  have hc2 : Calls Try.prog 10 args W fun e W' => e = .returned (.bool true) ∧ Below W.heap.size W W' := by simpa using hc
  refine hc2.mono fun e W' ⟨he, bel⟩ => ?_
  subst he
  exact ⟨_, rfl, _, _, _, [], _, [], hW', trodAll_mk1 (shut_bool Try.underlying4 _), trodAll_stays laidOut bel readable hA1, rfl, bel.frame _, fun h => by cases h⟩
theorem over : Rows.fnExactSameDeedRow.holds Try.pinned (OpenSpec.ofChange Rows.fnExactSameDeedSpec) :=
  OpenClaim.holds_of_wide 10 Try.f10 rfl rfl rfl rfl rfl rfl rfl ⟨rfl, rfl, rfl, rfl, rfl⟩ rfl rfl rfl rfl rfl (by kernel_rfl) Try.func10 (by kernel_rfl)
    (of_decide_eq_true (by kernel_rfl)) (by unfold Func.isWrapper; first | (rw [if_pos (by decide +kernel)]; kernel_rfl) | (rw [if_neg (by decide +kernel)]; exact ⟨rfl, rfl⟩))
    (fun os started H enc _ => lifted os started H enc)
theorem proved : Rows.FnExactSameDeedSaid := over
#print axioms proved
end Go.Proofs.Ytnkelipioodhjaa.fnExactSameDeed
namespace Go.Proofs.Ytnkelipioodhjaa
/-- The row, under a short name, for the claim. -/
theorem fnExactSameDeed_holds : Rows.FnExactSameDeedSaid := fnExactSameDeed.proved
end Go.Proofs.Ytnkelipioodhjaa
