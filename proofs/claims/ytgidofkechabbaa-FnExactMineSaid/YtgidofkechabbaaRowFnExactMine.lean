/- The law FnExactMine and its row: every input, no condition (written by laws.py). -/
import Derived.Test.YtgidofkechabbaaRows
import Derived.Test.YtgidofkechabbaaVMine
import Derived.WalkKit
import Derived.ProofKit
import Derived.OpenShut
import Derived.ShutString
import Derived.ChangeOld
import Derived.Below
import Derived.SizedLaws
namespace Go.Proofs.Ytgidofkechabbaa.Abs
open Go
set_option linter.unusedVariables false
set_option linter.unusedSimpArgs false
theorem law_Mine (n : Nat) (hn : 1048576 < n) (x0 : SessV) (x1 : Int) (x2 : Int) (k0 : okSess x0) (k1 : okI x1) (k2 : okI x2) : tree E0 (n + 30) 4 10 [.agg (encSess x0), .sc (.int .i64 x1), .sc (.int .i64 x2)] = some (.sc (.bool true)) := by
  rw [tree_def, f10_eq, f10]
  simp only [PR_box, PR_new, PR_load, PR_store, PR_bin, PR_binB, PR_un, PR_cond, PR_lenS]
  refine lw_box (flSess x0) fun it3 ht3 => ?_
  refine lw_ld ht3 (lenSess x0) ?_
  refine lw_sz rfl (vcons (Vw_agg _ (flSess x0)) (vcons (Vw_sc _ _) vnil)) (szF_Sess (n + 23) (by omega) _ x0 k0 _ (by omega) (by omega)) (by omega) rfl fun b0 => ?_
  refine lw_ld ht3 (lenSess x0) ?_
  refine lw_agg rfl (vcons (Vw_agg _ (flSess x0)) vnil) (toF_Sess (n + 23) (by omega) x0 (by omega)) (flSess x0) (okW_agg tySess (okWSess 4 x0)) fun Xt17 yt17 lt17 et17 wt17 => ?_
  replace ht3 := blk_grow ht3 Xt17
  refine lw_sc rfl (vcons wt17 (vcons (Vw_sc _ _) (vcons (Vw_sc _ _) vnil))) (specF_Mine (n + 27) (by omega) x0 x1 x2 k0 k1 k2 (by omega)) ?_
  refine lw_ld ht3 (lenSess x0) ?_
  refine lw_agg rfl (vcons (Vw_agg _ (flSess x0)) vnil) (toF_Sess (n + 23) (by omega) x0 (by omega)) (flSess x0) (okW_agg tySess (okWSess 4 x0)) fun Xt22 yt22 lt22 et22 wt22 => ?_
  replace ht3 := blk_grow ht3 Xt22
  replace wt17 := wt17.grow Xt22
  refine lw_put rfl (lt22.trans (lenSess x0)) et22 fun it9 ht9 => ?_
  replace ht3 := blk_grow ht3 [⟨yt22, true, true⟩]
  replace wt17 := wt17.grow [⟨yt22, true, true⟩]
  replace wt22 := wt22.grow [⟨yt22, true, true⟩]
  refine lw_ld ht9 (lt22.trans (lenSess x0)) ?_
  refine lw_sc rfl (vcons wt22 (vcons (Vw_sc _ _) (vcons (Vw_sc _ _) vnil))) (implF_Mine (n + 27) (by omega) x0 x1 x2 k0 k1 k2 (by omega)) ?_
  refine lw_neb ?_
  refine lw_ld ht9 (lt22.trans (lenSess x0)) ?_
  refine lw_ld ht3 (lenSess x0) ?_
  refine lw_agg rfl (vcons (Vw_agg _ (flSess x0)) vnil) (toF_Sess (n + 23) (by omega) x0 (by omega)) (flSess x0) (okW_agg tySess (okWSess 4 x0)) fun Xt32 yt32 lt32 et32 wt32 => ?_
  replace ht3 := blk_grow ht3 Xt32
  replace wt17 := wt17.grow Xt32
  replace wt22 := wt22.grow Xt32
  replace ht9 := blk_grow ht9 Xt32
  refine lw_eq rfl (vcons wt22 (vcons wt32 vnil)) (eqF_Sess (n + 23) (by omega) _ x0 (by omega)) ?_
  rfl
end Go.Proofs.Ytgidofkechabbaa.Abs
namespace Go.Proofs.Ytgidofkechabbaa.fnExactMine
open Go Go.ChangeShapes Go.WideShapes Go.ChangeAt Go.RowKit
open Go.Proofs.Ytgidofkechabbaa.Abs
set_option linter.unusedVariables false
theorem own : ownKnob Try.prog.godebug = none := by kernel_rfl
theorem laidOut : laidOutB Try.prog = true := by kernel_rfl
theorem types : ([60, 3, 3].all (tyB ti0 14)) = true := by kernel_rfl
theorem readable : ([60, 3, 3].all fun t => Try.prog.readableRec t && decide (t < Try.prog.types.size)) = true := by kernel_rfl

theorem pure_ {xs : List AV} (h : okAs ti0 14 [60, 3, 3] xs) : ∃ n, tree E0 n 4 10 xs = some (.sc (.bool true)) := by
  obtain ⟨y0, ys0, rfl, ⟨cs0, h0, rfl⟩, h⟩ := h
  obtain ⟨y1, ys1, rfl, ⟨cs1, h1, rfl⟩, h⟩ := h
  obtain ⟨y2, ys2, rfl, ⟨cs2, h2, rfl⟩, h⟩ := h
  obtain rfl := h
  obtain ⟨x0, rfl, k0⟩ := okT_Sess h0
  obtain ⟨x1, rfl, k1⟩ := okT_int' h1
  obtain ⟨x2, rfl, k2⟩ := okT_int' h2
  exact ⟨_, law_Mine 1048577 (by omega) x0 x1 x2 k0 k1 k2⟩

set_option maxRecDepth 100000 in
theorem lifted (os : Os) (started : os.Started) (H : Type) (enc : TypeId × Value → H) :
    ReturnsInHanded {} Try.checked os 10 .any (Rows.fnExactMineSpec.pre6 enc Try.prog Try.f10 Rows.fnExactMineRow.domain false) (Rows.fnExactMineSpec.post enc Try.prog Try.f10 false true false false) := by
  refine returnsInHanded_of_change_sized (C := Try.checked) own started (by kernel_rfl) Try.func10
    (ChangeSpec.witness6 (enc := enc) (C := Try.checked) false ⟨#[], #[.agg #[.string ⟨#[]⟩, .int .i64 0, .bool false, .int .i64 0, .int .i64 0, .int .i64 0, .slice none 0 0, .slice none 0 0, .slice none 0 0], .int .i64 0, .int .i64 0], []⟩ 8 (by kernel_rfl) (by kernel_rfl) (by kernel_rfl) (by kernel_rfl)) ?_
  intro W base args ds gs before hval0 hW hcnd hsz0 _
  have hval : ∀ (j : Nat) t v, Try.f10.params[j]? = some t → args[j]? = some v → Value.okWide Try.prog W .any base t v := hval0
  have hW' := hW
  obtain ⟨p, q, hA0, hV, rfl, hfz, hnd⟩ := hW
  have hA : DataW.TrodAll enc Try.prog W 0 (fun _ => true) true Try.f10.params.toList args.toList ds p := hA0
  rw [Try.params10] at hA hval
  obtain ⟨xs, hok, hl, hx⟩ := args_sound tabOk0 (n := 14) [60, 3, 3] args.toList ds p hA (fun j t v ht hv => hval j t v (by simpa using ht) (by simpa using hv)) types
  obtain ⟨m, hm⟩ := pure_ hok
  have hc := tree_bool env0 hm hl hx
  have hA1 := hA
  obtain ⟨v0, vs0, d0, ds0, p0, q0, hargs, rfl, rfl, g0, r0⟩ := trodAll_cons hA
  obtain ⟨v1, vs1, d1, ds1, p1, q1, rfl, rfl, rfl, g1, r1⟩ := trodAll_cons r0
  obtain ⟨v2, vs2, d2, ds2, p2, q2, rfl, rfl, rfl, g2, r2⟩ := trodAll_cons r1
  obtain ⟨rfl, rfl, rfl⟩ := trodAll_nil r2
  obtain ⟨rfl, rfl⟩ := trodVars_none hV
  have hc2 : Calls Try.prog 10 args W fun e W' => e = .returned (.bool true) ∧ Below W.heap.size W W' := by simpa using hc
  refine hc2.mono fun e W' ⟨he, bel⟩ => ?_
  subst he
  exact ⟨_, rfl, _, _, _, [], _, [], hW', trodAll_mk1 (shut_bool Try.underlying4 _), trodAll_stays laidOut bel readable hA1, rfl, bel.frame _, fun h => by cases h⟩
theorem over : Rows.fnExactMineRow.holds Try.pinned (OpenSpec.ofChange Rows.fnExactMineSpec) :=
  OpenClaim.holds_of_wide 10 Try.f10 rfl rfl rfl rfl rfl rfl rfl ⟨rfl, rfl, rfl, rfl, rfl⟩ rfl rfl rfl rfl rfl (by kernel_rfl) Try.func10 (by kernel_rfl)
    (of_decide_eq_true (by kernel_rfl)) (by unfold Func.isWrapper; first | (rw [if_pos (by decide +kernel)]; kernel_rfl) | (rw [if_neg (by decide +kernel)]; exact ⟨rfl, rfl⟩))
    (fun os started H enc _ => lifted os started H enc)
theorem proved : Rows.FnExactMineSaid := over
#print axioms proved
end Go.Proofs.Ytgidofkechabbaa.fnExactMine
namespace Go.Proofs.Ytgidofkechabbaa
/-- The row, under a short name, for the claim. -/
theorem fnExactMine_holds : Rows.FnExactMineSaid := fnExactMine.proved
end Go.Proofs.Ytgidofkechabbaa
