/- The law FnExactEnds and its row: every input, no condition (written by laws.py). -/
import Derived.Test.YtgidofkechabbaaRows
import Derived.Test.YtgidofkechabbaaVEnds
import Derived.WalkKit
import Derived.ProofKit
import Derived.OpenShut
import Derived.ShutString
import Derived.ChangeOld
import Derived.Below
import Derived.SizedLaws
namespace Go.Proofs.Ytgidofkechabbaa.Abs
open Go
set_option linter.unusedVariables false
set_option linter.unusedSimpArgs false
theorem law_Ends (n : Nat) (hn : 1048576 < n) (x0 : List MsgV) (x1 : List MsgV) (k0 : (x0.length ≤ 9223372036854775807 ∧ ∀ z ∈ x0, okMsg z)) (k1 : (x1.length ≤ 9223372036854775807 ∧ ∀ z ∈ x1, okMsg z)) : tree E0 (n + 30) 4 8 [rowsC encMsg x0, rowsC encMsg x1] = some (.sc (.bool true)) := by
  rw [tree_def, f8_eq, f8]
  simp only [PR_box, PR_new, PR_load, PR_store, PR_bin, PR_binB, PR_un, PR_cond, PR_lenS]
  refine lw_sz rfl (vcons (Vw_ro _ _ _) (vcons (Vw_sc _ _) vnil)) (szF_MsgS (n + 26) (by omega) _ x0 k0.1 k0.2 _ (by omega) (by omega)) (by omega) rfl fun b0 => ?_
  refine lw_sz rfl (vcons (Vw_ro _ _ _) (vcons (Vw_sc _ _) vnil)) (szF_MsgS (n + 26) (by omega) _ x1 k1.1 k1.2 _ (by omega) (by omega)) (by omega) rfl fun b1 => ?_
  refine lw_tree rfl (vcons (Vw_ro _ _ _) vnil) (toF_MsgS (n + 26) (by omega) x0 (by omega)) (okW_rows (d := 7) lenMsg tyMsgS (okWMsg 5) x0) fun Xt21 yt21 wt21 => ?_
  refine lw_tree rfl (vcons (Vw_ro _ _ _) vnil) (toF_MsgS (n + 26) (by omega) x1 (by omega)) (okW_rows (d := 7) lenMsg tyMsgS (okWMsg 5) x1) fun Xt23 yt23 wt23 => ?_
  replace wt21 := wt21.grow Xt23
  refine lw_sc rfl (vcons wt21 (vcons wt23 vnil)) (specF_Ends (n + 25) (by omega) x0 x1 k0 k1 (by omega) (by omega)) ?_
  refine lw_tree rfl (vcons (Vw_ro _ _ _) vnil) (toF_MsgS (n + 26) (by omega) x0 (by omega)) (okW_rows (d := 7) lenMsg tyMsgS (okWMsg 5) x0) fun Xt26 yt26 wt26 => ?_
  replace wt21 := wt21.grow Xt26
  replace wt23 := wt23.grow Xt26
  refine lw_tree rfl (vcons (Vw_ro _ _ _) vnil) (toF_MsgS (n + 26) (by omega) x1 (by omega)) (okW_rows (d := 7) lenMsg tyMsgS (okWMsg 5) x1) fun Xt28 yt28 wt28 => ?_
  replace wt21 := wt21.grow Xt28
  replace wt23 := wt23.grow Xt28
  replace wt26 := wt26.grow Xt28
  refine lw_sc rfl (vcons wt26 (vcons wt28 vnil)) (implF_Ends (n + 23) (by omega) x0 x1 k0 k1 (by omega) (by omega)) ?_
  refine lw_neb ?_
  refine lw_tree rfl (vcons (Vw_ro _ _ _) vnil) (toF_MsgS (n + 26) (by omega) x0 (by omega)) (okW_rows (d := 7) lenMsg tyMsgS (okWMsg 5) x0) fun Xt37 yt37 wt37 => ?_
  replace wt21 := wt21.grow Xt37
  replace wt23 := wt23.grow Xt37
  replace wt26 := wt26.grow Xt37
  replace wt28 := wt28.grow Xt37
  refine lw_eq rfl (vcons wt26 (vcons wt37 vnil)) (eqF_MsgS (n + 26) (by omega) _ x0 (by omega)) ?_
  refine lw_tree rfl (vcons (Vw_ro _ _ _) vnil) (toF_MsgS (n + 26) (by omega) x1 (by omega)) (okW_rows (d := 7) lenMsg tyMsgS (okWMsg 5) x1) fun Xt42 yt42 wt42 => ?_
  replace wt21 := wt21.grow Xt42
  replace wt23 := wt23.grow Xt42
  replace wt26 := wt26.grow Xt42
  replace wt28 := wt28.grow Xt42
  replace wt37 := wt37.grow Xt42
  refine lw_eq rfl (vcons wt28 (vcons wt42 vnil)) (eqF_MsgS (n + 26) (by omega) _ x1 (by omega)) ?_
  rfl
end Go.Proofs.Ytgidofkechabbaa.Abs
namespace Go.Proofs.Ytgidofkechabbaa.fnExactEnds
open Go Go.ChangeShapes Go.WideShapes Go.ChangeAt Go.RowKit
open Go.Proofs.Ytgidofkechabbaa.Abs
set_option linter.unusedVariables false
theorem own : ownKnob Try.prog.godebug = none := by kernel_rfl
theorem laidOut : laidOutB Try.prog = true := by kernel_rfl
theorem types : ([45, 45].all (tyB ti0 14)) = true := by kernel_rfl
theorem readable : ([45, 45].all fun t => Try.prog.readableRec t && decide (t < Try.prog.types.size)) = true := by kernel_rfl

theorem pure_ {xs : List AV} (h : okAs ti0 14 [45, 45] xs) : ∃ n, tree E0 n 4 8 xs = some (.sc (.bool true)) := by
  obtain ⟨y0, ys0, rfl, ⟨cs0, h0, rfl⟩, h⟩ := h
  obtain ⟨y1, ys1, rfl, ⟨cs1, h1, rfl⟩, h⟩ := h
  obtain rfl := h
  obtain ⟨x0, rfl, k0⟩ := okT_rows (ok := okMsg) ⟨_, rfl, rfl, rfl, rfl, rfl, rfl⟩ (fun n cs h => okT_Msg h) h0
  obtain ⟨x1, rfl, k1⟩ := okT_rows (ok := okMsg) ⟨_, rfl, rfl, rfl, rfl, rfl, rfl⟩ (fun n cs h => okT_Msg h) h1
  exact ⟨_, law_Ends 1048577 (by omega) x0 x1 k0 k1⟩

set_option maxRecDepth 100000 in
theorem lifted (os : Os) (started : os.Started) (H : Type) (enc : TypeId × Value → H) :
    ReturnsInHanded {} Try.checked os 8 .any (Rows.fnExactEndsSpec.pre6 enc Try.prog Try.f8 Rows.fnExactEndsRow.domain false) (Rows.fnExactEndsSpec.post enc Try.prog Try.f8 false true false false) := by
  refine returnsInHanded_of_change_sized (C := Try.checked) own started (by kernel_rfl) Try.func8
    (ChangeSpec.witness6 (enc := enc) (C := Try.checked) false ⟨#[], #[.slice none 0 0, .slice none 0 0], []⟩ 8 (by kernel_rfl) (by kernel_rfl) (by kernel_rfl) (by kernel_rfl)) ?_
  intro W base args ds gs before hval0 hW hcnd hsz0 _
  have hval : ∀ (j : Nat) t v, Try.f8.params[j]? = some t → args[j]? = some v → Value.okWide Try.prog W .any base t v := hval0
  have hW' := hW
  obtain ⟨p, q, hA0, hV, rfl, hfz, hnd⟩ := hW
  have hA : DataW.TrodAll enc Try.prog W 0 (fun _ => true) true Try.f8.params.toList args.toList ds p := hA0
  rw [Try.params8] at hA hval
  obtain ⟨xs, hok, hl, hx⟩ := args_sound tabOk0 (n := 14) [45, 45] args.toList ds p hA (fun j t v ht hv => hval j t v (by simpa using ht) (by simpa using hv)) types
  obtain ⟨m, hm⟩ := pure_ hok
  have hc := tree_bool env0 hm hl hx
  have hA1 := hA
  obtain ⟨v0, vs0, d0, ds0, p0, q0, hargs, rfl, rfl, g0, r0⟩ := trodAll_cons hA
  obtain ⟨v1, vs1, d1, ds1, p1, q1, rfl, rfl, rfl, g1, r1⟩ := trodAll_cons r0
  obtain ⟨rfl, rfl, rfl⟩ := trodAll_nil r1
  obtain ⟨rfl, rfl⟩ := trodVars_none hV
  have hc2 : Calls Try.prog 8 args W fun e W' => e = .returned (.bool true) ∧ Below W.heap.size W W' := by simpa using hc
  refine hc2.mono fun e W' ⟨he, bel⟩ => ?_
  subst he
  exact ⟨_, rfl, _, _, _, [], _, [], hW', trodAll_mk1 (shut_bool Try.underlying4 _), trodAll_stays laidOut bel readable hA1, rfl, bel.frame _, fun h => by cases h⟩
theorem over : Rows.fnExactEndsRow.holds Try.pinned (OpenSpec.ofChange Rows.fnExactEndsSpec) :=
  OpenClaim.holds_of_wide 8 Try.f8 rfl rfl rfl rfl rfl rfl rfl ⟨rfl, rfl, rfl, rfl, rfl⟩ rfl rfl rfl rfl rfl (by kernel_rfl) Try.func8 (by kernel_rfl)
    (of_decide_eq_true (by kernel_rfl)) (by unfold Func.isWrapper; first | (rw [if_pos (by decide +kernel)]; kernel_rfl) | (rw [if_neg (by decide +kernel)]; exact ⟨rfl, rfl⟩))
    (fun os started H enc _ => lifted os started H enc)
theorem proved : Rows.FnExactEndsSaid := over
#print axioms proved
end Go.Proofs.Ytgidofkechabbaa.fnExactEnds
namespace Go.Proofs.Ytgidofkechabbaa
/-- The row, under a short name, for the claim. -/
theorem fnExactEnds_holds : Rows.FnExactEndsSaid := fnExactEnds.proved
end Go.Proofs.Ytgidofkechabbaa
