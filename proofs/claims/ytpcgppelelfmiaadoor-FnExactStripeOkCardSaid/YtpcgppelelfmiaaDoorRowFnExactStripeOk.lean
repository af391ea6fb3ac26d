/- The law FnExactStripeOk and its row: every input, no condition (written by laws.py). -/
import Derived.Test.YtpcgppelelfmiaaDoorRows
import Derived.Test.YtpcgppelelfmiaaDoorVS
import Derived.Test.YtpcgppelelfmiaaDoorTie
import Derived.Test.YtpcgppelelfmiaaDoorCards
import Derived.Lib.LaidIn
import Derived.Lib.LaidU8T
import Derived.PinnedBridge
import Derived.SevenTiedAt
import Derived.Deep.DeepHandedRow
import Derived.Deep.DeepWitnessRowRef
import Derived.WalkKit
import Derived.ProofKit
import Derived.OpenShut
import Derived.ShutString
import Derived.ChangeOld
import Derived.Below
import Derived.SizedLaws
namespace Go.Proofs.YtpcgppelelfmiaaDoor.Abs
open Go
set_option linter.unusedVariables false
set_option linter.unusedSimpArgs false
theorem law_StripeOk (n : Nat) (hn : 1048576 < n) (x0 : StripeV) (x1 : Int) (k0 : okStripe x0) (k1 : okI x1) : tree E0 (n + 30) 4 8 [.agg (encStripe x0), .sc (.int .i64 x1)] = some (.sc (.bool true)) := by
  rw [tree_def, f8_eq, f8]
  simp only [PR_box, PR_new, PR_load, PR_store, PR_bin, PR_binB, PR_un, PR_cond, PR_lenS]
  refine lw_box (flStripe x0) fun it2 ht2 => ?_
  refine lw_ld ht2 (lenStripe x0) ?_
  refine lw_sz rfl (vcons (Vw_agg _ (flStripe x0)) (vcons (Vw_sc _ _) vnil)) (szF_Stripe (n + 21) (by omega) _ x0 k0 _ (by omega) (by omega)) (by omega) rfl fun b0 => ?_
  refine lw_ld ht2 (lenStripe x0) ?_
  refine lw_agg rfl (vcons (Vw_agg _ (flStripe x0)) vnil) (toF_Stripe (n + 21) (by omega) x0 (by omega)) (flStripe x0) (okW_agg tyStripe (okWStripe 3 x0)) fun Xt15 yt15 lt15 et15 wt15 => ?_
  replace ht2 := blk_grow ht2 Xt15
  refine lw_sc rfl (vcons wt15 (vcons (Vw_sc _ _) vnil)) (specF_StripeOk (n + 17) (by omega) x0 x1 k0 k1 (by omega)) ?_
  refine lw_ld ht2 (lenStripe x0) ?_
  refine lw_agg rfl (vcons (Vw_agg _ (flStripe x0)) vnil) (toF_Stripe (n + 21) (by omega) x0 (by omega)) (flStripe x0) (okW_agg tyStripe (okWStripe 3 x0)) fun Xt19 yt19 lt19 et19 wt19 => ?_
  replace ht2 := blk_grow ht2 Xt19
  replace wt15 := wt15.grow Xt19
  refine lw_put rfl (lt19.trans (lenStripe x0)) et19 fun it7 ht7 => ?_
  replace ht2 := blk_grow ht2 [⟨yt19, true, true⟩]
  replace wt15 := wt15.grow [⟨yt19, true, true⟩]
  replace wt19 := wt19.grow [⟨yt19, true, true⟩]
  refine lw_ld ht7 (lt19.trans (lenStripe x0)) ?_
  refine lw_sc rfl (vcons wt19 (vcons (Vw_sc _ _) vnil)) (implF_StripeOk (n + 17) (by omega) x0 x1 k0 k1 (by omega)) ?_
  refine lw_neb ?_
  refine lw_ld ht7 (lt19.trans (lenStripe x0)) ?_
  refine lw_ld ht2 (lenStripe x0) ?_
  refine lw_agg rfl (vcons (Vw_agg _ (flStripe x0)) vnil) (toF_Stripe (n + 21) (by omega) x0 (by omega)) (flStripe x0) (okW_agg tyStripe (okWStripe 3 x0)) fun Xt28 yt28 lt28 et28 wt28 => ?_
  replace ht2 := blk_grow ht2 Xt28
  replace wt15 := wt15.grow Xt28
  replace wt19 := wt19.grow Xt28
  replace ht7 := blk_grow ht7 Xt28
  refine lw_eq rfl (vcons wt19 (vcons wt28 vnil)) (eqF_Stripe (n + 21) (by omega) _ x0 (by omega)) ?_
  rfl
end Go.Proofs.YtpcgppelelfmiaaDoor.Abs
namespace Go.Proofs.YtpcgppelelfmiaaDoor.fnExactStripeOk
open Go Go.Shelf Go.Lib Go.ChangeShapes Go.WideShapes Go.ChangeAt Go.RowKit
open Go.Proofs.YtpcgppelelfmiaaDoor.Abs
set_option linter.unusedVariables false
theorem own : ownKnob Tryd.prog.godebug = none := by kernel_rfl
theorem laidOut : laidOutB Tryd.prog = true := by kernel_rfl
theorem types : ([61, 3].all (tyB ti0 14)) = true := by kernel_rfl
theorem readable : ([61, 3].all fun t => Tryd.prog.readableRec t && decide (t < Tryd.prog.types.size)) = true := by kernel_rfl

theorem pure_ {xs : List AV} (h : okAs ti0 14 [61, 3] xs) : ∃ n, tree E0 n 4 8 xs = some (.sc (.bool true)) := by
  obtain ⟨y0, ys0, rfl, ⟨cs0, h0, rfl⟩, h⟩ := h
  obtain ⟨y1, ys1, rfl, ⟨cs1, h1, rfl⟩, h⟩ := h
  obtain rfl := h
  obtain ⟨x0, rfl, k0⟩ := okT_Stripe h0
  obtain ⟨x1, rfl, k1⟩ := okT_int' h1
  exact ⟨_, law_StripeOk 1048577 (by omega) x0 x1 k0 k1⟩

def wArgs : Array Value := #[.agg #[.int .i64 0, .slice none 0 0], .int .i64 0]
/-- THE WITNESS: the settled world, the two variables holding what their initialisers lay. -/
noncomputable def laidWorld (os : Os) : World :=
  let w0 := World.holding Tryd.prog os ⟨#[], #[], []⟩
  let put (h : Array Obj) (g : Nat) (cs : Array Value) : Array Obj := h.modify g fun
    | .cells _ t frozen => .cells cs t frozen
    | o => o
  let h1 := put w0.heap 0 (Lib.firstTab.map fun z => Value.int .u8 z).toArray
  let h2 := put h1 1 ((List.range 16).flatMap fun i => [Value.int .u8 (Lib.accLo i), Value.int .u8 (Lib.accHi i)]).toArray
  { w0 with heap := h2 }
theorem laid_met (os : Os) (args : Array Value) : laidMet Tryd.prog Rows.fnExactStripeOkRow.laid ((laidWorld os).forCall (fun _ _ => 0) ⟨#[], args, []⟩).memory :=
  (LaidIn.of_run (l := Rows.fnExactStripeOkRow.laid) [0, 1] 8 (by kernel_rfl) (by kernel_rfl) (by kernel_rfl) (by kernel_rfl)).met

set_option maxRecDepth 100000 in
theorem witness_row (os : Os) {H : Type} (enc : TypeId × Value → H) :
    (OpenSpec.ofChange Rows.fnExactStripeOkSpec).preRow enc Tryd.prog Tryd.f8 Rows.fnExactStripeOkRow.domain false Rows.fnExactStripeOkRow.laid ((laidWorld os).forCall (fun _ _ => 0) ⟨#[], wArgs, []⟩).memory wArgs := by
  have hw : ((DataW.whole enc Tryd.prog ((laidWorld os).forCall (fun _ _ => 0) ⟨#[], wArgs, []⟩).memory Tryd.f8.params.toList (OpenSpec.ofChange Rows.fnExactStripeOkSpec).vars false wArgs.toList 8).map (fun x => x.2.1)) = some [] := by kernel_rfl
  obtain ⟨⟨x1, x2, x3⟩, hx, hx1⟩ := Option.map_eq_some_iff.1 hw
  simp only at hx1
  subst hx1
  exact OpenSpec.preRow_of_cond 8 hx rfl (fun k hk => by cases hk) rfl (laid_met os _)

set_option maxRecDepth 100000 in
set_option maxHeartbeats 2000000 in
theorem lifted (os : Os) (started : os.Started) (H : Type) (enc : TypeId × Value → H) (F : Stop.Interp) :
    ReturnsInHanded {} Tryd.checked os 8 .any ((OpenSpec.ofChange Rows.fnExactStripeOkSpec).preRow enc Tryd.prog Tryd.f8 Rows.fnExactStripeOkRow.domain false Rows.fnExactStripeOkRow.laid) (((OpenSpec.ofChange Rows.fnExactStripeOkSpec).at F).post enc Tryd.prog Tryd.f8 false true false false) := by
  refine returnsInHanded_of_row (C := Tryd.checked) (s := OpenSpec.ofChange Rows.fnExactStripeOkSpec) own started (by kernel_rfl) Tryd.func8
    (witness_row_atRef (enc := enc) (C := Tryd.checked) false (laidWorld os) wArgs rfl (by kernel_rfl) (by kernel_rfl) (by kernel_rfl) (witness_row os enc)) ?_
  intro W base args ds gs before hval0 hW _ _ _ hL hS _
  have hval : ∀ (j : Nat) t v, Tryd.f8.params[j]? = some t → args[j]? = some v → Value.okWide Tryd.prog W .any base t v := hval0
  have hW' := hW
  obtain ⟨p, q, hA0, hV, rfl, hfz, hnd⟩ := hW
  have hA : DataW.TrodAll enc Tryd.prog W 0 (fun _ => true) true Tryd.f8.params.toList args.toList ds p := hA0
  rw [Tryd.params8] at hA hval
  obtain ⟨xs, hok, hl, hx⟩ := args_sound tabOk0 (n := 14) [61, 3] args.toList ds p hA (fun j t v ht hv => hval j t v (by simpa using ht) (by simpa using hv)) types
  obtain ⟨m, hm⟩ := pure_ hok
  have htab0 := utf8Tabs_of_readsT (U8Types.of196 Tryd.laysValid) ⟨by kernel_rfl, by kernel_rfl, by kernel_rfl, by kernel_rfl, by kernel_rfl, by kernel_rfl, by kernel_rfl⟩ (Pinned.utf8First_eq ▸ Lib.laidMet.reads hL (.tail _ (.head _))) (Lib.laidMet.reads hL (.head _))
  have htab : J0 W := ⟨htab0, cell_of_shapedOpen_int (zero := #[.int .i64 0]) hS (of_decide_eq_true (by kernel_rfl)) (by kernel_rfl) rfl (by kernel_rfl) (by kernel_rfl) Tryd.underlying3⟩
  have hc := tree_bool env0 hm (w := W) htab hl hx
  have hA1 := hA
  obtain ⟨v0, vs0, d0, ds0, p0, q0, hargs, rfl, rfl, g0, r0⟩ := trodAll_cons hA
  obtain ⟨v1, vs1, d1, ds1, p1, q1, rfl, rfl, rfl, g1, r1⟩ := trodAll_cons r0
  obtain ⟨rfl, rfl, rfl⟩ := trodAll_nil r1
  obtain ⟨rfl, rfl⟩ := trodVars_none hV
  have hc2 : Calls Tryd.prog 8 args W fun e W' => e = .returned (.bool true) ∧ Below W.heap.size W W' := by simpa using hc
  refine hc2.mono fun e W' ⟨he, bel⟩ => ?_
  subst he
  exact ⟨_, rfl, _, _, _, [], _, [], hW', trodAll_mk1 (shut_bool Tryd.underlying4 _), trodAll_stays laidOut bel readable hA1, rfl, bel.frame _, fun h => by cases h⟩
theorem over : Rows.FnExactStripeOkSaid :=
  OpenClaim.holds_of_cond 8 Tryd.f8 rfl rfl rfl rfl rfl rfl rfl ⟨rfl, rfl, rfl, rfl, rfl⟩ rfl rfl rfl rfl rfl (by kernel_rfl) Tryd.func8 (by kernel_rfl)
    (of_decide_eq_true (by kernel_rfl)) (by unfold Func.isWrapper; first | (rw [if_pos (by decide +kernel)]; kernel_rfl) | (rw [if_neg (by decide +kernel)]; exact ⟨rfl, rfl⟩))
    (fun os started H enc _ F0 => by rw [OpenClaim.pre_eq_preRow]; exact lifted os started H enc F0)
theorem proved : Rows.FnExactStripeOkCardSaid :=
  Claim7.holds_tied_plain_at .later [] [.data, .pinned] true (true, "c84ce17db33febd21c2827f1e7d13c8175474d27014ac2792a825cf7931b1ffb") false
    over (fun _ h => by cases h) (by kernel_rfl) (fun _ h => by cases h) fnExactStripeOk_row_tie rfl ⟨rfl, rfl⟩ (by kernel_rfl) rfl
    (fun f fn hf hfn => by
      obtain rfl : f = 8 := Option.some.inj ((show Tryd.prog.funcNamed "loop.example/g00480/laws.FnExactStripeOk" = some 8 by kernel_rfl).symm.trans hf) |>.symm
      obtain rfl : fn = Tryd.f8 := (Option.some.inj (Tryd.func8.symm.trans hfn)).symm
      exact ⟨by kernel_rfl, fun j t ht => by
        rw [Tryd.params8] at ht
        have hm : t ∈ [61, 3] := by simpa using Array.mem_of_getElem? ht
        have hall : ([61, 3].all fun u => !Tryd.prog.wantsStandIn u) = true := by kernel_rfl
        exact (show Tryd.prog.wantsStandIn t = false by simpa using List.all_eq_true.1 hall t hm)⟩)
    (by kernel_rfl)
#print axioms proved
end Go.Proofs.YtpcgppelelfmiaaDoor.fnExactStripeOk
namespace Go.Proofs.YtpcgppelelfmiaaDoor
/-- The card, under a short name, for the claim. -/
theorem fnExactStripeOk_holds : Rows.FnExactStripeOkCardSaid := fnExactStripeOk.proved
end Go.Proofs.YtpcgppelelfmiaaDoor
