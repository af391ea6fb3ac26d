/- The law FnExactSessOk and its row: every input, no condition (written by laws.py). -/
import Derived.Test.YtpcgppelelfmiaaDoorRows
import Derived.Test.YtpcgppelelfmiaaDoorVS
import Derived.Test.YtpcgppelelfmiaaDoorTie
import Derived.Test.YtpcgppelelfmiaaDoorCards
import Derived.Lib.LaidIn
import Derived.Lib.LaidU8T
import Derived.PinnedBridge
import Derived.SevenTiedAt
import Derived.Deep.DeepHandedRow
import Derived.Deep.DeepWitnessRowRef
import Derived.WalkKit
import Derived.ProofKit
import Derived.OpenShut
import Derived.ShutString
import Derived.ChangeOld
import Derived.Below
import Derived.SizedLaws
namespace Go.Proofs.YtpcgppelelfmiaaDoor.Abs
open Go
set_option linter.unusedVariables false
set_option linter.unusedSimpArgs false
theorem law_SessOk (n : Nat) (hn : 1048576 < n) (x0 : SessV) (k0 : okSess x0) : tree E0 (n + 30) 4 7 [.agg (encSess x0)] = some (.sc (.bool true)) := by
  rw [tree_def, f7_eq, f7]
  simp only [PR_box, PR_new, PR_load, PR_store, PR_bin, PR_binB, PR_un, PR_cond, PR_lenS]
  refine lw_box (flSess x0) fun it1 ht1 => ?_
  refine lw_ld ht1 (lenSess x0) ?_
  refine lw_sz rfl (vcons (Vw_agg _ (flSess x0)) (vcons (Vw_sc _ _) vnil)) (szF_Sess (n + 23) (by omega) _ x0 k0 _ (by omega) (by omega)) (by omega) rfl fun b0 => ?_
  refine lw_ld ht1 (lenSess x0) ?_
  refine lw_agg rfl (vcons (Vw_agg _ (flSess x0)) vnil) (toF_Sess (n + 23) (by omega) x0 (by omega)) (flSess x0) (okW_agg tySess (okWSess 4 x0)) fun Xt13 yt13 lt13 et13 wt13 => ?_
  replace ht1 := blk_grow ht1 Xt13
  refine lw_sc rfl (vcons wt13 vnil) (specF_SessOk (n + 18) (by omega) x0 k0 (by omega)) ?_
  refine lw_ld ht1 (lenSess x0) ?_
  refine lw_agg rfl (vcons (Vw_agg _ (flSess x0)) vnil) (toF_Sess (n + 23) (by omega) x0 (by omega)) (flSess x0) (okW_agg tySess (okWSess 4 x0)) fun Xt16 yt16 lt16 et16 wt16 => ?_
  replace ht1 := blk_grow ht1 Xt16
  replace wt13 := wt13.grow Xt16
  refine lw_put rfl (lt16.trans (lenSess x0)) et16 fun it5 ht5 => ?_
  replace ht1 := blk_grow ht1 [⟨yt16, true, true⟩]
  replace wt13 := wt13.grow [⟨yt16, true, true⟩]
  replace wt16 := wt16.grow [⟨yt16, true, true⟩]
  refine lw_ld ht5 (lt16.trans (lenSess x0)) ?_
  refine lw_sc rfl (vcons wt16 vnil) (implF_SessOk (n + 18) (by omega) x0 k0 (by omega)) ?_
  refine lw_neb ?_
  refine lw_ld ht5 (lt16.trans (lenSess x0)) ?_
  refine lw_ld ht1 (lenSess x0) ?_
  refine lw_agg rfl (vcons (Vw_agg _ (flSess x0)) vnil) (toF_Sess (n + 23) (by omega) x0 (by omega)) (flSess x0) (okW_agg tySess (okWSess 4 x0)) fun Xt24 yt24 lt24 et24 wt24 => ?_
  replace ht1 := blk_grow ht1 Xt24
  replace wt13 := wt13.grow Xt24
  replace wt16 := wt16.grow Xt24
  replace ht5 := blk_grow ht5 Xt24
  refine lw_eq rfl (vcons wt16 (vcons wt24 vnil)) (eqF_Sess (n + 23) (by omega) _ x0 (by omega)) ?_
  rfl
end Go.Proofs.YtpcgppelelfmiaaDoor.Abs
namespace Go.Proofs.YtpcgppelelfmiaaDoor.fnExactSessOk
open Go Go.Shelf Go.Lib Go.ChangeShapes Go.WideShapes Go.ChangeAt Go.RowKit
open Go.Proofs.YtpcgppelelfmiaaDoor.Abs
set_option linter.unusedVariables false
theorem own : ownKnob Tryd.prog.godebug = none := by kernel_rfl
theorem laidOut : laidOutB Tryd.prog = true := by kernel_rfl
theorem types : ([51].all (tyB ti0 14)) = true := by kernel_rfl
theorem readable : ([51].all fun t => Tryd.prog.readableRec t && decide (t < Tryd.prog.types.size)) = true := by kernel_rfl

theorem pure_ {xs : List AV} (h : okAs ti0 14 [51] xs) : ∃ n, tree E0 n 4 7 xs = some (.sc (.bool true)) := by
  obtain ⟨y0, ys0, rfl, ⟨cs0, h0, rfl⟩, h⟩ := h
  obtain rfl := h
  obtain ⟨x0, rfl, k0⟩ := okT_Sess h0
  exact ⟨_, law_SessOk 1048577 (by omega) x0 k0⟩

def wArgs : Array Value := #[.agg #[.string ⟨#[]⟩, .int .i64 0, .bool false, .int .i64 0, .int .i64 0, .int .i64 0, .slice none 0 0, .slice none 0 0, .slice none 0 0]]
/-- THE WITNESS: the settled world, the two variables holding what their initialisers lay. -/
noncomputable def laidWorld (os : Os) : World :=
  let w0 := World.holding Tryd.prog os ⟨#[], #[], []⟩
  let put (h : Array Obj) (g : Nat) (cs : Array Value) : Array Obj := h.modify g fun
    | .cells _ t frozen => .cells cs t frozen
    | o => o
  let h1 := put w0.heap 0 (Lib.firstTab.map fun z => Value.int .u8 z).toArray
  let h2 := put h1 1 ((List.range 16).flatMap fun i => [Value.int .u8 (Lib.accLo i), Value.int .u8 (Lib.accHi i)]).toArray
  { w0 with heap := h2 }
theorem laid_met (os : Os) (args : Array Value) : laidMet Tryd.prog Rows.fnExactSessOkRow.laid ((laidWorld os).forCall (fun _ _ => 0) ⟨#[], args, []⟩).memory :=
  (LaidIn.of_run (l := Rows.fnExactSessOkRow.laid) [0, 1] 8 (by kernel_rfl) (by kernel_rfl) (by kernel_rfl) (by kernel_rfl)).met

set_option maxRecDepth 100000 in
theorem witness_row (os : Os) {H : Type} (enc : TypeId × Value → H) :
    (OpenSpec.ofChange Rows.fnExactSessOkSpec).preRow enc Tryd.prog Tryd.f7 Rows.fnExactSessOkRow.domain false Rows.fnExactSessOkRow.laid ((laidWorld os).forCall (fun _ _ => 0) ⟨#[], wArgs, []⟩).memory wArgs := by
  have hw : ((DataW.whole enc Tryd.prog ((laidWorld os).forCall (fun _ _ => 0) ⟨#[], wArgs, []⟩).memory Tryd.f7.params.toList (OpenSpec.ofChange Rows.fnExactSessOkSpec).vars false wArgs.toList 8).map (fun x => x.2.1)) = some [] := by kernel_rfl
  obtain ⟨⟨x1, x2, x3⟩, hx, hx1⟩ := Option.map_eq_some_iff.1 hw
  simp only at hx1
  subst hx1
  exact OpenSpec.preRow_of_cond 8 hx rfl (fun k hk => by cases hk) rfl (laid_met os _)

set_option maxRecDepth 100000 in
set_option maxHeartbeats 2000000 in
theorem lifted (os : Os) (started : os.Started) (H : Type) (enc : TypeId × Value → H) (F : Stop.Interp) :
    ReturnsInHanded {} Tryd.checked os 7 .any ((OpenSpec.ofChange Rows.fnExactSessOkSpec).preRow enc Tryd.prog Tryd.f7 Rows.fnExactSessOkRow.domain false Rows.fnExactSessOkRow.laid) (((OpenSpec.ofChange Rows.fnExactSessOkSpec).at F).post enc Tryd.prog Tryd.f7 false true false false) := by
  refine returnsInHanded_of_row (C := Tryd.checked) (s := OpenSpec.ofChange Rows.fnExactSessOkSpec) own started (by kernel_rfl) Tryd.func7
    (witness_row_atRef (enc := enc) (C := Tryd.checked) false (laidWorld os) wArgs rfl (by kernel_rfl) (by kernel_rfl) (by kernel_rfl) (witness_row os enc)) ?_
  intro W base args ds gs before hval0 hW _ _ _ hL hS _
  have hval : ∀ (j : Nat) t v, Tryd.f7.params[j]? = some t → args[j]? = some v → Value.okWide Tryd.prog W .any base t v := hval0
  have hW' := hW
  obtain ⟨p, q, hA0, hV, rfl, hfz, hnd⟩ := hW
  have hA : DataW.TrodAll enc Tryd.prog W 0 (fun _ => true) true Tryd.f7.params.toList args.toList ds p := hA0
  rw [Tryd.params7] at hA hval
  obtain ⟨xs, hok, hl, hx⟩ := args_sound tabOk0 (n := 14) [51] args.toList ds p hA (fun j t v ht hv => hval j t v (by simpa using ht) (by simpa using hv)) types
  obtain ⟨m, hm⟩ := pure_ hok
  have htab0 := utf8Tabs_of_readsT (U8Types.of196 Tryd.laysValid) ⟨by kernel_rfl, by kernel_rfl, by kernel_rfl, by kernel_rfl, by kernel_rfl, by kernel_rfl, by kernel_rfl⟩ (Pinned.utf8First_eq ▸ Lib.laidMet.reads hL (.tail _ (.head _))) (Lib.laidMet.reads hL (.head _))
  have htab : J0 W := ⟨htab0, cell_of_shapedOpen_int (zero := #[.int .i64 0]) hS (of_decide_eq_true (by kernel_rfl)) (by kernel_rfl) rfl (by kernel_rfl) (by kernel_rfl) Tryd.underlying3⟩
  have hc := tree_bool env0 hm (w := W) htab hl hx
  have hA1 := hA
  obtain ⟨v0, vs0, d0, ds0, p0, q0, hargs, rfl, rfl, g0, r0⟩ := trodAll_cons hA
  obtain ⟨rfl, rfl, rfl⟩ := trodAll_nil r0
  obtain ⟨rfl, rfl⟩ := trodVars_none hV
  have hc2 : Calls Tryd.prog 7 args W fun e W' => e = .returned (.bool true) ∧ Below W.heap.size W W' := by simpa using hc
  refine hc2.mono fun e W' ⟨he, bel⟩ => ?_
  subst he
  exact ⟨_, rfl, _, _, _, [], _, [], hW', trodAll_mk1 (shut_bool Tryd.underlying4 _), trodAll_stays laidOut bel readable hA1, rfl, bel.frame _, fun h => by cases h⟩
theorem over : Rows.FnExactSessOkSaid :=
  OpenClaim.holds_of_cond 7 Tryd.f7 rfl rfl rfl rfl rfl rfl rfl ⟨rfl, rfl, rfl, rfl, rfl⟩ rfl rfl rfl rfl rfl (by kernel_rfl) Tryd.func7 (by kernel_rfl)
    (of_decide_eq_true (by kernel_rfl)) (by unfold Func.isWrapper; first | (rw [if_pos (by decide +kernel)]; kernel_rfl) | (rw [if_neg (by decide +kernel)]; exact ⟨rfl, rfl⟩))
    (fun os started H enc _ F0 => by rw [OpenClaim.pre_eq_preRow]; exact lifted os started H enc F0)
theorem proved : Rows.FnExactSessOkCardSaid :=
  Claim7.holds_tied_plain_at .later [] [.data, .pinned] true (true, "c84ce17db33febd21c2827f1e7d13c8175474d27014ac2792a825cf7931b1ffb") false
    over (fun _ h => by cases h) (by kernel_rfl) (fun _ h => by cases h) fnExactSessOk_row_tie rfl ⟨rfl, rfl⟩ (by kernel_rfl) rfl
    (fun f fn hf hfn => by
      obtain rfl : f = 7 := Option.some.inj ((show Tryd.prog.funcNamed "loop.example/g00480/laws.FnExactSessOk" = some 7 by kernel_rfl).symm.trans hf) |>.symm
      obtain rfl : fn = Tryd.f7 := (Option.some.inj (Tryd.func7.symm.trans hfn)).symm
      exact ⟨by kernel_rfl, fun j t ht => by
        rw [Tryd.params7] at ht
        have hm : t ∈ [51] := by simpa using Array.mem_of_getElem? ht
        have hall : ([51].all fun u => !Tryd.prog.wantsStandIn u) = true := by kernel_rfl
        exact (show Tryd.prog.wantsStandIn t = false by simpa using List.all_eq_true.1 hall t hm)⟩)
    (by kernel_rfl)
#print axioms proved
end Go.Proofs.YtpcgppelelfmiaaDoor.fnExactSessOk
namespace Go.Proofs.YtpcgppelelfmiaaDoor
/-- The card, under a short name, for the claim. -/
theorem fnExactSessOk_holds : Rows.FnExactSessOkCardSaid := fnExactSessOk.proved
end Go.Proofs.YtpcgppelelfmiaaDoor
