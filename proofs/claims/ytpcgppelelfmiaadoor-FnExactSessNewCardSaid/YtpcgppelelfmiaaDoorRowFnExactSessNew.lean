/- The law FnExactSessNew and its row: every input, no condition (written by laws.py). -/
import Derived.Test.YtpcgppelelfmiaaDoorRows
import Derived.Test.YtpcgppelelfmiaaDoorVSessNew
import Derived.Test.YtpcgppelelfmiaaDoorMk
import Derived.Test.YtpcgppelelfmiaaDoorTie
import Derived.Test.YtpcgppelelfmiaaDoorCards
import Derived.Lib.LaidIn
import Derived.Lib.LaidU8T
import Derived.PinnedBridge
import Derived.SevenTiedAt
import Derived.Deep.DeepHandedRow
import Derived.Deep.DeepWitnessRowRef
import Derived.WalkKit
import Derived.ProofKit
import Derived.OpenShut
import Derived.ShutString
import Derived.ChangeOld
import Derived.Below
import Derived.SizedLaws
namespace Go.Proofs.YtpcgppelelfmiaaDoor.Abs
open Go
set_option linter.unusedVariables false
set_option linter.unusedSimpArgs false
theorem law_SessNew (n : Nat) (hn : 1048576 < n) (x0 : ByteArray) (x1 : Int) (x2 : Bool) (x3 : Int) (x4 : Int) (k0 : okS x0) (k1 : okI x1) (k2 : True) (k3 : okI x3) (k4 : okI x4) : tree E0 (n + 30) 4 11 [.sc (.string x0), .sc (.int .i64 x1), .sc (.bool x2), .sc (.int .i64 x3), .sc (.int .i64 x4)] = some (.sc (.bool true)) := by
  rw [tree_def, f11_eq, f11]
  simp only [PR_box, PR_new, PR_load, PR_store, PR_bin, PR_binB, PR_un, PR_cond, PR_lenS, PR_extr, PR_guard, PR_pick]
  refine lw_str rfl fun b0 => ?_
  have c1 := cntvSess (vSessNew x0 x1 x2 x3 x4)
  obtain ⟨s2w, s2⟩ := resF_SessNew_0 x0 x1 x2 x3 x4 (by omega)
  refine lm_agg rfl (vcons (Vw_sc _ _) (vcons (Vw_sc _ _) (vcons (Vw_sc _ _) (vcons (Vw_sc _ _) (vcons (Vw_sc _ _) vnil))))) (specF_SessNew (n + 17) (by omega) x0 x1 x2 x3 x4 k0 k1 k2 k3 k4 (by omega)) tySess fun y6 X4 N3 n5 a7 => ?_
  refine lm_put rfl (a7.len.trans (lenSess _)) (a7.leaf (flSess _)) fun i9 i9E B8 => ?_
  have o10 : N3 + nbL (encSess (vSessNew x0 x1 x2 x3 x4)) ≤ i9 := by have := a7.2.1; omega
  replace a7 := a7.grow [⟨y6, true, true⟩]
  refine lm_agg rfl (vcons (Vw_sc _ _) (vcons (Vw_sc _ _) (vcons (Vw_sc _ _) (vcons (Vw_sc _ _) (vcons (Vw_sc _ _) vnil))))) (implF_SessNew (n + 17) (by omega) x0 x1 x2 x3 x4 k0 k1 k2 k3 k4 (by omega)) tySess fun y14 X12 N11 n13 a15 => ?_
  have o16 : N3 + nbL (encSess (vSessNew x0 x1 x2 x3 x4)) ≤ N11 := by have := a7.2.1; omega
  have o17 : i9 < N11 := by have := (List.getElem?_eq_some_iff.1 B8).1; omega
  replace a7 := a7.grow X12
  replace B8 := blk_grow B8 X12
  refine lm_put rfl (a15.len.trans (lenSess _)) (a15.leaf (flSess _)) fun i19 i19E B18 => ?_
  have o20 : N3 + nbL (encSess (vSessNew x0 x1 x2 x3 x4)) ≤ i19 := by have := a7.2.1; omega
  have o21 : i9 < i19 := by have := (List.getElem?_eq_some_iff.1 B8).1; omega
  have o22 : N11 + nbL (encSess (vSessNew x0 x1 x2 x3 x4)) ≤ i19 := by have := a15.2.1; omega
  replace a7 := a7.grow [⟨y14, true, true⟩]
  replace B8 := blk_grow B8 [⟨y14, true, true⟩]
  replace a15 := a15.grow [⟨y14, true, true⟩]
  refine lw_ld B18 (a15.len.trans (lenSess _)) ?_
  refine lw_ld B8 (a7.len.trans (lenSess _)) ?_
  refine lm_eq rfl (vcons (a15.vw (okWSess 4 (vSessNew x0 x1 x2 x3 x4))) (vcons (a7.vw (okWSess 4 (vSessNew x0 x1 x2 x3 x4))) vnil)) (eqF_Sess (n + 23) (by omega) _ (vSessNew x0 x1 x2 x3 x4) s2w) ?_
  refine lm_not ?_
  refine lm_cf ?_
  refine lw_ld B18 (a15.len.trans (lenSess _)) ?_
  refine lm_markv (mk_SessV (n + 24) (by omega)) rfl a15 (wfvSess _ s2) (by omega) (by omega) fun G23 a25 q24 => ?_
  replace a7 := a7.kept q24 (by omega)
  replace B8 := blk_kept B8 q24 (by omega)
  replace B18 := blk_kept B18 q24 (by omega)
  refine lw_ld B18 (a15.len.trans (lenSess _)) ?_
  refine lm_heldv (hd_SessV (n + 24) (by omega)) (a25.vw (okLW_mk7 _ _ (okWSess 4 (vSessNew x0 x1 x2 x3 x4)))) (wfvSess _ s2) (by omega) (by omega) ?_
  refine lm_neI ?_
  refine lm_cf ?_
  refine lm_agg rfl (vcons (Vw_sc _ _) (vcons (Vw_sc _ _) (vcons (Vw_sc _ _) (vcons (Vw_sc _ _) (vcons (Vw_sc _ _) vnil))))) (implF_SessNew (n + 17) (by omega) x0 x1 x2 x3 x4 k0 k1 k2 k3 k4 (by omega)) tySess fun y29 X27 N26 n28 a30 => ?_
  have o31 : N3 + nbL (encSess (vSessNew x0 x1 x2 x3 x4)) ≤ N26 := by have := a7.2.1; omega
  have o32 : i9 < N26 := by have := (List.getElem?_eq_some_iff.1 B8).1; omega
  have o33 : N11 + nbL (encSess (vSessNew x0 x1 x2 x3 x4)) ≤ N26 := by have := a25.2.1; rw [mkL_nb] at this; omega
  have o34 : i19 < N26 := by have := (List.getElem?_eq_some_iff.1 B18).1; omega
  replace a7 := a7.grow X27
  replace B8 := blk_grow B8 X27
  replace a25 := a25.grow X27
  replace B18 := blk_grow B18 X27
  refine lm_put rfl (a30.len.trans (lenSess _)) (a30.leaf (flSess _)) fun i36 i36E B35 => ?_
  have o37 : N3 + nbL (encSess (vSessNew x0 x1 x2 x3 x4)) ≤ i36 := by have := a7.2.1; omega
  have o38 : i9 < i36 := by have := (List.getElem?_eq_some_iff.1 B8).1; omega
  have o39 : N11 + nbL (encSess (vSessNew x0 x1 x2 x3 x4)) ≤ i36 := by have := a25.2.1; rw [mkL_nb] at this; omega
  have o40 : i19 < i36 := by have := (List.getElem?_eq_some_iff.1 B18).1; omega
  have o41 : N26 + nbL (encSess (vSessNew x0 x1 x2 x3 x4)) ≤ i36 := by have := a30.2.1; omega
  replace a7 := a7.grow [⟨y29, true, true⟩]
  replace B8 := blk_grow B8 [⟨y29, true, true⟩]
  replace a25 := a25.grow [⟨y29, true, true⟩]
  replace B18 := blk_grow B18 [⟨y29, true, true⟩]
  replace a30 := a30.grow [⟨y29, true, true⟩]
  refine lw_ld B35 (a30.len.trans (lenSess _)) ?_
  refine lw_ld B8 (a7.len.trans (lenSess _)) ?_
  refine lm_eq rfl (vcons (a30.vw (okWSess 4 (vSessNew x0 x1 x2 x3 x4))) (vcons (a7.vw (okWSess 4 (vSessNew x0 x1 x2 x3 x4))) vnil)) (eqF_Sess (n + 23) (by omega) _ (vSessNew x0 x1 x2 x3 x4) s2w) ?_
  refine lm_not ?_
  refine lm_cf ?_
  refine lw_ld B18 (a15.len.trans (lenSess _)) ?_
  refine lm_heldv (hd_SessV (n + 24) (by omega)) (a25.vw (okLW_mk7 _ _ (okWSess 4 (vSessNew x0 x1 x2 x3 x4)))) (wfvSess _ s2) (by omega) (by omega) ?_
  refine lm_neI ?_
  refine lm_cf ?_
  rfl
end Go.Proofs.YtpcgppelelfmiaaDoor.Abs
namespace Go.Proofs.YtpcgppelelfmiaaDoor.fnExactSessNew
open Go Go.Shelf Go.Lib Go.ChangeShapes Go.WideShapes Go.ChangeAt Go.RowKit
open Go.Proofs.YtpcgppelelfmiaaDoor.Abs
set_option linter.unusedVariables false
theorem own : ownKnob Tryd.prog.godebug = none := by kernel_rfl
theorem laidOut : laidOutB Tryd.prog = true := by kernel_rfl
theorem types : ([9, 3, 4, 3, 3].all (tyB ti0 14)) = true := by kernel_rfl
theorem readable : ([9, 3, 4, 3, 3].all fun t => Tryd.prog.readableRec t && decide (t < Tryd.prog.types.size)) = true := by kernel_rfl

theorem pure_ {xs : List AV} (h : okAs ti0 14 [9, 3, 4, 3, 3] xs) : ∃ n, tree E0 n 4 11 xs = some (.sc (.bool true)) := by
  obtain ⟨y0, ys0, rfl, ⟨cs0, h0, rfl⟩, h⟩ := h
  obtain ⟨y1, ys1, rfl, ⟨cs1, h1, rfl⟩, h⟩ := h
  obtain ⟨y2, ys2, rfl, ⟨cs2, h2, rfl⟩, h⟩ := h
  obtain ⟨y3, ys3, rfl, ⟨cs3, h3, rfl⟩, h⟩ := h
  obtain ⟨y4, ys4, rfl, ⟨cs4, h4, rfl⟩, h⟩ := h
  obtain rfl := h
  obtain ⟨x0, rfl, k0⟩ := okT_str' h0
  obtain ⟨x1, rfl, k1⟩ := okT_int' h1
  obtain ⟨x2, rfl⟩ := okT_bool' h2
  obtain ⟨x3, rfl, k3⟩ := okT_int' h3
  obtain ⟨x4, rfl, k4⟩ := okT_int' h4
  exact ⟨_, law_SessNew 1048577 (by omega) x0 x1 x2 x3 x4 k0 k1 trivial k3 k4⟩

def wArgs : Array Value := #[.string ⟨#[]⟩, .int .i64 0, .bool false, .int .i64 0, .int .i64 0]
/-- THE WITNESS: the settled world, the two variables holding what their initialisers lay. -/
noncomputable def laidWorld (os : Os) : World :=
  let w0 := World.holding Tryd.prog os ⟨#[], #[], []⟩
  let put (h : Array Obj) (g : Nat) (cs : Array Value) : Array Obj := h.modify g fun
    | .cells _ t frozen => .cells cs t frozen
    | o => o
  let h1 := put w0.heap 0 (Lib.firstTab.map fun z => Value.int .u8 z).toArray
  let h2 := put h1 1 ((List.range 16).flatMap fun i => [Value.int .u8 (Lib.accLo i), Value.int .u8 (Lib.accHi i)]).toArray
  { w0 with heap := h2 }
theorem laid_met (os : Os) (args : Array Value) : laidMet Tryd.prog Rows.fnExactSessNewRow.laid ((laidWorld os).forCall (fun _ _ => 0) ⟨#[], args, []⟩).memory :=
  (LaidIn.of_run (l := Rows.fnExactSessNewRow.laid) [0, 1] 8 (by kernel_rfl) (by kernel_rfl) (by kernel_rfl) (by kernel_rfl)).met

set_option maxRecDepth 100000 in
theorem witness_row (os : Os) {H : Type} (enc : TypeId × Value → H) :
    (OpenSpec.ofChange Rows.fnExactSessNewSpec).preRow enc Tryd.prog Tryd.f11 Rows.fnExactSessNewRow.domain false Rows.fnExactSessNewRow.laid ((laidWorld os).forCall (fun _ _ => 0) ⟨#[], wArgs, []⟩).memory wArgs := by
  have hw : ((DataW.whole enc Tryd.prog ((laidWorld os).forCall (fun _ _ => 0) ⟨#[], wArgs, []⟩).memory Tryd.f11.params.toList (OpenSpec.ofChange Rows.fnExactSessNewSpec).vars false wArgs.toList 8).map (fun x => x.2.1)) = some [] := by kernel_rfl
  obtain ⟨⟨x1, x2, x3⟩, hx, hx1⟩ := Option.map_eq_some_iff.1 hw
  simp only at hx1
  subst hx1
  exact OpenSpec.preRow_of_cond 8 hx rfl (fun k hk => by cases hk) rfl (laid_met os _)

set_option maxRecDepth 100000 in
set_option maxHeartbeats 2000000 in
theorem lifted (os : Os) (started : os.Started) (H : Type) (enc : TypeId × Value → H) (F : Stop.Interp) :
    ReturnsInHanded {} Tryd.checked os 11 .any ((OpenSpec.ofChange Rows.fnExactSessNewSpec).preRow enc Tryd.prog Tryd.f11 Rows.fnExactSessNewRow.domain false Rows.fnExactSessNewRow.laid) (((OpenSpec.ofChange Rows.fnExactSessNewSpec).at F).post enc Tryd.prog Tryd.f11 false true false false) := by
  refine returnsInHanded_of_row (C := Tryd.checked) (s := OpenSpec.ofChange Rows.fnExactSessNewSpec) own started (by kernel_rfl) Tryd.func11
    (witness_row_atRef (enc := enc) (C := Tryd.checked) false (laidWorld os) wArgs rfl (by kernel_rfl) (by kernel_rfl) (by kernel_rfl) (witness_row os enc)) ?_
  intro W base args ds gs before hval0 hW _ _ _ hL hS _
  have hval : ∀ (j : Nat) t v, Tryd.f11.params[j]? = some t → args[j]? = some v → Value.okWide Tryd.prog W .any base t v := hval0
  have hW' := hW
  obtain ⟨p, q, hA0, hV, rfl, hfz, hnd⟩ := hW
  have hA : DataW.TrodAll enc Tryd.prog W 0 (fun _ => true) true Tryd.f11.params.toList args.toList ds p := hA0
  rw [Tryd.params11] at hA hval
  obtain ⟨xs, hok, hl, hx⟩ := args_sound tabOk0 (n := 14) [9, 3, 4, 3, 3] args.toList ds p hA (fun j t v ht hv => hval j t v (by simpa using ht) (by simpa using hv)) types
  obtain ⟨m, hm⟩ := pure_ hok
  have htab0 := utf8Tabs_of_readsT (U8Types.of196 Tryd.laysValid) ⟨by kernel_rfl, by kernel_rfl, by kernel_rfl, by kernel_rfl, by kernel_rfl, by kernel_rfl, by kernel_rfl⟩ (Pinned.utf8First_eq ▸ Lib.laidMet.reads hL (.tail _ (.head _))) (Lib.laidMet.reads hL (.head _))
  have htab : J0 W := ⟨htab0, cell_of_shapedOpen_int (zero := #[.int .i64 0]) hS (of_decide_eq_true (by kernel_rfl)) (by kernel_rfl) rfl (by kernel_rfl) (by kernel_rfl) Tryd.underlying3⟩
  have hc := tree_bool env0 hm (w := W) htab hl hx
  have hA1 := hA
  obtain ⟨v0, vs0, d0, ds0, p0, q0, hargs, rfl, rfl, g0, r0⟩ := trodAll_cons hA
  obtain ⟨v1, vs1, d1, ds1, p1, q1, rfl, rfl, rfl, g1, r1⟩ := trodAll_cons r0
  obtain ⟨v2, vs2, d2, ds2, p2, q2, rfl, rfl, rfl, g2, r2⟩ := trodAll_cons r1
  obtain ⟨v3, vs3, d3, ds3, p3, q3, rfl, rfl, rfl, g3, r3⟩ := trodAll_cons r2
  obtain ⟨v4, vs4, d4, ds4, p4, q4, rfl, rfl, rfl, g4, r4⟩ := trodAll_cons r3
  obtain ⟨rfl, rfl, rfl⟩ := trodAll_nil r4
  obtain ⟨rfl, rfl⟩ := trodVars_none hV
  have hc2 : Calls Tryd.prog 11 args W fun e W' => e = .returned (.bool true) ∧ Below W.heap.size W W' := by simpa using hc
  refine hc2.mono fun e W' ⟨he, bel⟩ => ?_
  subst he
  exact ⟨_, rfl, _, _, _, [], _, [], hW', trodAll_mk1 (shut_bool Tryd.underlying4 _), trodAll_stays laidOut bel readable hA1, rfl, bel.frame _, fun h => by cases h⟩
theorem over : Rows.FnExactSessNewSaid :=
  OpenClaim.holds_of_cond 11 Tryd.f11 rfl rfl rfl rfl rfl rfl rfl ⟨rfl, rfl, rfl, rfl, rfl⟩ rfl rfl rfl rfl rfl (by kernel_rfl) Tryd.func11 (by kernel_rfl)
    (of_decide_eq_true (by kernel_rfl)) (by unfold Func.isWrapper; first | (rw [if_pos (by decide +kernel)]; kernel_rfl) | (rw [if_neg (by decide +kernel)]; exact ⟨rfl, rfl⟩))
    (fun os started H enc _ F0 => by rw [OpenClaim.pre_eq_preRow]; exact lifted os started H enc F0)
theorem proved : Rows.FnExactSessNewCardSaid :=
  Claim7.holds_tied_plain_at .later [] [.data, .pinned] true (true, "c84ce17db33febd21c2827f1e7d13c8175474d27014ac2792a825cf7931b1ffb") false
    over (fun _ h => by cases h) (by kernel_rfl) (fun _ h => by cases h) fnExactSessNew_row_tie rfl ⟨rfl, rfl⟩ (by kernel_rfl) rfl
    (fun f fn hf hfn => by
      obtain rfl : f = 11 := Option.some.inj ((show Tryd.prog.funcNamed "loop.example/g00480/laws.FnExactSessNew" = some 11 by kernel_rfl).symm.trans hf) |>.symm
      obtain rfl : fn = Tryd.f11 := (Option.some.inj (Tryd.func11.symm.trans hfn)).symm
      exact ⟨by kernel_rfl, fun j t ht => by
        rw [Tryd.params11] at ht
        have hm : t ∈ [9, 3, 4, 3, 3] := by simpa using Array.mem_of_getElem? ht
        have hall : ([9, 3, 4, 3, 3].all fun u => !Tryd.prog.wantsStandIn u) = true := by kernel_rfl
        exact (show Tryd.prog.wantsStandIn t = false by simpa using List.all_eq_true.1 hall t hm)⟩)
    (by kernel_rfl)
#print axioms proved
end Go.Proofs.YtpcgppelelfmiaaDoor.fnExactSessNew
namespace Go.Proofs.YtpcgppelelfmiaaDoor
/-- The card, under a short name, for the claim. -/
theorem fnExactSessNew_holds : Rows.FnExactSessNewCardSaid := fnExactSessNew.proved
end Go.Proofs.YtpcgppelelfmiaaDoor
