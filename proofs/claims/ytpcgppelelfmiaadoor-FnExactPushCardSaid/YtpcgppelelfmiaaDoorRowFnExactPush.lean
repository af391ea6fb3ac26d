/- The law FnExactPush and its row: every input, no condition (written by laws.py). -/
import Derived.Test.YtpcgppelelfmiaaDoorRows
import Derived.Test.YtpcgppelelfmiaaDoorVPush
import Derived.Test.YtpcgppelelfmiaaDoorMk
import Derived.Test.YtpcgppelelfmiaaDoorTie
import Derived.Test.YtpcgppelelfmiaaDoorCards
import Derived.Lib.LaidIn
import Derived.Lib.LaidU8T
import Derived.PinnedBridge
import Derived.SevenTiedAt
import Derived.Deep.DeepHandedRow
import Derived.Deep.DeepWitnessRowRef
import Derived.WalkKit
import Derived.ProofKit
import Derived.OpenShut
import Derived.ShutString
import Derived.ChangeOld
import Derived.Below
import Derived.SizedLaws
namespace Go.Proofs.YtpcgppelelfmiaaDoor.Abs
open Go
set_option linter.unusedVariables false
set_option linter.unusedSimpArgs false
theorem law_Push (n : Nat) (hn : 1048576 < n) (x0 : List MsgV) (x1 : MsgV) (k0 : (x0.length ≤ 9223372036854775807 ∧ ∀ z ∈ x0, okMsg z)) (k1 : okMsg x1) : tree E0 (n + 30) 4 9 [rowsC encMsg x0, .agg (encMsg x1)] = some (.sc (.bool true)) := by
  rw [tree_def, f9_eq, f9]
  simp only [PR_box, PR_new, PR_load, PR_store, PR_bin, PR_binB, PR_un, PR_cond, PR_lenS, PR_extr, PR_guard, PR_pick]
  refine w_box (flMsg x1) fun i2 i2E B1 => ?_
  refine lw_sz rfl (vcons (Vw_ro _ _ _) (vcons (Vw_sc _ _) vnil)) (szF_MsgS (n + 26) (by omega) _ x0 k0.1 k0.2 _ (by omega) (by omega)) (by omega) rfl fun b0 => ?_
  refine lw_ld B1 (lenMsg x1) ?_
  refine lw_sz rfl (vcons (Vw_agg _ (flMsg x1)) (vcons (Vw_sc _ _) vnil)) (szF_Msg (n + 27) (by omega) _ x1 k1 _ (by omega) (by omega)) (by omega) rfl fun b1 => ?_
  have c4 := cnt_rows (fs := mfMsgS) (wt := wtMsg) (x0) (fun y _ => rfl) (fun y _ => cntMsg y)
  have s3w : wtL wtMsg x0 ≤ 1048576 := by omega
  have s3 := smwS smMsg smwMsg x0 s3w
  have c6 := cntvMsg (x1)
  have s5w : wtMsg x1 ≤ 1048576 := by omega
  have s5 := smwMsg x1 s5w
  have c7 := cnt_rows (fs := mfMsgS) (wt := wtMsg) (vPush x0 x1) (fun y _ => rfl) (fun y _ => cntMsg y)
  obtain ⟨s8w, s8⟩ := resF_Push_0 x0 x1 (by omega) (by omega)
  refine lw_ld B1 (lenMsg x1) ?_
  refine lm_tree rfl (vcons (Vw_ro _ _ _) vnil) (toF_MsgS (n + 26) (by omega) x0 (by omega)) fun y12 X10 N9 n11 a13 => ?_
  have o14 : i2 < N9 := by have := (List.getElem?_eq_some_iff.1 B1).1; omega
  replace B1 := blk_grow B1 X10
  refine lm_agg rfl (vcons (Vw_agg _ (flMsg x1)) vnil) (toF_Msg (n + 27) (by omega) x1 (by omega)) tyMsg fun y18 X16 N15 n17 a19 => ?_
  have o20 : i2 < N15 := by have := (List.getElem?_eq_some_iff.1 B1).1; omega
  have o21 : N9 + nbT (rowsC encMsg (x0)) ≤ N15 := by have := a13.2.1; omega
  replace B1 := blk_grow B1 X16
  replace a13 := a13.grow X16
  refine lm_tup rfl (vcons (a13.vw (okW_rows (d := 7) lenMsg tyMsgS (okWMsg 5) (x0))) (vcons (a19.vw (okWMsg 5 (x1))) vnil)) (specF_Push (n + 21) (by omega) x0 x1 k0 k1 (by omega) (by omega)) rfl fun ys25 X23 N22 n24 a26 => ?_
  have o27 : i2 < N22 := by have := (List.getElem?_eq_some_iff.1 B1).1; omega
  replace B1 := blk_grow B1 X23
  obtain ⟨y28, ys29, rfl, a30, a31⟩ := a26.cons
  obtain ⟨y32, ys33, rfl, a34, a35⟩ := a31.cons
  obtain rfl := a35.nil
  refine lm_ex rfl ?_
  refine lm_ex rfl ?_
  obtain rfl := a34.sc
  refine lm_tree rfl (vcons (Vw_ro _ _ _) vnil) (toF_MsgS (n + 26) (by omega) x0 (by omega)) fun y39 X37 N36 n38 a40 => ?_
  have o41 : i2 < N36 := by have := (List.getElem?_eq_some_iff.1 B1).1; omega
  have o42 : N22 + nbT (rowsC encMsg (vPush x0 x1)) ≤ N36 := by have := a30.2.1; omega
  replace B1 := blk_grow B1 X37
  replace a30 := a30.grow X37
  refine lw_ld B1 (lenMsg x1) ?_
  refine lm_agg rfl (vcons (Vw_agg _ (flMsg x1)) vnil) (toF_Msg (n + 27) (by omega) x1 (by omega)) tyMsg fun y46 X44 N43 n45 a47 => ?_
  have o48 : i2 < N43 := by have := (List.getElem?_eq_some_iff.1 B1).1; omega
  have o49 : N22 + nbT (rowsC encMsg (vPush x0 x1)) ≤ N43 := by have := a30.2.1; omega
  have o50 : N36 + nbT (rowsC encMsg (x0)) ≤ N43 := by have := a40.2.1; omega
  replace B1 := blk_grow B1 X44
  replace a30 := a30.grow X44
  replace a40 := a40.grow X44
  refine lm_put rfl (a47.len.trans (lenMsg _)) (a47.leaf (flMsg _)) fun i52 i52E B51 => ?_
  have o53 : i2 < i52 := by have := (List.getElem?_eq_some_iff.1 B1).1; omega
  have o54 : N22 + nbT (rowsC encMsg (vPush x0 x1)) ≤ i52 := by have := a30.2.1; omega
  have o55 : N36 + nbT (rowsC encMsg (x0)) ≤ i52 := by have := a40.2.1; omega
  have o56 : N43 + nbL (encMsg (x1)) ≤ i52 := by have := a47.2.1; omega
  replace B1 := blk_grow B1 [⟨y46, true, true⟩]
  replace a30 := a30.grow [⟨y46, true, true⟩]
  replace a40 := a40.grow [⟨y46, true, true⟩]
  replace a47 := a47.grow [⟨y46, true, true⟩]
  refine lw_ld B51 (a47.len.trans (lenMsg _)) ?_
  refine lm_tup rfl (vcons (a40.vw (okW_rows (d := 7) lenMsg tyMsgS (okWMsg 5) (x0))) (vcons (a47.vw (okWMsg 5 (x1))) vnil)) (implF_Push (n + 20) (by omega) x0 x1 k0 k1 (by omega) (by omega)) rfl fun ys60 X58 N57 n59 a61 => ?_
  have o62 : i2 < N57 := by have := (List.getElem?_eq_some_iff.1 B1).1; omega
  have o63 : N22 + nbT (rowsC encMsg (vPush x0 x1)) ≤ N57 := by have := a30.2.1; omega
  have o64 : N36 + nbT (rowsC encMsg (x0)) ≤ N57 := by have := a40.2.1; omega
  have o65 : N43 + nbL (encMsg (x1)) ≤ N57 := by have := a47.2.1; omega
  have o66 : i52 < N57 := by have := (List.getElem?_eq_some_iff.1 B51).1; omega
  replace B1 := blk_grow B1 X58
  replace a30 := a30.grow X58
  replace a40 := a40.grow X58
  replace a47 := a47.grow X58
  replace B51 := blk_grow B51 X58
  obtain ⟨y67, ys68, rfl, a69, a70⟩ := a61.cons
  obtain ⟨y71, ys72, rfl, a73, a74⟩ := a70.cons
  obtain rfl := a74.nil
  refine lm_ex rfl ?_
  refine lm_ex rfl ?_
  obtain rfl := a73.sc
  refine lm_eq rfl (vcons (a69.vw (okW_rows (d := 7) lenMsg tyMsgS (okWMsg 5) (vPush x0 x1))) (vcons (a30.vw (okW_rows (d := 7) lenMsg tyMsgS (okWMsg 5) (vPush x0 x1))) vnil)) (eqF_MsgS (n + 26) (by omega) _ (vPush x0 x1) s8w) ?_
  refine lm_not ?_
  refine lm_gf ?_
  refine lm_gf ?_
  refine lm_gf ?_
  refine lm_neI ?_
  refine lm_pk ?_
  refine lm_cf ?_
  refine lm_tree rfl (vcons (Vw_ro _ _ _) vnil) (toF_MsgS (n + 26) (by omega) x0 (by omega)) fun y78 X76 N75 n77 a79 => ?_
  have o80 : i2 < N75 := by have := (List.getElem?_eq_some_iff.1 B1).1; omega
  have o81 : N22 + nbT (rowsC encMsg (vPush x0 x1)) ≤ N75 := by have := a30.2.1; omega
  have o82 : N36 + nbT (rowsC encMsg (x0)) ≤ N75 := by have := a40.2.1; omega
  have o83 : N43 + nbL (encMsg (x1)) ≤ N75 := by have := a47.2.1; omega
  have o84 : i52 < N75 := by have := (List.getElem?_eq_some_iff.1 B51).1; omega
  have o85 : N57 + nbT (rowsC encMsg (vPush x0 x1)) ≤ N75 := by have := a69.2.1; omega
  replace B1 := blk_grow B1 X76
  replace a30 := a30.grow X76
  replace a40 := a40.grow X76
  replace a47 := a47.grow X76
  replace B51 := blk_grow B51 X76
  replace a69 := a69.grow X76
  refine lm_eq rfl (vcons (a40.vw (okW_rows (d := 7) lenMsg tyMsgS (okWMsg 5) (x0))) (vcons (a79.vw (okW_rows (d := 7) lenMsg tyMsgS (okWMsg 5) (x0))) vnil)) (eqF_MsgS (n + 26) (by omega) _ (x0) s3w) ?_
  refine lm_not ?_
  refine lm_cf ?_
  refine lw_ld B51 (a47.len.trans (lenMsg _)) ?_
  refine lw_ld B1 (lenMsg x1) ?_
  refine lm_agg rfl (vcons (Vw_agg _ (flMsg x1)) vnil) (toF_Msg (n + 27) (by omega) x1 (by omega)) tyMsg fun y89 X87 N86 n88 a90 => ?_
  have o91 : i2 < N86 := by have := (List.getElem?_eq_some_iff.1 B1).1; omega
  have o92 : N22 + nbT (rowsC encMsg (vPush x0 x1)) ≤ N86 := by have := a30.2.1; omega
  have o93 : N36 + nbT (rowsC encMsg (x0)) ≤ N86 := by have := a40.2.1; omega
  have o94 : N43 + nbL (encMsg (x1)) ≤ N86 := by have := a47.2.1; omega
  have o95 : i52 < N86 := by have := (List.getElem?_eq_some_iff.1 B51).1; omega
  have o96 : N57 + nbT (rowsC encMsg (vPush x0 x1)) ≤ N86 := by have := a69.2.1; omega
  replace B1 := blk_grow B1 X87
  replace a30 := a30.grow X87
  replace a40 := a40.grow X87
  replace a47 := a47.grow X87
  replace B51 := blk_grow B51 X87
  replace a69 := a69.grow X87
  refine lm_eq rfl (vcons (a47.vw (okWMsg 5 (x1))) (vcons (a90.vw (okWMsg 5 (x1))) vnil)) (eqF_Msg (n + 27) (by omega) _ (x1) s5w) ?_
  refine lm_not ?_
  refine lm_cf ?_
  refine lm_mark (fs := mfMsgS) (t := (rowsC encMsg (x0))) (mk_MsgS (n + 26) (by omega)) ⟨_, _, rfl⟩ a40 (wf_rows _ s3.1 fun y hy => wfMsg y (s3.2 y hy)) (by omega) (by omega) fun G97 a99 q98 => ?_
  replace B1 := blk_kept B1 q98 (by omega)
  replace a30 := a30.kept q98 (by omega)
  replace a47 := a47.kept q98 (by omega)
  replace B51 := blk_kept B51 q98 (by omega)
  replace a69 := a69.kept q98 (by omega)
  refine lw_ld B51 (a47.len.trans (lenMsg _)) ?_
  refine lm_markv (mk_MsgV (n + 26) (by omega)) rfl a47 (wfvMsg _ s5) (by omega) (by omega) fun G100 a102 q101 => ?_
  replace B1 := blk_kept B1 q101 (by omega)
  replace a30 := a30.kept q101 (by omega)
  replace a69 := a69.kept q101 (by omega)
  refine lm_neg (by omega) ?_
  refine lm_gf ?_
  refine lm_gf ?_
  refine lm_gf ?_
  refine lm_eq rfl (vcons (a69.vw (okW_rows (d := 7) lenMsg tyMsgS (okWMsg 5) (vPush x0 x1))) (vcons (a30.vw (okW_rows (d := 7) lenMsg tyMsgS (okWMsg 5) (vPush x0 x1))) vnil)) (eqF_MsgS (n + 26) (by omega) _ (vPush x0 x1) s8w) ?_
  refine lm_gf ?_
  refine lm_not ?_
  refine lm_pk ?_
  refine lm_gf ?_
  refine lm_gf ?_
  refine lm_gf ?_
  refine lm_neI ?_
  refine lm_pk ?_
  refine lm_cf ?_
  refine lm_mark (fs := mfMsgS) (t := (rowsC encMsg (vPush x0 x1))) (mk_MsgS (n + 26) (by omega)) ⟨_, _, rfl⟩ a69 (wf_rows _ s8.1 fun y hy => wfMsg y (s8.2 y hy)) (by omega) (by omega) fun G103 a105 q104 => ?_
  replace B1 := blk_kept B1 q104 (by omega)
  replace a30 := a30.kept q104 (by omega)
  refine lm_held (fs := mfMsgS) (t := (rowsC encMsg (vPush x0 x1))) (hd_MsgS (n + 26) (by omega)) ⟨_, _, rfl⟩ (a105.vw (okW_mk 8 _ _ _ _ (okW_rows (d := 7) lenMsg tyMsgS (okWMsg 5) (vPush x0 x1)))) (wf_rows _ s8.1 fun y hy => wfMsg y (s8.2 y hy)) (by omega) (by omega) ?_
  refine lm_neI ?_
  refine lm_cf ?_
  refine lw_ld B1 (lenMsg x1) ?_
  refine lm_tree rfl (vcons (Vw_ro _ _ _) vnil) (toF_MsgS (n + 26) (by omega) x0 (by omega)) fun y109 X107 N106 n108 a110 => ?_
  have o111 : N22 + nbT (rowsC encMsg (vPush x0 x1)) ≤ N106 := by have := a30.2.1; omega
  have o112 : N57 + nbT (rowsC encMsg (vPush x0 x1)) ≤ N106 := by have := a105.2.1; rw [mkF_nb] at this; omega
  replace a30 := a30.grow X107
  replace a105 := a105.grow X107
  refine lm_agg rfl (vcons (Vw_agg _ (flMsg x1)) vnil) (toF_Msg (n + 27) (by omega) x1 (by omega)) tyMsg fun y116 X114 N113 n115 a117 => ?_
  have o118 : N22 + nbT (rowsC encMsg (vPush x0 x1)) ≤ N113 := by have := a30.2.1; omega
  have o119 : N57 + nbT (rowsC encMsg (vPush x0 x1)) ≤ N113 := by have := a105.2.1; rw [mkF_nb] at this; omega
  have o120 : N106 + nbT (rowsC encMsg (x0)) ≤ N113 := by have := a110.2.1; omega
  replace a30 := a30.grow X114
  replace a105 := a105.grow X114
  replace a110 := a110.grow X114
  refine lm_tup rfl (vcons (a110.vw (okW_rows (d := 7) lenMsg tyMsgS (okWMsg 5) (x0))) (vcons (a117.vw (okWMsg 5 (x1))) vnil)) (implF_Push (n + 20) (by omega) x0 x1 k0 k1 (by omega) (by omega)) rfl fun ys124 X122 N121 n123 a125 => ?_
  have o126 : N22 + nbT (rowsC encMsg (vPush x0 x1)) ≤ N121 := by have := a30.2.1; omega
  have o127 : N57 + nbT (rowsC encMsg (vPush x0 x1)) ≤ N121 := by have := a105.2.1; rw [mkF_nb] at this; omega
  replace a30 := a30.grow X122
  replace a105 := a105.grow X122
  obtain ⟨y128, ys129, rfl, a130, a131⟩ := a125.cons
  obtain ⟨y132, ys133, rfl, a134, a135⟩ := a131.cons
  obtain rfl := a135.nil
  refine lm_ex rfl ?_
  refine lm_ex rfl ?_
  obtain rfl := a134.sc
  refine lm_eq rfl (vcons (a130.vw (okW_rows (d := 7) lenMsg tyMsgS (okWMsg 5) (vPush x0 x1))) (vcons (a30.vw (okW_rows (d := 7) lenMsg tyMsgS (okWMsg 5) (vPush x0 x1))) vnil)) (eqF_MsgS (n + 26) (by omega) _ (vPush x0 x1) s8w) ?_
  refine lm_not ?_
  refine lm_gf ?_
  refine lm_gf ?_
  refine lm_gf ?_
  refine lm_neI ?_
  refine lm_pk ?_
  refine lm_cf ?_
  refine lm_held (fs := mfMsgS) (t := (rowsC encMsg (vPush x0 x1))) (hd_MsgS (n + 26) (by omega)) ⟨_, _, rfl⟩ (a105.vw (okW_mk 8 _ _ _ _ (okW_rows (d := 7) lenMsg tyMsgS (okWMsg 5) (vPush x0 x1)))) (wf_rows _ s8.1 fun y hy => wfMsg y (s8.2 y hy)) (by omega) (by omega) ?_
  refine lm_neI ?_
  refine lm_cf ?_
  rfl
end Go.Proofs.YtpcgppelelfmiaaDoor.Abs
namespace Go.Proofs.YtpcgppelelfmiaaDoor.fnExactPush
open Go Go.Shelf Go.Lib Go.ChangeShapes Go.WideShapes Go.ChangeAt Go.RowKit
open Go.Proofs.YtpcgppelelfmiaaDoor.Abs
set_option linter.unusedVariables false
theorem own : ownKnob Tryd.prog.godebug = none := by kernel_rfl
theorem laidOut : laidOutB Tryd.prog = true := by kernel_rfl
theorem types : ([31, 24].all (tyB ti0 14)) = true := by kernel_rfl
theorem readable : ([31, 24].all fun t => Tryd.prog.readableRec t && decide (t < Tryd.prog.types.size)) = true := by kernel_rfl

theorem pure_ {xs : List AV} (h : okAs ti0 14 [31, 24] xs) : ∃ n, tree E0 n 4 9 xs = some (.sc (.bool true)) := by
  obtain ⟨y0, ys0, rfl, ⟨cs0, h0, rfl⟩, h⟩ := h
  obtain ⟨y1, ys1, rfl, ⟨cs1, h1, rfl⟩, h⟩ := h
  obtain rfl := h
  obtain ⟨x0, rfl, k0⟩ := okT_rows (ok := okMsg) ⟨_, rfl, rfl, rfl, rfl, rfl, rfl⟩ (fun n cs h => okT_Msg h) h0
  obtain ⟨x1, rfl, k1⟩ := okT_Msg h1
  exact ⟨_, law_Push 1048577 (by omega) x0 x1 k0 k1⟩

def wArgs : Array Value := #[.slice none 0 0, .agg #[.string ⟨#[]⟩, .slice none 0 0, .int .i64 0, .bool false]]
/-- THE WITNESS: the settled world, the two variables holding what their initialisers lay. -/
noncomputable def laidWorld (os : Os) : World :=
  let w0 := World.holding Tryd.prog os ⟨#[], #[], []⟩
  let put (h : Array Obj) (g : Nat) (cs : Array Value) : Array Obj := h.modify g fun
    | .cells _ t frozen => .cells cs t frozen
    | o => o
  let h1 := put w0.heap 0 (Lib.firstTab.map fun z => Value.int .u8 z).toArray
  let h2 := put h1 1 ((List.range 16).flatMap fun i => [Value.int .u8 (Lib.accLo i), Value.int .u8 (Lib.accHi i)]).toArray
  { w0 with heap := h2 }
theorem laid_met (os : Os) (args : Array Value) : laidMet Tryd.prog Rows.fnExactPushRow.laid ((laidWorld os).forCall (fun _ _ => 0) ⟨#[], args, []⟩).memory :=
  (LaidIn.of_run (l := Rows.fnExactPushRow.laid) [0, 1] 8 (by kernel_rfl) (by kernel_rfl) (by kernel_rfl) (by kernel_rfl)).met

set_option maxRecDepth 100000 in
theorem witness_row (os : Os) {H : Type} (enc : TypeId × Value → H) :
    (OpenSpec.ofChange Rows.fnExactPushSpec).preRow enc Tryd.prog Tryd.f9 Rows.fnExactPushRow.domain false Rows.fnExactPushRow.laid ((laidWorld os).forCall (fun _ _ => 0) ⟨#[], wArgs, []⟩).memory wArgs := by
  have hw : ((DataW.whole enc Tryd.prog ((laidWorld os).forCall (fun _ _ => 0) ⟨#[], wArgs, []⟩).memory Tryd.f9.params.toList (OpenSpec.ofChange Rows.fnExactPushSpec).vars false wArgs.toList 8).map (fun x => x.2.1)) = some [] := by kernel_rfl
  obtain ⟨⟨x1, x2, x3⟩, hx, hx1⟩ := Option.map_eq_some_iff.1 hw
  simp only at hx1
  subst hx1
  exact OpenSpec.preRow_of_cond 8 hx rfl (fun k hk => by cases hk) rfl (laid_met os _)

set_option maxRecDepth 100000 in
set_option maxHeartbeats 2000000 in
theorem lifted (os : Os) (started : os.Started) (H : Type) (enc : TypeId × Value → H) (F : Stop.Interp) :
    ReturnsInHanded {} Tryd.checked os 9 .any ((OpenSpec.ofChange Rows.fnExactPushSpec).preRow enc Tryd.prog Tryd.f9 Rows.fnExactPushRow.domain false Rows.fnExactPushRow.laid) (((OpenSpec.ofChange Rows.fnExactPushSpec).at F).post enc Tryd.prog Tryd.f9 false true false false) := by
  refine returnsInHanded_of_row (C := Tryd.checked) (s := OpenSpec.ofChange Rows.fnExactPushSpec) own started (by kernel_rfl) Tryd.func9
    (witness_row_atRef (enc := enc) (C := Tryd.checked) false (laidWorld os) wArgs rfl (by kernel_rfl) (by kernel_rfl) (by kernel_rfl) (witness_row os enc)) ?_
  intro W base args ds gs before hval0 hW _ _ _ hL hS _
  have hval : ∀ (j : Nat) t v, Tryd.f9.params[j]? = some t → args[j]? = some v → Value.okWide Tryd.prog W .any base t v := hval0
  have hW' := hW
  obtain ⟨p, q, hA0, hV, rfl, hfz, hnd⟩ := hW
  have hA : DataW.TrodAll enc Tryd.prog W 0 (fun _ => true) true Tryd.f9.params.toList args.toList ds p := hA0
  rw [Tryd.params9] at hA hval
  obtain ⟨xs, hok, hl, hx⟩ := args_sound tabOk0 (n := 14) [31, 24] args.toList ds p hA (fun j t v ht hv => hval j t v (by simpa using ht) (by simpa using hv)) types
  obtain ⟨m, hm⟩ := pure_ hok
  have htab0 := utf8Tabs_of_readsT (U8Types.of196 Tryd.laysValid) ⟨by kernel_rfl, by kernel_rfl, by kernel_rfl, by kernel_rfl, by kernel_rfl, by kernel_rfl, by kernel_rfl⟩ (Pinned.utf8First_eq ▸ Lib.laidMet.reads hL (.tail _ (.head _))) (Lib.laidMet.reads hL (.head _))
  have htab : J0 W := ⟨htab0, cell_of_shapedOpen_int (zero := #[.int .i64 0]) hS (of_decide_eq_true (by kernel_rfl)) (by kernel_rfl) rfl (by kernel_rfl) (by kernel_rfl) Tryd.underlying3⟩
  have hc := tree_bool env0 hm (w := W) htab hl hx
  have hA1 := hA
  obtain ⟨v0, vs0, d0, ds0, p0, q0, hargs, rfl, rfl, g0, r0⟩ := trodAll_cons hA
  obtain ⟨v1, vs1, d1, ds1, p1, q1, rfl, rfl, rfl, g1, r1⟩ := trodAll_cons r0
  obtain ⟨rfl, rfl, rfl⟩ := trodAll_nil r1
  obtain ⟨rfl, rfl⟩ := trodVars_none hV
  have hc2 : Calls Tryd.prog 9 args W fun e W' => e = .returned (.bool true) ∧ Below W.heap.size W W' := by simpa using hc
  refine hc2.mono fun e W' ⟨he, bel⟩ => ?_
  subst he
  exact ⟨_, rfl, _, _, _, [], _, [], hW', trodAll_mk1 (shut_bool Tryd.underlying4 _), trodAll_stays laidOut bel readable hA1, rfl, bel.frame _, fun h => by cases h⟩
theorem over : Rows.FnExactPushSaid :=
  OpenClaim.holds_of_cond 9 Tryd.f9 rfl rfl rfl rfl rfl rfl rfl ⟨rfl, rfl, rfl, rfl, rfl⟩ rfl rfl rfl rfl rfl (by kernel_rfl) Tryd.func9 (by kernel_rfl)
    (of_decide_eq_true (by kernel_rfl)) (by unfold Func.isWrapper; first | (rw [if_pos (by decide +kernel)]; kernel_rfl) | (rw [if_neg (by decide +kernel)]; exact ⟨rfl, rfl⟩))
    (fun os started H enc _ F0 => by rw [OpenClaim.pre_eq_preRow]; exact lifted os started H enc F0)
theorem proved : Rows.FnExactPushCardSaid :=
  Claim7.holds_tied_plain_at .later [] [.data, .pinned] true (true, "c84ce17db33febd21c2827f1e7d13c8175474d27014ac2792a825cf7931b1ffb") false
    over (fun _ h => by cases h) (by kernel_rfl) (fun _ h => by cases h) fnExactPush_row_tie rfl ⟨rfl, rfl⟩ (by kernel_rfl) rfl
    (fun f fn hf hfn => by
      obtain rfl : f = 9 := Option.some.inj ((show Tryd.prog.funcNamed "loop.example/g00480/laws.FnExactPush" = some 9 by kernel_rfl).symm.trans hf) |>.symm
      obtain rfl : fn = Tryd.f9 := (Option.some.inj (Tryd.func9.symm.trans hfn)).symm
      exact ⟨by kernel_rfl, fun j t ht => by
        rw [Tryd.params9] at ht
        have hm : t ∈ [31, 24] := by simpa using Array.mem_of_getElem? ht
        have hall : ([31, 24].all fun u => !Tryd.prog.wantsStandIn u) = true := by kernel_rfl
        exact (show Tryd.prog.wantsStandIn t = false by simpa using List.all_eq_true.1 hall t hm)⟩)
    (by kernel_rfl)
#print axioms proved
end Go.Proofs.YtpcgppelelfmiaaDoor.fnExactPush
namespace Go.Proofs.YtpcgppelelfmiaaDoor
/-- The card, under a short name, for the claim. -/
theorem fnExactPush_holds : Rows.FnExactPushCardSaid := fnExactPush.proved
end Go.Proofs.YtpcgppelelfmiaaDoor
