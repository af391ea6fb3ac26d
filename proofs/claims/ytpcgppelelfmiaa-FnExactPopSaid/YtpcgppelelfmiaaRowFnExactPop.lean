/- The law FnExactPop and its row: every input, no condition (written by laws.py). -/
import Derived.Test.YtpcgppelelfmiaaRows
import Derived.Test.YtpcgppelelfmiaaVPop
import Derived.Test.YtpcgppelelfmiaaMk
import Derived.WalkKit
import Derived.ProofKit
import Derived.OpenShut
import Derived.ShutString
import Derived.ChangeOld
import Derived.Below
import Derived.SizedLaws
namespace Go.Proofs.Ytpcgppelelfmiaa.Abs
open Go
set_option linter.unusedVariables false
set_option linter.unusedSimpArgs false
theorem law_Pop (n : Nat) (hn : 1048576 < n) (x0 : List MsgV) (k0 : (x0.length ≤ 9223372036854775807 ∧ ∀ z ∈ x0, okMsg z)) : tree E0 (n + 30) 4 3 [rowsC encMsg x0] = some (.sc (.bool true)) := by
  rw [tree_def, f3_eq, f3]
  simp only [PR_box, PR_new, PR_load, PR_store, PR_bin, PR_binB, PR_un, PR_cond, PR_lenS, PR_extr, PR_guard, PR_pick]
  refine lw_sz rfl (vcons (Vw_ro _ _ _) (vcons (Vw_sc _ _) vnil)) (szF_MsgS (n + 26) (by omega) _ x0 k0.1 k0.2 _ (by omega) (by omega)) (by omega) rfl fun b0 => ?_
  have c2 := cnt_rows (fs := mfMsgS) (wt := wtMsg) (x0) (fun y _ => rfl) (fun y _ => cntMsg y)
  have s1w : wtL wtMsg x0 ≤ 1048576 := by omega
  have s1 := smwS smMsg smwMsg x0 s1w
  have c3 := cnt_rows (fs := mfMsgS) (wt := wtMsg) (x0.tail) (fun y _ => rfl) (fun y _ => cntMsg y)
  obtain ⟨s4w, s4⟩ := resF_Pop_0 x0 (by omega)
  have c5 := cntvMsg (vPop1 x0)
  obtain ⟨s6w, s6⟩ := resF_Pop_1 x0 (by omega)
  refine lm_tree rfl (vcons (Vw_ro _ _ _) vnil) (toF_MsgS (n + 26) (by omega) x0 (by omega)) fun y10 X8 N7 n9 a11 => ?_
  refine lm_tup rfl (vcons (a11.vw (okW_rows (d := 7) lenMsg tyMsgS (okWMsg 5) (x0))) vnil) (specF_Pop (n + 25) (by omega) x0 k0 (by omega)) rfl fun ys15 X13 N12 n14 a16 => ?_
  obtain ⟨y17, ys18, rfl, a19, a20⟩ := a16.cons
  obtain ⟨y21, ys22, rfl, a23, a24⟩ := a20.cons
  obtain ⟨y25, ys26, rfl, a27, a28⟩ := a24.cons
  obtain rfl := a28.nil
  refine lm_ex rfl ?_
  refine lm_ex rfl ?_
  obtain ⟨ys29, rfl, a30⟩ := a23.agg tyMsg
  refine lm_ex rfl ?_
  obtain rfl := a27.sc
  refine lm_put rfl (a30.len.trans (lenMsg _)) (a30.leaf (flMsg _)) fun i32 i32E b31 => ?_
  have o33 : N12 + nbT (rowsC encMsg (x0.tail)) ≤ i32 := by have := a19.2.1; omega
  have o34 : (N12 + nbT (rowsC encMsg (x0.tail))) + nbL (encMsg (vPop1 x0)) ≤ i32 := by have := a30.2.1; omega
  replace a19 := a19.grow [⟨ys29, true, true⟩]
  replace a30 := a30.grow [⟨ys29, true, true⟩]
  refine lm_tree rfl (vcons (Vw_ro _ _ _) vnil) (toF_MsgS (n + 26) (by omega) x0 (by omega)) fun y38 X36 N35 n37 a39 => ?_
  have o40 : N12 + nbT (rowsC encMsg (x0.tail)) ≤ N35 := by have := a19.2.1; omega
  have o41 : (N12 + nbT (rowsC encMsg (x0.tail))) + nbL (encMsg (vPop1 x0)) ≤ N35 := by have := a30.2.1; omega
  have o42 : i32 < N35 := by have := (List.getElem?_eq_some_iff.1 b31).1; omega
  replace a19 := a19.grow X36
  replace a30 := a30.grow X36
  replace b31 := blk_grow b31 X36
  refine lm_tup rfl (vcons (a39.vw (okW_rows (d := 7) lenMsg tyMsgS (okWMsg 5) (x0))) vnil) (implF_Pop (n + 25) (by omega) x0 k0 (by omega)) rfl fun ys46 X44 N43 n45 a47 => ?_
  have o48 : N12 + nbT (rowsC encMsg (x0.tail)) ≤ N43 := by have := a19.2.1; omega
  have o49 : (N12 + nbT (rowsC encMsg (x0.tail))) + nbL (encMsg (vPop1 x0)) ≤ N43 := by have := a30.2.1; omega
  have o50 : i32 < N43 := by have := (List.getElem?_eq_some_iff.1 b31).1; omega
  have o51 : N35 + nbT (rowsC encMsg (x0)) ≤ N43 := by have := a39.2.1; omega
  replace a19 := a19.grow X44
  replace a30 := a30.grow X44
  replace b31 := blk_grow b31 X44
  replace a39 := a39.grow X44
  obtain ⟨y52, ys53, rfl, a54, a55⟩ := a47.cons
  obtain ⟨y56, ys57, rfl, a58, a59⟩ := a55.cons
  obtain ⟨y60, ys61, rfl, a62, a63⟩ := a59.cons
  obtain rfl := a63.nil
  refine lm_ex rfl ?_
  refine lm_ex rfl ?_
  obtain ⟨ys64, rfl, a65⟩ := a58.agg tyMsg
  refine lm_ex rfl ?_
  obtain rfl := a62.sc
  refine lm_put rfl (a65.len.trans (lenMsg _)) (a65.leaf (flMsg _)) fun i67 i67E b66 => ?_
  have o68 : N12 + nbT (rowsC encMsg (x0.tail)) ≤ i67 := by have := a19.2.1; omega
  have o69 : (N12 + nbT (rowsC encMsg (x0.tail))) + nbL (encMsg (vPop1 x0)) ≤ i67 := by have := a30.2.1; omega
  have o70 : i32 < i67 := by have := (List.getElem?_eq_some_iff.1 b31).1; omega
  have o71 : N35 + nbT (rowsC encMsg (x0)) ≤ i67 := by have := a39.2.1; omega
  have o72 : N43 + nbT (rowsC encMsg (x0.tail)) ≤ i67 := by have := a54.2.1; omega
  have o73 : (N43 + nbT (rowsC encMsg (x0.tail))) + nbL (encMsg (vPop1 x0)) ≤ i67 := by have := a65.2.1; omega
  replace a19 := a19.grow [⟨ys64, true, true⟩]
  replace a30 := a30.grow [⟨ys64, true, true⟩]
  replace b31 := blk_grow b31 [⟨ys64, true, true⟩]
  replace a39 := a39.grow [⟨ys64, true, true⟩]
  replace a54 := a54.grow [⟨ys64, true, true⟩]
  replace a65 := a65.grow [⟨ys64, true, true⟩]
  refine lm_eq rfl (vcons (a54.vw (okW_rows (d := 7) lenMsg tyMsgS (okWMsg 5) (x0.tail))) (vcons (a19.vw (okW_rows (d := 7) lenMsg tyMsgS (okWMsg 5) (x0.tail))) vnil)) (eqF_MsgS (n + 26) (by omega) _ (x0.tail) s4w) ?_
  refine lm_not ?_
  refine lm_gf ?_
  refine lw_ld b66 (a65.len.trans (lenMsg _)) ?_
  refine lm_gf ?_
  refine lw_ld b31 (a30.len.trans (lenMsg _)) ?_
  refine lm_gf ?_
  refine lm_eq rfl (vcons (a65.vw (okWMsg 5 (vPop1 x0))) (vcons (a30.vw (okWMsg 5 (vPop1 x0))) vnil)) (eqF_Msg (n + 27) (by omega) _ (vPop1 x0) s6w) ?_
  refine lm_gf ?_
  refine lm_not ?_
  refine lm_pk ?_
  refine lm_gf ?_
  refine lm_gf ?_
  refine lm_gf ?_
  refine lm_neB ?_
  refine lm_pk ?_
  refine lm_cf ?_
  refine lm_tree rfl (vcons (Vw_ro _ _ _) vnil) (toF_MsgS (n + 26) (by omega) x0 (by omega)) fun y77 X75 N74 n76 a78 => ?_
  have o79 : N12 + nbT (rowsC encMsg (x0.tail)) ≤ N74 := by have := a19.2.1; omega
  have o80 : (N12 + nbT (rowsC encMsg (x0.tail))) + nbL (encMsg (vPop1 x0)) ≤ N74 := by have := a30.2.1; omega
  have o81 : i32 < N74 := by have := (List.getElem?_eq_some_iff.1 b31).1; omega
  have o82 : N35 + nbT (rowsC encMsg (x0)) ≤ N74 := by have := a39.2.1; omega
  have o83 : N43 + nbT (rowsC encMsg (x0.tail)) ≤ N74 := by have := a54.2.1; omega
  have o84 : (N43 + nbT (rowsC encMsg (x0.tail))) + nbL (encMsg (vPop1 x0)) ≤ N74 := by have := a65.2.1; omega
  have o85 : i67 < N74 := by have := (List.getElem?_eq_some_iff.1 b66).1; omega
  replace a19 := a19.grow X75
  replace a30 := a30.grow X75
  replace b31 := blk_grow b31 X75
  replace a39 := a39.grow X75
  replace a54 := a54.grow X75
  replace a65 := a65.grow X75
  replace b66 := blk_grow b66 X75
  refine lm_eq rfl (vcons (a39.vw (okW_rows (d := 7) lenMsg tyMsgS (okWMsg 5) (x0))) (vcons (a78.vw (okW_rows (d := 7) lenMsg tyMsgS (okWMsg 5) (x0))) vnil)) (eqF_MsgS (n + 26) (by omega) _ (x0) s1w) ?_
  refine lm_not ?_
  refine lm_cf ?_
  refine lm_mark (fs := mfMsgS) (t := (rowsC encMsg (x0))) (mk_MsgS (n + 26) (by omega)) ⟨_, _, rfl⟩ a39 (wf_rows _ s1.1 fun y hy => wfMsg y (s1.2 y hy)) (by omega) (by omega) fun G86 a88 q87 => ?_
  replace a19 := a19.kept q87 (by omega)
  replace a30 := a30.kept q87 (by omega)
  replace b31 := blk_kept b31 q87 (by omega)
  replace a54 := a54.kept q87 (by omega)
  replace a65 := a65.kept q87 (by omega)
  replace b66 := blk_kept b66 q87 (by omega)
  refine lm_neg (by omega) ?_
  refine lm_gf ?_
  refine lm_gf ?_
  refine lm_gf ?_
  refine lm_eq rfl (vcons (a54.vw (okW_rows (d := 7) lenMsg tyMsgS (okWMsg 5) (x0.tail))) (vcons (a19.vw (okW_rows (d := 7) lenMsg tyMsgS (okWMsg 5) (x0.tail))) vnil)) (eqF_MsgS (n + 26) (by omega) _ (x0.tail) s4w) ?_
  refine lm_gf ?_
  refine lm_not ?_
  refine lm_pk ?_
  refine lm_gf ?_
  refine lw_ld b66 (a65.len.trans (lenMsg _)) ?_
  refine lm_gf ?_
  refine lw_ld b31 (a30.len.trans (lenMsg _)) ?_
  refine lm_gf ?_
  refine lm_eq rfl (vcons (a65.vw (okWMsg 5 (vPop1 x0))) (vcons (a30.vw (okWMsg 5 (vPop1 x0))) vnil)) (eqF_Msg (n + 27) (by omega) _ (vPop1 x0) s6w) ?_
  refine lm_gf ?_
  refine lm_not ?_
  refine lm_pk ?_
  refine lm_gf ?_
  refine lm_gf ?_
  refine lm_gf ?_
  refine lm_neB ?_
  refine lm_pk ?_
  refine lm_cf ?_
  refine lm_mark (fs := mfMsgS) (t := (rowsC encMsg (x0.tail))) (mk_MsgS (n + 26) (by omega)) ⟨_, _, rfl⟩ a54 (wf_rows _ s4.1 fun y hy => wfMsg y (s4.2 y hy)) (by omega) (by omega) fun G89 a91 q90 => ?_
  replace a19 := a19.kept q90 (by omega)
  replace a30 := a30.kept q90 (by omega)
  replace b31 := blk_kept b31 q90 (by omega)
  replace a65 := a65.kept q90 (by omega)
  replace b66 := blk_kept b66 q90 (by omega)
  refine lw_ld b66 (a65.len.trans (lenMsg _)) ?_
  refine lm_markv (mk_MsgV (n + 26) (by omega)) rfl a65 (wfvMsg _ s6) (by omega) (by omega) fun G92 a94 q93 => ?_
  replace a19 := a19.kept q93 (by omega)
  replace a30 := a30.kept q93 (by omega)
  replace b31 := blk_kept b31 q93 (by omega)
  replace a91 := a91.kept q93 (by rw [mkF_nb]; omega)
  replace b66 := blk_kept b66 q93 (by omega)
  refine lm_held (fs := mfMsgS) (t := (rowsC encMsg (x0.tail))) (hd_MsgS (n + 26) (by omega)) ⟨_, _, rfl⟩ (a91.vw (okW_mk 8 _ _ _ _ (okW_rows (d := 7) lenMsg tyMsgS (okWMsg 5) (x0.tail)))) (wf_rows _ s4.1 fun y hy => wfMsg y (s4.2 y hy)) (by omega) (by omega) ?_
  refine lw_ld b66 (a65.len.trans (lenMsg _)) ?_
  refine lm_heldv (hd_MsgV (n + 26) (by omega)) (a94.vw (okLW_mk7 _ _ (okWMsg 5 (vPop1 x0)))) (wfvMsg _ s6) (by omega) (by omega) ?_
  refine lm_neI ?_
  refine lm_cf ?_
  refine lm_tree rfl (vcons (Vw_ro _ _ _) vnil) (toF_MsgS (n + 26) (by omega) x0 (by omega)) fun y98 X96 N95 n97 a99 => ?_
  have o100 : N12 + nbT (rowsC encMsg (x0.tail)) ≤ N95 := by have := a19.2.1; omega
  have o101 : (N12 + nbT (rowsC encMsg (x0.tail))) + nbL (encMsg (vPop1 x0)) ≤ N95 := by have := a30.2.1; omega
  have o102 : i32 < N95 := by have := (List.getElem?_eq_some_iff.1 b31).1; omega
  have o103 : N43 + nbT (rowsC encMsg (x0.tail)) ≤ N95 := by have := a91.2.1; rw [mkF_nb] at this; omega
  have o104 : (N43 + nbT (rowsC encMsg (x0.tail))) + nbL (encMsg (vPop1 x0)) ≤ N95 := by have := a94.2.1; rw [mkL_nb] at this; omega
  have o105 : i67 < N95 := by have := (List.getElem?_eq_some_iff.1 b66).1; omega
  replace a19 := a19.grow X96
  replace a30 := a30.grow X96
  replace b31 := blk_grow b31 X96
  replace a91 := a91.grow X96
  replace a94 := a94.grow X96
  replace b66 := blk_grow b66 X96
  refine lm_tup rfl (vcons (a99.vw (okW_rows (d := 7) lenMsg tyMsgS (okWMsg 5) (x0))) vnil) (implF_Pop (n + 25) (by omega) x0 k0 (by omega)) rfl fun ys109 X107 N106 n108 a110 => ?_
  have o111 : N12 + nbT (rowsC encMsg (x0.tail)) ≤ N106 := by have := a19.2.1; omega
  have o112 : (N12 + nbT (rowsC encMsg (x0.tail))) + nbL (encMsg (vPop1 x0)) ≤ N106 := by have := a30.2.1; omega
  have o113 : i32 < N106 := by have := (List.getElem?_eq_some_iff.1 b31).1; omega
  have o114 : N43 + nbT (rowsC encMsg (x0.tail)) ≤ N106 := by have := a91.2.1; rw [mkF_nb] at this; omega
  have o115 : (N43 + nbT (rowsC encMsg (x0.tail))) + nbL (encMsg (vPop1 x0)) ≤ N106 := by have := a94.2.1; rw [mkL_nb] at this; omega
  have o116 : i67 < N106 := by have := (List.getElem?_eq_some_iff.1 b66).1; omega
  replace a19 := a19.grow X107
  replace a30 := a30.grow X107
  replace b31 := blk_grow b31 X107
  replace a91 := a91.grow X107
  replace a94 := a94.grow X107
  replace b66 := blk_grow b66 X107
  obtain ⟨y117, ys118, rfl, a119, a120⟩ := a110.cons
  obtain ⟨y121, ys122, rfl, a123, a124⟩ := a120.cons
  obtain ⟨y125, ys126, rfl, a127, a128⟩ := a124.cons
  obtain rfl := a128.nil
  refine lm_ex rfl ?_
  refine lm_ex rfl ?_
  obtain ⟨ys129, rfl, a130⟩ := a123.agg tyMsg
  refine lm_ex rfl ?_
  obtain rfl := a127.sc
  refine lm_put rfl (a130.len.trans (lenMsg _)) (a130.leaf (flMsg _)) fun i132 i132E b131 => ?_
  have o133 : N12 + nbT (rowsC encMsg (x0.tail)) ≤ i132 := by have := a19.2.1; omega
  have o134 : (N12 + nbT (rowsC encMsg (x0.tail))) + nbL (encMsg (vPop1 x0)) ≤ i132 := by have := a30.2.1; omega
  have o135 : i32 < i132 := by have := (List.getElem?_eq_some_iff.1 b31).1; omega
  have o136 : N43 + nbT (rowsC encMsg (x0.tail)) ≤ i132 := by have := a91.2.1; rw [mkF_nb] at this; omega
  have o137 : (N43 + nbT (rowsC encMsg (x0.tail))) + nbL (encMsg (vPop1 x0)) ≤ i132 := by have := a94.2.1; rw [mkL_nb] at this; omega
  have o138 : i67 < i132 := by have := (List.getElem?_eq_some_iff.1 b66).1; omega
  have o139 : N106 + nbT (rowsC encMsg (x0.tail)) ≤ i132 := by have := a119.2.1; omega
  have o140 : (N106 + nbT (rowsC encMsg (x0.tail))) + nbL (encMsg (vPop1 x0)) ≤ i132 := by have := a130.2.1; omega
  replace a19 := a19.grow [⟨ys129, true, true⟩]
  replace a30 := a30.grow [⟨ys129, true, true⟩]
  replace b31 := blk_grow b31 [⟨ys129, true, true⟩]
  replace a91 := a91.grow [⟨ys129, true, true⟩]
  replace a94 := a94.grow [⟨ys129, true, true⟩]
  replace b66 := blk_grow b66 [⟨ys129, true, true⟩]
  replace a119 := a119.grow [⟨ys129, true, true⟩]
  replace a130 := a130.grow [⟨ys129, true, true⟩]
  refine lm_eq rfl (vcons (a119.vw (okW_rows (d := 7) lenMsg tyMsgS (okWMsg 5) (x0.tail))) (vcons (a19.vw (okW_rows (d := 7) lenMsg tyMsgS (okWMsg 5) (x0.tail))) vnil)) (eqF_MsgS (n + 26) (by omega) _ (x0.tail) s4w) ?_
  refine lm_not ?_
  refine lm_gf ?_
  refine lw_ld b131 (a130.len.trans (lenMsg _)) ?_
  refine lm_gf ?_
  refine lw_ld b31 (a30.len.trans (lenMsg _)) ?_
  refine lm_gf ?_
  refine lm_eq rfl (vcons (a130.vw (okWMsg 5 (vPop1 x0))) (vcons (a30.vw (okWMsg 5 (vPop1 x0))) vnil)) (eqF_Msg (n + 27) (by omega) _ (vPop1 x0) s6w) ?_
  refine lm_gf ?_
  refine lm_not ?_
  refine lm_pk ?_
  refine lm_gf ?_
  refine lm_gf ?_
  refine lm_gf ?_
  refine lm_neB ?_
  refine lm_pk ?_
  refine lm_cf ?_
  refine lm_held (fs := mfMsgS) (t := (rowsC encMsg (x0.tail))) (hd_MsgS (n + 26) (by omega)) ⟨_, _, rfl⟩ (a91.vw (okW_mk 8 _ _ _ _ (okW_rows (d := 7) lenMsg tyMsgS (okWMsg 5) (x0.tail)))) (wf_rows _ s4.1 fun y hy => wfMsg y (s4.2 y hy)) (by omega) (by omega) ?_
  refine lw_ld b66 (a65.len.trans (lenMsg _)) ?_
  refine lm_heldv (hd_MsgV (n + 26) (by omega)) (a94.vw (okLW_mk7 _ _ (okWMsg 5 (vPop1 x0)))) (wfvMsg _ s6) (by omega) (by omega) ?_
  refine lm_neI ?_
  refine lm_cf ?_
  rfl
end Go.Proofs.Ytpcgppelelfmiaa.Abs
namespace Go.Proofs.Ytpcgppelelfmiaa.fnExactPop
open Go Go.ChangeShapes Go.WideShapes Go.ChangeAt Go.RowKit
open Go.Proofs.Ytpcgppelelfmiaa.Abs
set_option linter.unusedVariables false
theorem own : ownKnob Try.prog.godebug = none := by kernel_rfl
theorem laidOut : laidOutB Try.prog = true := by kernel_rfl
theorem types : ([22].all (tyB ti0 14)) = true := by kernel_rfl
theorem readable : ([22].all fun t => Try.prog.readableRec t && decide (t < Try.prog.types.size)) = true := by kernel_rfl

theorem pure_ {xs : List AV} (h : okAs ti0 14 [22] xs) : ∃ n, tree E0 n 4 3 xs = some (.sc (.bool true)) := by
  obtain ⟨y0, ys0, rfl, ⟨cs0, h0, rfl⟩, h⟩ := h
  obtain rfl := h
  obtain ⟨x0, rfl, k0⟩ := okT_rows (ok := okMsg) ⟨_, rfl, rfl, rfl, rfl, rfl, rfl⟩ (fun n cs h => okT_Msg h) h0
  exact ⟨_, law_Pop 1048577 (by omega) x0 k0⟩

set_option maxRecDepth 100000 in
theorem lifted (os : Os) (started : os.Started) (H : Type) (enc : TypeId × Value → H) :
    ReturnsInHanded {} Try.checked os 3 .any (Rows.fnExactPopSpec.pre6 enc Try.prog Try.f3 Rows.fnExactPopRow.domain false) (Rows.fnExactPopSpec.post enc Try.prog Try.f3 false true false false) := by
  refine returnsInHanded_of_change_sized (C := Try.checked) own started (by kernel_rfl) Try.func3
    (ChangeSpec.witness6 (enc := enc) (C := Try.checked) false ⟨#[], #[.slice none 0 0], []⟩ 8 (by kernel_rfl) (by kernel_rfl) (by kernel_rfl) (by kernel_rfl)) ?_
  intro W base args ds gs before hval0 hW hcnd hsz0 _
  have hval : ∀ (j : Nat) t v, Try.f3.params[j]? = some t → args[j]? = some v → Value.okWide Try.prog W .any base t v := hval0
  have hW' := hW
  obtain ⟨p, q, hA0, hV, rfl, hfz, hnd⟩ := hW
  have hA : DataW.TrodAll enc Try.prog W 0 (fun _ => true) true Try.f3.params.toList args.toList ds p := hA0
  rw [Try.params3] at hA hval
  obtain ⟨xs, hok, hl, hx⟩ := args_sound tabOk0 (n := 14) [22] args.toList ds p hA (fun j t v ht hv => hval j t v (by simpa using ht) (by simpa using hv)) types
  obtain ⟨m, hm⟩ := pure_ hok
  have hc := tree_bool env0 hm (w := W) trivial hl hx
  have hA1 := hA
  obtain ⟨v0, vs0, d0, ds0, p0, q0, hargs, rfl, rfl, g0, r0⟩ := trodAll_cons hA
  obtain ⟨rfl, rfl, rfl⟩ := trodAll_nil r0
  obtain ⟨rfl, rfl⟩ := trodVars_none hV
  have hc2 : Calls Try.prog 3 args W fun e W' => e = .returned (.bool true) ∧ Below W.heap.size W W' := by simpa using hc
  refine hc2.mono fun e W' ⟨he, bel⟩ => ?_
  subst he
  exact ⟨_, rfl, _, _, _, [], _, [], hW', trodAll_mk1 (shut_bool Try.underlying4 _), trodAll_stays laidOut bel readable hA1, rfl, bel.frame _, fun h => by cases h⟩
theorem over : Rows.fnExactPopRow.holds Try.pinned (OpenSpec.ofChange Rows.fnExactPopSpec) :=
  OpenClaim.holds_of_wide 3 Try.f3 rfl rfl rfl rfl rfl rfl rfl ⟨rfl, rfl, rfl, rfl, rfl⟩ rfl rfl rfl rfl rfl (by kernel_rfl) Try.func3 (by kernel_rfl)
    (of_decide_eq_true (by kernel_rfl)) (by unfold Func.isWrapper; first | (rw [if_pos (by decide +kernel)]; kernel_rfl) | (rw [if_neg (by decide +kernel)]; exact ⟨rfl, rfl⟩))
    (fun os started H enc _ => lifted os started H enc)
theorem proved : Rows.FnExactPopSaid := over
#print axioms proved
end Go.Proofs.Ytpcgppelelfmiaa.fnExactPop
namespace Go.Proofs.Ytpcgppelelfmiaa
/-- The row, under a short name, for the claim. -/
theorem fnExactPop_holds : Rows.FnExactPopSaid := fnExactPop.proved
end Go.Proofs.Ytpcgppelelfmiaa
