/- The law FnExactSessPush and its row: every input, no condition (written by laws.py). -/
import Derived.Test.YtdameggfgnpehaaGreatDoorMe
import Derived.Test.YtdameggfgnpehaaGreatDoorRows
import Derived.Test.YtdameggfgnpehaaGreatDoorTie
import Derived.Test.YtdameggfgnpehaaGreatDoorCards
import Derived.Lib.LaidIn
import Derived.Lib.LaidU8T
import Derived.PinnedBridge
import Derived.SevenTiedAt
import Derived.Deep.DeepHandedRow
import Derived.Deep.DeepWitnessRowRef
import Derived.WalkKit
import Derived.ProofKit
import Derived.OpenShut
import Derived.ShutString
import Derived.ChangeOld
import Derived.Below
import Derived.SizedLaws
namespace Go.Proofs.YtdameggfgnpehaaGreatDoor.Abs
open Go
set_option linter.unusedVariables false
set_option linter.unusedSimpArgs false
set_option maxHeartbeats 6400000 in
theorem law_SessPush (n : Nat) (hn : 1048576 < n) (x0 : SessV) (x1 : Int) (x2 : MsgV) (k0 : okSess x0) (k1 : okI x1) (k2 : okMsg x2) : tree E0 (n + 30) 4 5 [.agg (encSess x0), .sc (.int .i64 x1), .agg (encMsg x2)] = some (.sc (.bool true)) := by
 rw [tree_def, f5_eq, f5]
 simp only [PR_box, PR_new, PR_load, PR_store, PR_bin, PR_binB, PR_un, PR_cond, PR_lenS, PR_extr, PR_guard, PR_pick]
 refine w_box (flSess x0) fun i2 i2E B1 => ?_
 refine w_box (flMsg x2) fun i4 i4E B3 => ?_
 replace B1 := blk_grow B1 [⟨encMsg x2, true, true⟩]
 refine lw_ld B1 (lenSess x0) ?_
 refine lw_sz rfl (vcons (Vw_agg _ (flSess x0)) (vcons (Vw_sc _ _) vnil)) (szF_Sess (n + 23) (by omega) _ x0 k0 _ (by omega) (by omega)) (by omega) rfl fun b0 => ?_
 refine lw_ld B3 (lenMsg x2) ?_
 refine lw_sz rfl (vcons (Vw_agg _ (flMsg x2)) (vcons (Vw_sc _ _) vnil)) (szF_Msg (n + 27) (by omega) _ x2 k2 _ (by omega) (by omega)) (by omega) rfl fun b2 => ?_
 have c6 := cntvSess (x0)
 have s5w : wtSess x0 ≤ 1048576 := by omega
 have s5 := smwSess x0 s5w
 have c8 := cntvMsg (x2)
 have s7w : wtMsg x2 ≤ 1048576 := by omega
 have s7 := smwMsg x2 s7w
 have c9 := cntvSess (vSessPush x0 x1 x2)
 obtain ⟨s10w, s10⟩ := resF_SessPush_0 x0 x1 x2 (by omega) (by omega)
 refine lw_ld B1 (lenSess x0) ?_
 refine lw_ld B3 (lenMsg x2) ?_
 refine pBoth_eq ?_ ?_
 ·refine lm_agg rfl (vcons (Vw_agg _ (flSess x0)) vnil) (toF_Sess (n + 23) (by omega) x0 (by omega)) tySess fun y14 X12 N11 n13 a15 => ?_
  have o16 : i2 < N11 := by have := (List.getElem?_eq_some_iff.1 B1).1; omega
  have o17 : i4 < N11 := by have := (List.getElem?_eq_some_iff.1 B3).1; omega
  replace B1 := blk_grow B1 X12
  replace B3 := blk_grow B3 X12
  refine pBoth_eq ?_ ?_
  ·refine lm_agg rfl (vcons (Vw_agg _ (flMsg x2)) vnil) (toF_Msg (n + 27) (by omega) x2 (by omega)) tyMsg fun y21 X19 N18 n20 a22 => ?_
   have o23 : i2 < N18 := by have := (List.getElem?_eq_some_iff.1 B1).1; omega
   have o24 : i4 < N18 := by have := (List.getElem?_eq_some_iff.1 B3).1; omega
   have o25 : N11 + nbL (encSess (x0)) ≤ N18 := by have := a15.2.1; omega
   replace B1 := blk_grow B1 X19
   replace B3 := blk_grow B3 X19
   replace a15 := a15.grow X19
   refine pBoth_eq ?_ ?_
   ·refine lm_tup rfl (vcons (a15.vw (okWSess 4 (x0))) (vcons (Vw_sc _ _) (vcons (a22.vw (okWMsg 5 (x2))) vnil))) (specF_SessPush (n + 16) (by omega) x0 x1 x2 k0 k1 k2 (by omega) (by omega)) rfl fun ys29 X27 N26 n28 a30 => ?_
    have o31 : i2 < N26 := by have := (List.getElem?_eq_some_iff.1 B1).1; omega
    have o32 : i4 < N26 := by have := (List.getElem?_eq_some_iff.1 B3).1; omega
    replace B1 := blk_grow B1 X27
    replace B3 := blk_grow B3 X27
    obtain ⟨y33, ys34, rfl, a35, a36⟩ := a30.cons
    obtain ⟨y37, ys38, rfl, a39, a40⟩ := a36.cons
    obtain rfl := a40.nil
    refine lm_ex rfl ?_
    obtain ⟨ys41, rfl, a42⟩ := a35.agg tySess
    refine lm_ex rfl ?_
    obtain rfl := a39.sc
    refine lm_put rfl (a42.len.trans (lenSess _)) (a42.leaf (flSess _)) fun i44 i44E B43 => ?_
    have o45 : i2 < i44 := by have := (List.getElem?_eq_some_iff.1 B1).1; omega
    have o46 : i4 < i44 := by have := (List.getElem?_eq_some_iff.1 B3).1; omega
    have o47 : N26 + nbL (encSess (vSessPush x0 x1 x2)) ≤ i44 := by have := a42.2.1; omega
    replace B1 := blk_grow B1 [⟨ys41, true, true⟩]
    replace B3 := blk_grow B3 [⟨ys41, true, true⟩]
    replace a42 := a42.grow [⟨ys41, true, true⟩]
    refine lw_ld B1 (lenSess x0) ?_
    refine lm_agg rfl (vcons (Vw_agg _ (flSess x0)) vnil) (toF_Sess (n + 23) (by omega) x0 (by omega)) tySess fun y51 X49 N48 n50 a52 => ?_
    have o53 : i2 < N48 := by have := (List.getElem?_eq_some_iff.1 B1).1; omega
    have o54 : i4 < N48 := by have := (List.getElem?_eq_some_iff.1 B3).1; omega
    have o55 : N26 + nbL (encSess (vSessPush x0 x1 x2)) ≤ N48 := by have := a42.2.1; omega
    have o56 : i44 < N48 := by have := (List.getElem?_eq_some_iff.1 B43).1; omega
    replace B1 := blk_grow B1 X49
    replace B3 := blk_grow B3 X49
    replace a42 := a42.grow X49
    replace B43 := blk_grow B43 X49
    refine lm_put rfl (a52.len.trans (lenSess _)) (a52.leaf (flSess _)) fun i58 i58E B57 => ?_
    have o59 : i2 < i58 := by have := (List.getElem?_eq_some_iff.1 B1).1; omega
    have o60 : i4 < i58 := by have := (List.getElem?_eq_some_iff.1 B3).1; omega
    have o61 : N26 + nbL (encSess (vSessPush x0 x1 x2)) ≤ i58 := by have := a42.2.1; omega
    have o62 : i44 < i58 := by have := (List.getElem?_eq_some_iff.1 B43).1; omega
    have o63 : N48 + nbL (encSess (x0)) ≤ i58 := by have := a52.2.1; omega
    replace B1 := blk_grow B1 [⟨y51, true, true⟩]
    replace B3 := blk_grow B3 [⟨y51, true, true⟩]
    replace a42 := a42.grow [⟨y51, true, true⟩]
    replace B43 := blk_grow B43 [⟨y51, true, true⟩]
    replace a52 := a52.grow [⟨y51, true, true⟩]
    refine lw_ld B3 (lenMsg x2) ?_
    refine lm_agg rfl (vcons (Vw_agg _ (flMsg x2)) vnil) (toF_Msg (n + 27) (by omega) x2 (by omega)) tyMsg fun y67 X65 N64 n66 a68 => ?_
    have o69 : i2 < N64 := by have := (List.getElem?_eq_some_iff.1 B1).1; omega
    have o70 : i4 < N64 := by have := (List.getElem?_eq_some_iff.1 B3).1; omega
    have o71 : N26 + nbL (encSess (vSessPush x0 x1 x2)) ≤ N64 := by have := a42.2.1; omega
    have o72 : i44 < N64 := by have := (List.getElem?_eq_some_iff.1 B43).1; omega
    have o73 : N48 + nbL (encSess (x0)) ≤ N64 := by have := a52.2.1; omega
    have o74 : i58 < N64 := by have := (List.getElem?_eq_some_iff.1 B57).1; omega
    replace B1 := blk_grow B1 X65
    replace B3 := blk_grow B3 X65
    replace a42 := a42.grow X65
    replace B43 := blk_grow B43 X65
    replace a52 := a52.grow X65
    replace B57 := blk_grow B57 X65
    refine lm_put rfl (a68.len.trans (lenMsg _)) (a68.leaf (flMsg _)) fun i76 i76E B75 => ?_
    have o77 : i2 < i76 := by have := (List.getElem?_eq_some_iff.1 B1).1; omega
    have o78 : i4 < i76 := by have := (List.getElem?_eq_some_iff.1 B3).1; omega
    have o79 : N26 + nbL (encSess (vSessPush x0 x1 x2)) ≤ i76 := by have := a42.2.1; omega
    have o80 : i44 < i76 := by have := (List.getElem?_eq_some_iff.1 B43).1; omega
    have o81 : N48 + nbL (encSess (x0)) ≤ i76 := by have := a52.2.1; omega
    have o82 : i58 < i76 := by have := (List.getElem?_eq_some_iff.1 B57).1; omega
    have o83 : N64 + nbL (encMsg (x2)) ≤ i76 := by have := a68.2.1; omega
    replace B1 := blk_grow B1 [⟨y67, true, true⟩]
    replace B3 := blk_grow B3 [⟨y67, true, true⟩]
    replace a42 := a42.grow [⟨y67, true, true⟩]
    replace B43 := blk_grow B43 [⟨y67, true, true⟩]
    replace a52 := a52.grow [⟨y67, true, true⟩]
    replace B57 := blk_grow B57 [⟨y67, true, true⟩]
    replace a68 := a68.grow [⟨y67, true, true⟩]
    refine lw_ld B57 (a52.len.trans (lenSess _)) ?_
    refine lw_ld B75 (a68.len.trans (lenMsg _)) ?_
    refine lm_tup rfl (vcons (a52.vw (okWSess 4 (x0))) (vcons (Vw_sc _ _) (vcons (a68.vw (okWMsg 5 (x2))) vnil))) (implF_SessPush (n + 16) (by omega) x0 x1 x2 k0 k1 k2 (by omega) (by omega)) rfl fun ys87 X85 N84 n86 a88 => ?_
    have o89 : i2 < N84 := by have := (List.getElem?_eq_some_iff.1 B1).1; omega
    have o90 : i4 < N84 := by have := (List.getElem?_eq_some_iff.1 B3).1; omega
    have o91 : N26 + nbL (encSess (vSessPush x0 x1 x2)) ≤ N84 := by have := a42.2.1; omega
    have o92 : i44 < N84 := by have := (List.getElem?_eq_some_iff.1 B43).1; omega
    have o93 : N48 + nbL (encSess (x0)) ≤ N84 := by have := a52.2.1; omega
    have o94 : i58 < N84 := by have := (List.getElem?_eq_some_iff.1 B57).1; omega
    have o95 : N64 + nbL (encMsg (x2)) ≤ N84 := by have := a68.2.1; omega
    have o96 : i76 < N84 := by have := (List.getElem?_eq_some_iff.1 B75).1; omega
    replace B1 := blk_grow B1 X85
    replace B3 := blk_grow B3 X85
    replace a42 := a42.grow X85
    replace B43 := blk_grow B43 X85
    replace a52 := a52.grow X85
    replace B57 := blk_grow B57 X85
    replace a68 := a68.grow X85
    replace B75 := blk_grow B75 X85
    obtain ⟨y97, ys98, rfl, a99, a100⟩ := a88.cons
    obtain ⟨y101, ys102, rfl, a103, a104⟩ := a100.cons
    obtain rfl := a104.nil
    refine lm_ex rfl ?_
    obtain ⟨ys105, rfl, a106⟩ := a99.agg tySess
    refine lm_ex rfl ?_
    obtain rfl := a103.sc
    refine lm_put rfl (a106.len.trans (lenSess _)) (a106.leaf (flSess _)) fun i108 i108E B107 => ?_
    have o109 : i2 < i108 := by have := (List.getElem?_eq_some_iff.1 B1).1; omega
    have o110 : i4 < i108 := by have := (List.getElem?_eq_some_iff.1 B3).1; omega
    have o111 : N26 + nbL (encSess (vSessPush x0 x1 x2)) ≤ i108 := by have := a42.2.1; omega
    have o112 : i44 < i108 := by have := (List.getElem?_eq_some_iff.1 B43).1; omega
    have o113 : N48 + nbL (encSess (x0)) ≤ i108 := by have := a52.2.1; omega
    have o114 : i58 < i108 := by have := (List.getElem?_eq_some_iff.1 B57).1; omega
    have o115 : N64 + nbL (encMsg (x2)) ≤ i108 := by have := a68.2.1; omega
    have o116 : i76 < i108 := by have := (List.getElem?_eq_some_iff.1 B75).1; omega
    have o117 : N84 + nbL (encSess (vSessPush x0 x1 x2)) ≤ i108 := by have := a106.2.1; omega
    replace B1 := blk_grow B1 [⟨ys105, true, true⟩]
    replace B3 := blk_grow B3 [⟨ys105, true, true⟩]
    replace a42 := a42.grow [⟨ys105, true, true⟩]
    replace B43 := blk_grow B43 [⟨ys105, true, true⟩]
    replace a52 := a52.grow [⟨ys105, true, true⟩]
    replace B57 := blk_grow B57 [⟨ys105, true, true⟩]
    replace a68 := a68.grow [⟨ys105, true, true⟩]
    replace B75 := blk_grow B75 [⟨ys105, true, true⟩]
    replace a106 := a106.grow [⟨ys105, true, true⟩]
    refine lw_ld B107 (a106.len.trans (lenSess _)) ?_
    refine lw_ld B43 (a42.len.trans (lenSess _)) ?_
    refine lm_eq rfl (vcons (a106.vw (okWSess 4 (vSessPush x0 x1 x2))) (vcons (a42.vw (okWSess 4 (vSessPush x0 x1 x2))) vnil)) (eqF_Sess (n + 23) (by omega) _ (vSessPush x0 x1 x2) s10w) ?_
    refine lm_not ?_
    refine lm_gf ?_
    refine lm_gf ?_
    refine lm_gf ?_
    refine lm_neI ?_
    refine lm_pk ?_
    refine lm_cf ?_
    refine lw_ld B57 (a52.len.trans (lenSess _)) ?_
    refine lw_ld B1 (lenSess x0) ?_
    refine lm_agg rfl (vcons (Vw_agg _ (flSess x0)) vnil) (toF_Sess (n + 23) (by omega) x0 (by omega)) tySess fun y121 X119 N118 n120 a122 => ?_
    have o123 : i2 < N118 := by have := (List.getElem?_eq_some_iff.1 B1).1; omega
    have o124 : i4 < N118 := by have := (List.getElem?_eq_some_iff.1 B3).1; omega
    have o125 : N26 + nbL (encSess (vSessPush x0 x1 x2)) ≤ N118 := by have := a42.2.1; omega
    have o126 : i44 < N118 := by have := (List.getElem?_eq_some_iff.1 B43).1; omega
    have o127 : N48 + nbL (encSess (x0)) ≤ N118 := by have := a52.2.1; omega
    have o128 : i58 < N118 := by have := (List.getElem?_eq_some_iff.1 B57).1; omega
    have o129 : N64 + nbL (encMsg (x2)) ≤ N118 := by have := a68.2.1; omega
    have o130 : i76 < N118 := by have := (List.getElem?_eq_some_iff.1 B75).1; omega
    have o131 : N84 + nbL (encSess (vSessPush x0 x1 x2)) ≤ N118 := by have := a106.2.1; omega
    have o132 : i108 < N118 := by have := (List.getElem?_eq_some_iff.1 B107).1; omega
    replace B1 := blk_grow B1 X119
    replace B3 := blk_grow B3 X119
    replace a42 := a42.grow X119
    replace B43 := blk_grow B43 X119
    replace a52 := a52.grow X119
    replace B57 := blk_grow B57 X119
    replace a68 := a68.grow X119
    replace B75 := blk_grow B75 X119
    replace a106 := a106.grow X119
    replace B107 := blk_grow B107 X119
    refine lm_eq rfl (vcons (a52.vw (okWSess 4 (x0))) (vcons (a122.vw (okWSess 4 (x0))) vnil)) (eqF_Sess (n + 23) (by omega) _ (x0) s5w) ?_
    refine lm_not ?_
    refine lm_cf ?_
    refine lw_ld B75 (a68.len.trans (lenMsg _)) ?_
    refine lw_ld B3 (lenMsg x2) ?_
    refine lm_agg rfl (vcons (Vw_agg _ (flMsg x2)) vnil) (toF_Msg (n + 27) (by omega) x2 (by omega)) tyMsg fun y136 X134 N133 n135 a137 => ?_
    have o138 : i2 < N133 := by have := (List.getElem?_eq_some_iff.1 B1).1; omega
    have o139 : i4 < N133 := by have := (List.getElem?_eq_some_iff.1 B3).1; omega
    have o140 : N26 + nbL (encSess (vSessPush x0 x1 x2)) ≤ N133 := by have := a42.2.1; omega
    have o141 : i44 < N133 := by have := (List.getElem?_eq_some_iff.1 B43).1; omega
    have o142 : N48 + nbL (encSess (x0)) ≤ N133 := by have := a52.2.1; omega
    have o143 : i58 < N133 := by have := (List.getElem?_eq_some_iff.1 B57).1; omega
    have o144 : N64 + nbL (encMsg (x2)) ≤ N133 := by have := a68.2.1; omega
    have o145 : i76 < N133 := by have := (List.getElem?_eq_some_iff.1 B75).1; omega
    have o146 : N84 + nbL (encSess (vSessPush x0 x1 x2)) ≤ N133 := by have := a106.2.1; omega
    have o147 : i108 < N133 := by have := (List.getElem?_eq_some_iff.1 B107).1; omega
    replace B1 := blk_grow B1 X134
    replace B3 := blk_grow B3 X134
    replace a42 := a42.grow X134
    replace B43 := blk_grow B43 X134
    replace a52 := a52.grow X134
    replace B57 := blk_grow B57 X134
    replace a68 := a68.grow X134
    replace B75 := blk_grow B75 X134
    replace a106 := a106.grow X134
    replace B107 := blk_grow B107 X134
    refine lm_eq rfl (vcons (a68.vw (okWMsg 5 (x2))) (vcons (a137.vw (okWMsg 5 (x2))) vnil)) (eqF_Msg (n + 27) (by omega) _ (x2) s7w) ?_
    refine lm_not ?_
    refine lm_cf ?_
    refine lw_ld B57 (a52.len.trans (lenSess _)) ?_
    refine lm_markv (mk_SessV (n + 24) (by omega)) rfl a52 (wfvSess _ s5) (by omega) (by omega) fun G148 a150 q149 => ?_
    replace B1 := blk_kept B1 q149 (by omega)
    replace B3 := blk_kept B3 q149 (by omega)
    replace a42 := a42.kept q149 (by omega)
    replace B43 := blk_kept B43 q149 (by omega)
    replace a68 := a68.kept q149 (by omega)
    replace B75 := blk_kept B75 q149 (by omega)
    replace a106 := a106.kept q149 (by omega)
    replace B107 := blk_kept B107 q149 (by omega)
    refine lw_ld B75 (a68.len.trans (lenMsg _)) ?_
    refine lm_markv (mk_MsgV (n + 26) (by omega)) rfl a68 (wfvMsg _ s7) (by omega) (by omega) fun G151 a153 q152 => ?_
    replace B1 := blk_kept B1 q152 (by omega)
    replace B3 := blk_kept B3 q152 (by omega)
    replace a42 := a42.kept q152 (by omega)
    replace B43 := blk_kept B43 q152 (by omega)
    replace a106 := a106.kept q152 (by omega)
    replace B107 := blk_kept B107 q152 (by omega)
    refine lm_neg (by omega) ?_
    refine lm_gf ?_
    refine lw_ld B107 (a106.len.trans (lenSess _)) ?_
    refine lm_gf ?_
    refine lw_ld B43 (a42.len.trans (lenSess _)) ?_
    refine lm_gf ?_
    refine lm_eq rfl (vcons (a106.vw (okWSess 4 (vSessPush x0 x1 x2))) (vcons (a42.vw (okWSess 4 (vSessPush x0 x1 x2))) vnil)) (eqF_Sess (n + 23) (by omega) _ (vSessPush x0 x1 x2) s10w) ?_
    refine lm_gf ?_
    refine lm_not ?_
    refine lm_pk ?_
    refine lm_gf ?_
    refine lm_gf ?_
    refine lm_gf ?_
    refine lm_neI ?_
    refine lm_pk ?_
    refine lm_cf ?_
    refine lw_ld B107 (a106.len.trans (lenSess _)) ?_
    refine lm_markv (mk_SessV (n + 24) (by omega)) rfl a106 (wfvSess _ s10) (by omega) (by omega) fun G154 a156 q155 => ?_
    replace B1 := blk_kept B1 q155 (by omega)
    replace B3 := blk_kept B3 q155 (by omega)
    replace a42 := a42.kept q155 (by omega)
    replace B43 := blk_kept B43 q155 (by omega)
    replace B107 := blk_kept B107 q155 (by omega)
    refine lw_ld B107 (a106.len.trans (lenSess _)) ?_
    refine lm_heldv (hd_SessV (n + 24) (by omega)) (a156.vw (okLW_mk7 _ _ (okWSess 4 (vSessPush x0 x1 x2)))) (wfvSess _ s10) (by omega) (by omega) ?_
    refine lm_neI ?_
    refine lm_cf ?_
    refine lw_ld B1 (lenSess x0) ?_
    refine lw_ld B3 (lenMsg x2) ?_
    refine pBoth_eq ?_ ?_
    ·refine lm_agg rfl (vcons (Vw_agg _ (flSess x0)) vnil) (toF_Sess (n + 23) (by omega) x0 (by omega)) tySess fun y160 X158 N157 n159 a161 => ?_
     have o162 : N26 + nbL (encSess (vSessPush x0 x1 x2)) ≤ N157 := by have := a42.2.1; omega
     have o163 : i44 < N157 := by have := (List.getElem?_eq_some_iff.1 B43).1; omega
     have o164 : N84 + nbL (encSess (vSessPush x0 x1 x2)) ≤ N157 := by have := a156.2.1; rw [mkL_nb] at this; omega
     have o165 : i108 < N157 := by have := (List.getElem?_eq_some_iff.1 B107).1; omega
     replace a42 := a42.grow X158
     replace B43 := blk_grow B43 X158
     replace a156 := a156.grow X158
     replace B107 := blk_grow B107 X158
     refine pBoth_eq ?_ ?_
     ·refine lm_agg rfl (vcons (Vw_agg _ (flMsg x2)) vnil) (toF_Msg (n + 27) (by omega) x2 (by omega)) tyMsg fun y169 X167 N166 n168 a170 => ?_
      have o171 : N26 + nbL (encSess (vSessPush x0 x1 x2)) ≤ N166 := by have := a42.2.1; omega
      have o172 : i44 < N166 := by have := (List.getElem?_eq_some_iff.1 B43).1; omega
      have o173 : N84 + nbL (encSess (vSessPush x0 x1 x2)) ≤ N166 := by have := a156.2.1; rw [mkL_nb] at this; omega
      have o174 : i108 < N166 := by have := (List.getElem?_eq_some_iff.1 B107).1; omega
      have o175 : N157 + nbL (encSess (x0)) ≤ N166 := by have := a161.2.1; omega
      replace a42 := a42.grow X167
      replace B43 := blk_grow B43 X167
      replace a156 := a156.grow X167
      replace B107 := blk_grow B107 X167
      replace a161 := a161.grow X167
      refine pBoth_eq ?_ ?_
      ·refine lm_tup rfl (vcons (a161.vw (okWSess 4 (x0))) (vcons (Vw_sc _ _) (vcons (a170.vw (okWMsg 5 (x2))) vnil))) (implF_SessPush (n + 16) (by omega) x0 x1 x2 k0 k1 k2 (by omega) (by omega)) rfl fun ys179 X177 N176 n178 a180 => ?_
       have o181 : N26 + nbL (encSess (vSessPush x0 x1 x2)) ≤ N176 := by have := a42.2.1; omega
       have o182 : i44 < N176 := by have := (List.getElem?_eq_some_iff.1 B43).1; omega
       have o183 : N84 + nbL (encSess (vSessPush x0 x1 x2)) ≤ N176 := by have := a156.2.1; rw [mkL_nb] at this; omega
       have o184 : i108 < N176 := by have := (List.getElem?_eq_some_iff.1 B107).1; omega
       replace a42 := a42.grow X177
       replace B43 := blk_grow B43 X177
       replace a156 := a156.grow X177
       replace B107 := blk_grow B107 X177
       obtain ⟨y185, ys186, rfl, a187, a188⟩ := a180.cons
       obtain ⟨y189, ys190, rfl, a191, a192⟩ := a188.cons
       obtain rfl := a192.nil
       refine lm_ex rfl ?_
       obtain ⟨ys193, rfl, a194⟩ := a187.agg tySess
       refine lm_ex rfl ?_
       obtain rfl := a191.sc
       refine lm_put rfl (a194.len.trans (lenSess _)) (a194.leaf (flSess _)) fun i196 i196E B195 => ?_
       have o197 : N26 + nbL (encSess (vSessPush x0 x1 x2)) ≤ i196 := by have := a42.2.1; omega
       have o198 : i44 < i196 := by have := (List.getElem?_eq_some_iff.1 B43).1; omega
       have o199 : N84 + nbL (encSess (vSessPush x0 x1 x2)) ≤ i196 := by have := a156.2.1; rw [mkL_nb] at this; omega
       have o200 : i108 < i196 := by have := (List.getElem?_eq_some_iff.1 B107).1; omega
       have o201 : N176 + nbL (encSess (vSessPush x0 x1 x2)) ≤ i196 := by have := a194.2.1; omega
       replace a42 := a42.grow [⟨ys193, true, true⟩]
       replace B43 := blk_grow B43 [⟨ys193, true, true⟩]
       replace a156 := a156.grow [⟨ys193, true, true⟩]
       replace B107 := blk_grow B107 [⟨ys193, true, true⟩]
       replace a194 := a194.grow [⟨ys193, true, true⟩]
       refine lw_ld B195 (a194.len.trans (lenSess _)) ?_
       refine lw_ld B43 (a42.len.trans (lenSess _)) ?_
       refine lm_eq rfl (vcons (a194.vw (okWSess 4 (vSessPush x0 x1 x2))) (vcons (a42.vw (okWSess 4 (vSessPush x0 x1 x2))) vnil)) (eqF_Sess (n + 23) (by omega) _ (vSessPush x0 x1 x2) s10w) ?_
       refine lm_not ?_
       refine lm_gf ?_
       refine lm_gf ?_
       refine lm_gf ?_
       refine lm_neI ?_
       refine lm_pk ?_
       refine lm_cf ?_
       refine lw_ld B107 (a106.len.trans (lenSess _)) ?_
       refine lm_heldv (hd_SessV (n + 24) (by omega)) (a156.vw (okLW_mk7 _ _ (okWSess 4 (vSessPush x0 x1 x2)))) (wfvSess _ s10) (by omega) (by omega) ?_
       refine lm_neI ?_
       refine lm_cf ?_
       rfl
      ·refine w_new fun i203 i203E B202 => ?_
       have o204 : N26 + nbL (encSess (vSessPush x0 x1 x2)) ≤ i203 := by have := a42.2.1; omega
       have o205 : i44 < i203 := by have := (List.getElem?_eq_some_iff.1 B43).1; omega
       have o206 : N84 + nbL (encSess (vSessPush x0 x1 x2)) ≤ i203 := by have := a156.2.1; rw [mkL_nb] at this; omega
       have o207 : i108 < i203 := by have := (List.getElem?_eq_some_iff.1 B107).1; omega
       have o208 : N157 + nbL (encSess (x0)) ≤ i203 := by have := a161.2.1; omega
       have o209 : N166 + nbL (encMsg (x2)) ≤ i203 := by have := a170.2.1; omega
       replace a42 := a42.grow [⟨[(.sc (.string ⟨#[]⟩)), (.sc (.int .i64 0)), (.sc (.bool false)), (.sc (.int .i64 0)), (.sc (.int .i64 0)), (.sc (.int .i64 0)), .nl, .nl, .nl], true, true⟩]
       replace B43 := blk_grow B43 [⟨[(.sc (.string ⟨#[]⟩)), (.sc (.int .i64 0)), (.sc (.bool false)), (.sc (.int .i64 0)), (.sc (.int .i64 0)), (.sc (.int .i64 0)), .nl, .nl, .nl], true, true⟩]
       replace a156 := a156.grow [⟨[(.sc (.string ⟨#[]⟩)), (.sc (.int .i64 0)), (.sc (.bool false)), (.sc (.int .i64 0)), (.sc (.int .i64 0)), (.sc (.int .i64 0)), .nl, .nl, .nl], true, true⟩]
       replace B107 := blk_grow B107 [⟨[(.sc (.string ⟨#[]⟩)), (.sc (.int .i64 0)), (.sc (.bool false)), (.sc (.int .i64 0)), (.sc (.int .i64 0)), (.sc (.int .i64 0)), .nl, .nl, .nl], true, true⟩]
       replace a161 := a161.grow [⟨[(.sc (.string ⟨#[]⟩)), (.sc (.int .i64 0)), (.sc (.bool false)), (.sc (.int .i64 0)), (.sc (.int .i64 0)), (.sc (.int .i64 0)), .nl, .nl, .nl], true, true⟩]
       replace a170 := a170.grow [⟨[(.sc (.string ⟨#[]⟩)), (.sc (.int .i64 0)), (.sc (.bool false)), (.sc (.int .i64 0)), (.sc (.int .i64 0)), (.sc (.int .i64 0)), .nl, .nl, .nl], true, true⟩]
       refine lm_tup rfl (vcons (a161.vw (okWSess 4 (x0))) (vcons (Vw_sc _ _) (vcons (a170.vw (okWMsg 5 (x2))) vnil))) (implF_SessPush (n + 16) (by omega) x0 x1 x2 k0 k1 k2 (by omega) (by omega)) rfl fun ys213 X211 N210 n212 a214 => ?_
       have o215 : N26 + nbL (encSess (vSessPush x0 x1 x2)) ≤ N210 := by have := a42.2.1; omega
       have o216 : i44 < N210 := by have := (List.getElem?_eq_some_iff.1 B43).1; omega
       have o217 : N84 + nbL (encSess (vSessPush x0 x1 x2)) ≤ N210 := by have := a156.2.1; rw [mkL_nb] at this; omega
       have o218 : i108 < N210 := by have := (List.getElem?_eq_some_iff.1 B107).1; omega
       have o219 : i203 < N210 := by have := (List.getElem?_eq_some_iff.1 B202).1; omega
       replace a42 := a42.grow X211
       replace B43 := blk_grow B43 X211
       replace a156 := a156.grow X211
       replace B107 := blk_grow B107 X211
       replace B202 := blk_grow B202 X211
       obtain ⟨y220, ys221, rfl, a222, a223⟩ := a214.cons
       obtain ⟨y224, ys225, rfl, a226, a227⟩ := a223.cons
       obtain rfl := a227.nil
       refine lm_ex rfl ?_
       obtain ⟨ys228, rfl, a229⟩ := a222.agg tySess
       refine lm_ex rfl ?_
       obtain rfl := a226.sc
       refine lm_store B202 rfl (a229.len.trans (lenSess _)) (a229.leaf (flSess _)) fun G230 B232 q231 => ?_
       replace a42 := a42.kept q231 (by omega)
       replace B43 := blk_kept B43 q231 (by omega)
       replace a156 := a156.kept q231 (by rw [mkL_nb]; omega)
       replace B107 := blk_kept B107 q231 (by omega)
       replace a229 := a229.kept q231 (by omega)
       refine lw_ld B232 (a229.len.trans (lenSess _)) ?_
       refine lw_ld B43 (a42.len.trans (lenSess _)) ?_
       refine lm_eq rfl (vcons (a229.vw (okWSess 4 (vSessPush x0 x1 x2))) (vcons (a42.vw (okWSess 4 (vSessPush x0 x1 x2))) vnil)) (eqF_Sess (n + 23) (by omega) _ (vSessPush x0 x1 x2) s10w) ?_
       refine lm_not ?_
       refine lm_gf ?_
       refine lm_gf ?_
       refine lm_gf ?_
       refine lm_neI ?_
       refine lm_pk ?_
       refine lm_cf ?_
       refine lw_ld B107 (a106.len.trans (lenSess _)) ?_
       refine lm_heldv (hd_SessV (n + 24) (by omega)) (a156.vw (okLW_mk7 _ _ (okWSess 4 (vSessPush x0 x1 x2)))) (wfvSess _ s10) (by omega) (by omega) ?_
       refine lm_neI ?_
       refine lm_cf ?_
       rfl
     ·refine w_new fun i234 i234E B233 => ?_
      have o235 : N26 + nbL (encSess (vSessPush x0 x1 x2)) ≤ i234 := by have := a42.2.1; omega
      have o236 : i44 < i234 := by have := (List.getElem?_eq_some_iff.1 B43).1; omega
      have o237 : N84 + nbL (encSess (vSessPush x0 x1 x2)) ≤ i234 := by have := a156.2.1; rw [mkL_nb] at this; omega
      have o238 : i108 < i234 := by have := (List.getElem?_eq_some_iff.1 B107).1; omega
      have o239 : N157 + nbL (encSess (x0)) ≤ i234 := by have := a161.2.1; omega
      replace a42 := a42.grow [⟨[(.sc (.string ⟨#[]⟩)), (.sc (.int .i64 0)), (.sc (.bool false)), (.sc (.int .i64 0)), (.sc (.int .i64 0)), (.sc (.int .i64 0)), .nl, .nl, .nl], true, true⟩]
      replace B43 := blk_grow B43 [⟨[(.sc (.string ⟨#[]⟩)), (.sc (.int .i64 0)), (.sc (.bool false)), (.sc (.int .i64 0)), (.sc (.int .i64 0)), (.sc (.int .i64 0)), .nl, .nl, .nl], true, true⟩]
      replace a156 := a156.grow [⟨[(.sc (.string ⟨#[]⟩)), (.sc (.int .i64 0)), (.sc (.bool false)), (.sc (.int .i64 0)), (.sc (.int .i64 0)), (.sc (.int .i64 0)), .nl, .nl, .nl], true, true⟩]
      replace B107 := blk_grow B107 [⟨[(.sc (.string ⟨#[]⟩)), (.sc (.int .i64 0)), (.sc (.bool false)), (.sc (.int .i64 0)), (.sc (.int .i64 0)), (.sc (.int .i64 0)), .nl, .nl, .nl], true, true⟩]
      replace a161 := a161.grow [⟨[(.sc (.string ⟨#[]⟩)), (.sc (.int .i64 0)), (.sc (.bool false)), (.sc (.int .i64 0)), (.sc (.int .i64 0)), (.sc (.int .i64 0)), .nl, .nl, .nl], true, true⟩]
      refine lm_agg rfl (vcons (Vw_agg _ (flMsg x2)) vnil) (toF_Msg (n + 27) (by omega) x2 (by omega)) tyMsg fun y243 X241 N240 n242 a244 => ?_
      have o245 : N26 + nbL (encSess (vSessPush x0 x1 x2)) ≤ N240 := by have := a42.2.1; omega
      have o246 : i44 < N240 := by have := (List.getElem?_eq_some_iff.1 B43).1; omega
      have o247 : N84 + nbL (encSess (vSessPush x0 x1 x2)) ≤ N240 := by have := a156.2.1; rw [mkL_nb] at this; omega
      have o248 : i108 < N240 := by have := (List.getElem?_eq_some_iff.1 B107).1; omega
      have o249 : N157 + nbL (encSess (x0)) ≤ N240 := by have := a161.2.1; omega
      have o250 : i234 < N240 := by have := (List.getElem?_eq_some_iff.1 B233).1; omega
      replace a42 := a42.grow X241
      replace B43 := blk_grow B43 X241
      replace a156 := a156.grow X241
      replace B107 := blk_grow B107 X241
      replace a161 := a161.grow X241
      replace B233 := blk_grow B233 X241
      refine lm_tup rfl (vcons (a161.vw (okWSess 4 (x0))) (vcons (Vw_sc _ _) (vcons (a244.vw (okWMsg 5 (x2))) vnil))) (implF_SessPush (n + 16) (by omega) x0 x1 x2 k0 k1 k2 (by omega) (by omega)) rfl fun ys254 X252 N251 n253 a255 => ?_
      have o256 : N26 + nbL (encSess (vSessPush x0 x1 x2)) ≤ N251 := by have := a42.2.1; omega
      have o257 : i44 < N251 := by have := (List.getElem?_eq_some_iff.1 B43).1; omega
      have o258 : N84 + nbL (encSess (vSessPush x0 x1 x2)) ≤ N251 := by have := a156.2.1; rw [mkL_nb] at this; omega
      have o259 : i108 < N251 := by have := (List.getElem?_eq_some_iff.1 B107).1; omega
      have o260 : i234 < N251 := by have := (List.getElem?_eq_some_iff.1 B233).1; omega
      replace a42 := a42.grow X252
      replace B43 := blk_grow B43 X252
      replace a156 := a156.grow X252
      replace B107 := blk_grow B107 X252
      replace B233 := blk_grow B233 X252
      obtain ⟨y261, ys262, rfl, a263, a264⟩ := a255.cons
      obtain ⟨y265, ys266, rfl, a267, a268⟩ := a264.cons
      obtain rfl := a268.nil
      refine lm_ex rfl ?_
      obtain ⟨ys269, rfl, a270⟩ := a263.agg tySess
      refine lm_ex rfl ?_
      obtain rfl := a267.sc
      refine lm_store B233 rfl (a270.len.trans (lenSess _)) (a270.leaf (flSess _)) fun G271 B273 q272 => ?_
      replace a42 := a42.kept q272 (by omega)
      replace B43 := blk_kept B43 q272 (by omega)
      replace a156 := a156.kept q272 (by rw [mkL_nb]; omega)
      replace B107 := blk_kept B107 q272 (by omega)
      replace a270 := a270.kept q272 (by omega)
      refine lw_ld B273 (a270.len.trans (lenSess _)) ?_
      refine lw_ld B43 (a42.len.trans (lenSess _)) ?_
      refine lm_eq rfl (vcons (a270.vw (okWSess 4 (vSessPush x0 x1 x2))) (vcons (a42.vw (okWSess 4 (vSessPush x0 x1 x2))) vnil)) (eqF_Sess (n + 23) (by omega) _ (vSessPush x0 x1 x2) s10w) ?_
      refine lm_not ?_
      refine lm_gf ?_
      refine lm_gf ?_
      refine lm_gf ?_
      refine lm_neI ?_
      refine lm_pk ?_
      refine lm_cf ?_
      refine lw_ld B107 (a106.len.trans (lenSess _)) ?_
      refine lm_heldv (hd_SessV (n + 24) (by omega)) (a156.vw (okLW_mk7 _ _ (okWSess 4 (vSessPush x0 x1 x2)))) (wfvSess _ s10) (by omega) (by omega) ?_
      refine lm_neI ?_
      refine lm_cf ?_
      rfl
    ·refine w_new fun i275 i275E B274 => ?_
     have o276 : N26 + nbL (encSess (vSessPush x0 x1 x2)) ≤ i275 := by have := a42.2.1; omega
     have o277 : i44 < i275 := by have := (List.getElem?_eq_some_iff.1 B43).1; omega
     have o278 : N84 + nbL (encSess (vSessPush x0 x1 x2)) ≤ i275 := by have := a156.2.1; rw [mkL_nb] at this; omega
     have o279 : i108 < i275 := by have := (List.getElem?_eq_some_iff.1 B107).1; omega
     replace a42 := a42.grow [⟨[(.sc (.string ⟨#[]⟩)), (.sc (.int .i64 0)), (.sc (.bool false)), (.sc (.int .i64 0)), (.sc (.int .i64 0)), (.sc (.int .i64 0)), .nl, .nl, .nl], true, true⟩]
     replace B43 := blk_grow B43 [⟨[(.sc (.string ⟨#[]⟩)), (.sc (.int .i64 0)), (.sc (.bool false)), (.sc (.int .i64 0)), (.sc (.int .i64 0)), (.sc (.int .i64 0)), .nl, .nl, .nl], true, true⟩]
     replace a156 := a156.grow [⟨[(.sc (.string ⟨#[]⟩)), (.sc (.int .i64 0)), (.sc (.bool false)), (.sc (.int .i64 0)), (.sc (.int .i64 0)), (.sc (.int .i64 0)), .nl, .nl, .nl], true, true⟩]
     replace B107 := blk_grow B107 [⟨[(.sc (.string ⟨#[]⟩)), (.sc (.int .i64 0)), (.sc (.bool false)), (.sc (.int .i64 0)), (.sc (.int .i64 0)), (.sc (.int .i64 0)), .nl, .nl, .nl], true, true⟩]
     refine lm_agg rfl (vcons (Vw_agg _ (flSess x0)) vnil) (toF_Sess (n + 23) (by omega) x0 (by omega)) tySess fun y283 X281 N280 n282 a284 => ?_
     have o285 : N26 + nbL (encSess (vSessPush x0 x1 x2)) ≤ N280 := by have := a42.2.1; omega
     have o286 : i44 < N280 := by have := (List.getElem?_eq_some_iff.1 B43).1; omega
     have o287 : N84 + nbL (encSess (vSessPush x0 x1 x2)) ≤ N280 := by have := a156.2.1; rw [mkL_nb] at this; omega
     have o288 : i108 < N280 := by have := (List.getElem?_eq_some_iff.1 B107).1; omega
     have o289 : i275 < N280 := by have := (List.getElem?_eq_some_iff.1 B274).1; omega
     replace a42 := a42.grow X281
     replace B43 := blk_grow B43 X281
     replace a156 := a156.grow X281
     replace B107 := blk_grow B107 X281
     replace B274 := blk_grow B274 X281
     refine lm_agg rfl (vcons (Vw_agg _ (flMsg x2)) vnil) (toF_Msg (n + 27) (by omega) x2 (by omega)) tyMsg fun y293 X291 N290 n292 a294 => ?_
     have o295 : N26 + nbL (encSess (vSessPush x0 x1 x2)) ≤ N290 := by have := a42.2.1; omega
     have o296 : i44 < N290 := by have := (List.getElem?_eq_some_iff.1 B43).1; omega
     have o297 : N84 + nbL (encSess (vSessPush x0 x1 x2)) ≤ N290 := by have := a156.2.1; rw [mkL_nb] at this; omega
     have o298 : i108 < N290 := by have := (List.getElem?_eq_some_iff.1 B107).1; omega
     have o299 : i275 < N290 := by have := (List.getElem?_eq_some_iff.1 B274).1; omega
     have o300 : N280 + nbL (encSess (x0)) ≤ N290 := by have := a284.2.1; omega
     replace a42 := a42.grow X291
     replace B43 := blk_grow B43 X291
     replace a156 := a156.grow X291
     replace B107 := blk_grow B107 X291
     replace B274 := blk_grow B274 X291
     replace a284 := a284.grow X291
     refine lm_tup rfl (vcons (a284.vw (okWSess 4 (x0))) (vcons (Vw_sc _ _) (vcons (a294.vw (okWMsg 5 (x2))) vnil))) (implF_SessPush (n + 16) (by omega) x0 x1 x2 k0 k1 k2 (by omega) (by omega)) rfl fun ys304 X302 N301 n303 a305 => ?_
     have o306 : N26 + nbL (encSess (vSessPush x0 x1 x2)) ≤ N301 := by have := a42.2.1; omega
     have o307 : i44 < N301 := by have := (List.getElem?_eq_some_iff.1 B43).1; omega
     have o308 : N84 + nbL (encSess (vSessPush x0 x1 x2)) ≤ N301 := by have := a156.2.1; rw [mkL_nb] at this; omega
     have o309 : i108 < N301 := by have := (List.getElem?_eq_some_iff.1 B107).1; omega
     have o310 : i275 < N301 := by have := (List.getElem?_eq_some_iff.1 B274).1; omega
     replace a42 := a42.grow X302
     replace B43 := blk_grow B43 X302
     replace a156 := a156.grow X302
     replace B107 := blk_grow B107 X302
     replace B274 := blk_grow B274 X302
     obtain ⟨y311, ys312, rfl, a313, a314⟩ := a305.cons
     obtain ⟨y315, ys316, rfl, a317, a318⟩ := a314.cons
     obtain rfl := a318.nil
     refine lm_ex rfl ?_
     obtain ⟨ys319, rfl, a320⟩ := a313.agg tySess
     refine lm_ex rfl ?_
     obtain rfl := a317.sc
     refine lm_store B274 rfl (a320.len.trans (lenSess _)) (a320.leaf (flSess _)) fun G321 B323 q322 => ?_
     replace a42 := a42.kept q322 (by omega)
     replace B43 := blk_kept B43 q322 (by omega)
     replace a156 := a156.kept q322 (by rw [mkL_nb]; omega)
     replace B107 := blk_kept B107 q322 (by omega)
     replace a320 := a320.kept q322 (by omega)
     refine lw_ld B323 (a320.len.trans (lenSess _)) ?_
     refine lw_ld B43 (a42.len.trans (lenSess _)) ?_
     refine lm_eq rfl (vcons (a320.vw (okWSess 4 (vSessPush x0 x1 x2))) (vcons (a42.vw (okWSess 4 (vSessPush x0 x1 x2))) vnil)) (eqF_Sess (n + 23) (by omega) _ (vSessPush x0 x1 x2) s10w) ?_
     refine lm_not ?_
     refine lm_gf ?_
     refine lm_gf ?_
     refine lm_gf ?_
     refine lm_neI ?_
     refine lm_pk ?_
     refine lm_cf ?_
     refine lw_ld B107 (a106.len.trans (lenSess _)) ?_
     refine lm_heldv (hd_SessV (n + 24) (by omega)) (a156.vw (okLW_mk7 _ _ (okWSess 4 (vSessPush x0 x1 x2)))) (wfvSess _ s10) (by omega) (by omega) ?_
     refine lm_neI ?_
     refine lm_cf ?_
     rfl
   ·refine w_new fun i325 i325E B324 => ?_
    have o326 : i2 < i325 := by have := (List.getElem?_eq_some_iff.1 B1).1; omega
    have o327 : i4 < i325 := by have := (List.getElem?_eq_some_iff.1 B3).1; omega
    have o328 : N11 + nbL (encSess (x0)) ≤ i325 := by have := a15.2.1; omega
    have o329 : N18 + nbL (encMsg (x2)) ≤ i325 := by have := a22.2.1; omega
    replace B1 := blk_grow B1 [⟨[(.sc (.string ⟨#[]⟩)), (.sc (.int .i64 0)), (.sc (.bool false)), (.sc (.int .i64 0)), (.sc (.int .i64 0)), (.sc (.int .i64 0)), .nl, .nl, .nl], true, true⟩]
    replace B3 := blk_grow B3 [⟨[(.sc (.string ⟨#[]⟩)), (.sc (.int .i64 0)), (.sc (.bool false)), (.sc (.int .i64 0)), (.sc (.int .i64 0)), (.sc (.int .i64 0)), .nl, .nl, .nl], true, true⟩]
    replace a15 := a15.grow [⟨[(.sc (.string ⟨#[]⟩)), (.sc (.int .i64 0)), (.sc (.bool false)), (.sc (.int .i64 0)), (.sc (.int .i64 0)), (.sc (.int .i64 0)), .nl, .nl, .nl], true, true⟩]
    replace a22 := a22.grow [⟨[(.sc (.string ⟨#[]⟩)), (.sc (.int .i64 0)), (.sc (.bool false)), (.sc (.int .i64 0)), (.sc (.int .i64 0)), (.sc (.int .i64 0)), .nl, .nl, .nl], true, true⟩]
    refine lm_tup rfl (vcons (a15.vw (okWSess 4 (x0))) (vcons (Vw_sc _ _) (vcons (a22.vw (okWMsg 5 (x2))) vnil))) (specF_SessPush (n + 16) (by omega) x0 x1 x2 k0 k1 k2 (by omega) (by omega)) rfl fun ys333 X331 N330 n332 a334 => ?_
    have o335 : i2 < N330 := by have := (List.getElem?_eq_some_iff.1 B1).1; omega
    have o336 : i4 < N330 := by have := (List.getElem?_eq_some_iff.1 B3).1; omega
    have o337 : i325 < N330 := by have := (List.getElem?_eq_some_iff.1 B324).1; omega
    replace B1 := blk_grow B1 X331
    replace B3 := blk_grow B3 X331
    replace B324 := blk_grow B324 X331
    obtain ⟨y338, ys339, rfl, a340, a341⟩ := a334.cons
    obtain ⟨y342, ys343, rfl, a344, a345⟩ := a341.cons
    obtain rfl := a345.nil
    refine lm_ex rfl ?_
    obtain ⟨ys346, rfl, a347⟩ := a340.agg tySess
    refine lm_ex rfl ?_
    obtain rfl := a344.sc
    refine lm_store B324 rfl (a347.len.trans (lenSess _)) (a347.leaf (flSess _)) fun G348 B350 q349 => ?_
    replace B1 := blk_kept B1 q349 (by omega)
    replace B3 := blk_kept B3 q349 (by omega)
    replace a347 := a347.kept q349 (by omega)
    refine lw_ld B1 (lenSess x0) ?_
    refine lm_agg rfl (vcons (Vw_agg _ (flSess x0)) vnil) (toF_Sess (n + 23) (by omega) x0 (by omega)) tySess fun y354 X352 N351 n353 a355 => ?_
    have o356 : i2 < N351 := by have := (List.getElem?_eq_some_iff.1 B1).1; omega
    have o357 : i4 < N351 := by have := (List.getElem?_eq_some_iff.1 B3).1; omega
    have o358 : i325 < N351 := by have := (List.getElem?_eq_some_iff.1 B350).1; omega
    have o359 : N330 + nbL (encSess (vSessPush x0 x1 x2)) ≤ N351 := by have := a347.2.1; omega
    replace B1 := blk_grow B1 X352
    replace B3 := blk_grow B3 X352
    replace B350 := blk_grow B350 X352
    replace a347 := a347.grow X352
    refine lm_put rfl (a355.len.trans (lenSess _)) (a355.leaf (flSess _)) fun i361 i361E B360 => ?_
    have o362 : i2 < i361 := by have := (List.getElem?_eq_some_iff.1 B1).1; omega
    have o363 : i4 < i361 := by have := (List.getElem?_eq_some_iff.1 B3).1; omega
    have o364 : i325 < i361 := by have := (List.getElem?_eq_some_iff.1 B350).1; omega
    have o365 : N330 + nbL (encSess (vSessPush x0 x1 x2)) ≤ i361 := by have := a347.2.1; omega
    have o366 : N351 + nbL (encSess (x0)) ≤ i361 := by have := a355.2.1; omega
    replace B1 := blk_grow B1 [⟨y354, true, true⟩]
    replace B3 := blk_grow B3 [⟨y354, true, true⟩]
    replace B350 := blk_grow B350 [⟨y354, true, true⟩]
    replace a347 := a347.grow [⟨y354, true, true⟩]
    replace a355 := a355.grow [⟨y354, true, true⟩]
    refine lw_ld B3 (lenMsg x2) ?_
    refine lm_agg rfl (vcons (Vw_agg _ (flMsg x2)) vnil) (toF_Msg (n + 27) (by omega) x2 (by omega)) tyMsg fun y370 X368 N367 n369 a371 => ?_
    have o372 : i2 < N367 := by have := (List.getElem?_eq_some_iff.1 B1).1; omega
    have o373 : i4 < N367 := by have := (List.getElem?_eq_some_iff.1 B3).1; omega
    have o374 : i325 < N367 := by have := (List.getElem?_eq_some_iff.1 B350).1; omega
    have o375 : N330 + nbL (encSess (vSessPush x0 x1 x2)) ≤ N367 := by have := a347.2.1; omega
    have o376 : N351 + nbL (encSess (x0)) ≤ N367 := by have := a355.2.1; omega
    have o377 : i361 < N367 := by have := (List.getElem?_eq_some_iff.1 B360).1; omega
    replace B1 := blk_grow B1 X368
    replace B3 := blk_grow B3 X368
    replace B350 := blk_grow B350 X368
    replace a347 := a347.grow X368
    replace a355 := a355.grow X368
    replace B360 := blk_grow B360 X368
    refine lm_put rfl (a371.len.trans (lenMsg _)) (a371.leaf (flMsg _)) fun i379 i379E B378 => ?_
    have o380 : i2 < i379 := by have := (List.getElem?_eq_some_iff.1 B1).1; omega
    have o381 : i4 < i379 := by have := (List.getElem?_eq_some_iff.1 B3).1; omega
    have o382 : i325 < i379 := by have := (List.getElem?_eq_some_iff.1 B350).1; omega
    have o383 : N330 + nbL (encSess (vSessPush x0 x1 x2)) ≤ i379 := by have := a347.2.1; omega
    have o384 : N351 + nbL (encSess (x0)) ≤ i379 := by have := a355.2.1; omega
    have o385 : i361 < i379 := by have := (List.getElem?_eq_some_iff.1 B360).1; omega
    have o386 : N367 + nbL (encMsg (x2)) ≤ i379 := by have := a371.2.1; omega
    replace B1 := blk_grow B1 [⟨y370, true, true⟩]
    replace B3 := blk_grow B3 [⟨y370, true, true⟩]
    replace B350 := blk_grow B350 [⟨y370, true, true⟩]
    replace a347 := a347.grow [⟨y370, true, true⟩]
    replace a355 := a355.grow [⟨y370, true, true⟩]
    replace B360 := blk_grow B360 [⟨y370, true, true⟩]
    replace a371 := a371.grow [⟨y370, true, true⟩]
    refine lw_ld B360 (a355.len.trans (lenSess _)) ?_
    refine lw_ld B378 (a371.len.trans (lenMsg _)) ?_
    refine lm_tup rfl (vcons (a355.vw (okWSess 4 (x0))) (vcons (Vw_sc _ _) (vcons (a371.vw (okWMsg 5 (x2))) vnil))) (implF_SessPush (n + 16) (by omega) x0 x1 x2 k0 k1 k2 (by omega) (by omega)) rfl fun ys390 X388 N387 n389 a391 => ?_
    have o392 : i2 < N387 := by have := (List.getElem?_eq_some_iff.1 B1).1; omega
    have o393 : i4 < N387 := by have := (List.getElem?_eq_some_iff.1 B3).1; omega
    have o394 : i325 < N387 := by have := (List.getElem?_eq_some_iff.1 B350).1; omega
    have o395 : N330 + nbL (encSess (vSessPush x0 x1 x2)) ≤ N387 := by have := a347.2.1; omega
    have o396 : N351 + nbL (encSess (x0)) ≤ N387 := by have := a355.2.1; omega
    have o397 : i361 < N387 := by have := (List.getElem?_eq_some_iff.1 B360).1; omega
    have o398 : N367 + nbL (encMsg (x2)) ≤ N387 := by have := a371.2.1; omega
    have o399 : i379 < N387 := by have := (List.getElem?_eq_some_iff.1 B378).1; omega
    replace B1 := blk_grow B1 X388
    replace B3 := blk_grow B3 X388
    replace B350 := blk_grow B350 X388
    replace a347 := a347.grow X388
    replace a355 := a355.grow X388
    replace B360 := blk_grow B360 X388
    replace a371 := a371.grow X388
    replace B378 := blk_grow B378 X388
    obtain ⟨y400, ys401, rfl, a402, a403⟩ := a391.cons
    obtain ⟨y404, ys405, rfl, a406, a407⟩ := a403.cons
    obtain rfl := a407.nil
    refine lm_ex rfl ?_
    obtain ⟨ys408, rfl, a409⟩ := a402.agg tySess
    refine lm_ex rfl ?_
    obtain rfl := a406.sc
    refine lm_put rfl (a409.len.trans (lenSess _)) (a409.leaf (flSess _)) fun i411 i411E B410 => ?_
    have o412 : i2 < i411 := by have := (List.getElem?_eq_some_iff.1 B1).1; omega
    have o413 : i4 < i411 := by have := (List.getElem?_eq_some_iff.1 B3).1; omega
    have o414 : i325 < i411 := by have := (List.getElem?_eq_some_iff.1 B350).1; omega
    have o415 : N330 + nbL (encSess (vSessPush x0 x1 x2)) ≤ i411 := by have := a347.2.1; omega
    have o416 : N351 + nbL (encSess (x0)) ≤ i411 := by have := a355.2.1; omega
    have o417 : i361 < i411 := by have := (List.getElem?_eq_some_iff.1 B360).1; omega
    have o418 : N367 + nbL (encMsg (x2)) ≤ i411 := by have := a371.2.1; omega
    have o419 : i379 < i411 := by have := (List.getElem?_eq_some_iff.1 B378).1; omega
    have o420 : N387 + nbL (encSess (vSessPush x0 x1 x2)) ≤ i411 := by have := a409.2.1; omega
    replace B1 := blk_grow B1 [⟨ys408, true, true⟩]
    replace B3 := blk_grow B3 [⟨ys408, true, true⟩]
    replace B350 := blk_grow B350 [⟨ys408, true, true⟩]
    replace a347 := a347.grow [⟨ys408, true, true⟩]
    replace a355 := a355.grow [⟨ys408, true, true⟩]
    replace B360 := blk_grow B360 [⟨ys408, true, true⟩]
    replace a371 := a371.grow [⟨ys408, true, true⟩]
    replace B378 := blk_grow B378 [⟨ys408, true, true⟩]
    replace a409 := a409.grow [⟨ys408, true, true⟩]
    refine lw_ld B410 (a409.len.trans (lenSess _)) ?_
    refine lw_ld B350 (a347.len.trans (lenSess _)) ?_
    refine lm_eq rfl (vcons (a409.vw (okWSess 4 (vSessPush x0 x1 x2))) (vcons (a347.vw (okWSess 4 (vSessPush x0 x1 x2))) vnil)) (eqF_Sess (n + 23) (by omega) _ (vSessPush x0 x1 x2) s10w) ?_
    refine lm_not ?_
    refine lm_gf ?_
    refine lm_gf ?_
    refine lm_gf ?_
    refine lm_neI ?_
    refine lm_pk ?_
    refine lm_cf ?_
    refine lw_ld B360 (a355.len.trans (lenSess _)) ?_
    refine lw_ld B1 (lenSess x0) ?_
    refine lm_agg rfl (vcons (Vw_agg _ (flSess x0)) vnil) (toF_Sess (n + 23) (by omega) x0 (by omega)) tySess fun y424 X422 N421 n423 a425 => ?_
    have o426 : i2 < N421 := by have := (List.getElem?_eq_some_iff.1 B1).1; omega
    have o427 : i4 < N421 := by have := (List.getElem?_eq_some_iff.1 B3).1; omega
    have o428 : i325 < N421 := by have := (List.getElem?_eq_some_iff.1 B350).1; omega
    have o429 : N330 + nbL (encSess (vSessPush x0 x1 x2)) ≤ N421 := by have := a347.2.1; omega
    have o430 : N351 + nbL (encSess (x0)) ≤ N421 := by have := a355.2.1; omega
    have o431 : i361 < N421 := by have := (List.getElem?_eq_some_iff.1 B360).1; omega
    have o432 : N367 + nbL (encMsg (x2)) ≤ N421 := by have := a371.2.1; omega
    have o433 : i379 < N421 := by have := (List.getElem?_eq_some_iff.1 B378).1; omega
    have o434 : N387 + nbL (encSess (vSessPush x0 x1 x2)) ≤ N421 := by have := a409.2.1; omega
    have o435 : i411 < N421 := by have := (List.getElem?_eq_some_iff.1 B410).1; omega
    replace B1 := blk_grow B1 X422
    replace B3 := blk_grow B3 X422
    replace B350 := blk_grow B350 X422
    replace a347 := a347.grow X422
    replace a355 := a355.grow X422
    replace B360 := blk_grow B360 X422
    replace a371 := a371.grow X422
    replace B378 := blk_grow B378 X422
    replace a409 := a409.grow X422
    replace B410 := blk_grow B410 X422
    refine lm_eq rfl (vcons (a355.vw (okWSess 4 (x0))) (vcons (a425.vw (okWSess 4 (x0))) vnil)) (eqF_Sess (n + 23) (by omega) _ (x0) s5w) ?_
    refine lm_not ?_
    refine lm_cf ?_
    refine lw_ld B378 (a371.len.trans (lenMsg _)) ?_
    refine lw_ld B3 (lenMsg x2) ?_
    refine lm_agg rfl (vcons (Vw_agg _ (flMsg x2)) vnil) (toF_Msg (n + 27) (by omega) x2 (by omega)) tyMsg fun y439 X437 N436 n438 a440 => ?_
    have o441 : i2 < N436 := by have := (List.getElem?_eq_some_iff.1 B1).1; omega
    have o442 : i4 < N436 := by have := (List.getElem?_eq_some_iff.1 B3).1; omega
    have o443 : i325 < N436 := by have := (List.getElem?_eq_some_iff.1 B350).1; omega
    have o444 : N330 + nbL (encSess (vSessPush x0 x1 x2)) ≤ N436 := by have := a347.2.1; omega
    have o445 : N351 + nbL (encSess (x0)) ≤ N436 := by have := a355.2.1; omega
    have o446 : i361 < N436 := by have := (List.getElem?_eq_some_iff.1 B360).1; omega
    have o447 : N367 + nbL (encMsg (x2)) ≤ N436 := by have := a371.2.1; omega
    have o448 : i379 < N436 := by have := (List.getElem?_eq_some_iff.1 B378).1; omega
    have o449 : N387 + nbL (encSess (vSessPush x0 x1 x2)) ≤ N436 := by have := a409.2.1; omega
    have o450 : i411 < N436 := by have := (List.getElem?_eq_some_iff.1 B410).1; omega
    replace B1 := blk_grow B1 X437
    replace B3 := blk_grow B3 X437
    replace B350 := blk_grow B350 X437
    replace a347 := a347.grow X437
    replace a355 := a355.grow X437
    replace B360 := blk_grow B360 X437
    replace a371 := a371.grow X437
    replace B378 := blk_grow B378 X437
    replace a409 := a409.grow X437
    replace B410 := blk_grow B410 X437
    refine lm_eq rfl (vcons (a371.vw (okWMsg 5 (x2))) (vcons (a440.vw (okWMsg 5 (x2))) vnil)) (eqF_Msg (n + 27) (by omega) _ (x2) s7w) ?_
    refine lm_not ?_
    refine lm_cf ?_
    refine lw_ld B360 (a355.len.trans (lenSess _)) ?_
    refine lm_markv (mk_SessV (n + 24) (by omega)) rfl a355 (wfvSess _ s5) (by omega) (by omega) fun G451 a453 q452 => ?_
    replace B1 := blk_kept B1 q452 (by omega)
    replace B3 := blk_kept B3 q452 (by omega)
    replace B350 := blk_kept B350 q452 (by omega)
    replace a347 := a347.kept q452 (by omega)
    replace a371 := a371.kept q452 (by omega)
    replace B378 := blk_kept B378 q452 (by omega)
    replace a409 := a409.kept q452 (by omega)
    replace B410 := blk_kept B410 q452 (by omega)
    refine lw_ld B378 (a371.len.trans (lenMsg _)) ?_
    refine lm_markv (mk_MsgV (n + 26) (by omega)) rfl a371 (wfvMsg _ s7) (by omega) (by omega) fun G454 a456 q455 => ?_
    replace B1 := blk_kept B1 q455 (by omega)
    replace B3 := blk_kept B3 q455 (by omega)
    replace B350 := blk_kept B350 q455 (by omega)
    replace a347 := a347.kept q455 (by omega)
    replace a409 := a409.kept q455 (by omega)
    replace B410 := blk_kept B410 q455 (by omega)
    refine lm_neg (by omega) ?_
    refine lm_gf ?_
    refine lw_ld B410 (a409.len.trans (lenSess _)) ?_
    refine lm_gf ?_
    refine lw_ld B350 (a347.len.trans (lenSess _)) ?_
    refine lm_gf ?_
    refine lm_eq rfl (vcons (a409.vw (okWSess 4 (vSessPush x0 x1 x2))) (vcons (a347.vw (okWSess 4 (vSessPush x0 x1 x2))) vnil)) (eqF_Sess (n + 23) (by omega) _ (vSessPush x0 x1 x2) s10w) ?_
    refine lm_gf ?_
    refine lm_not ?_
    refine lm_pk ?_
    refine lm_gf ?_
    refine lm_gf ?_
    refine lm_gf ?_
    refine lm_neI ?_
    refine lm_pk ?_
    refine lm_cf ?_
    refine lw_ld B410 (a409.len.trans (lenSess _)) ?_
    refine lm_markv (mk_SessV (n + 24) (by omega)) rfl a409 (wfvSess _ s10) (by omega) (by omega) fun G457 a459 q458 => ?_
    replace B1 := blk_kept B1 q458 (by omega)
    replace B3 := blk_kept B3 q458 (by omega)
    replace B350 := blk_kept B350 q458 (by omega)
    replace a347 := a347.kept q458 (by omega)
    replace B410 := blk_kept B410 q458 (by omega)
    refine lw_ld B410 (a409.len.trans (lenSess _)) ?_
    refine lm_heldv (hd_SessV (n + 24) (by omega)) (a459.vw (okLW_mk7 _ _ (okWSess 4 (vSessPush x0 x1 x2)))) (wfvSess _ s10) (by omega) (by omega) ?_
    refine lm_neI ?_
    refine lm_cf ?_
    refine lw_ld B1 (lenSess x0) ?_
    refine lw_ld B3 (lenMsg x2) ?_
    refine pBoth_eq ?_ ?_
    ·refine lm_agg rfl (vcons (Vw_agg _ (flSess x0)) vnil) (toF_Sess (n + 23) (by omega) x0 (by omega)) tySess fun y463 X461 N460 n462 a464 => ?_
     have o465 : i325 < N460 := by have := (List.getElem?_eq_some_iff.1 B350).1; omega
     have o466 : N330 + nbL (encSess (vSessPush x0 x1 x2)) ≤ N460 := by have := a347.2.1; omega
     have o467 : N387 + nbL (encSess (vSessPush x0 x1 x2)) ≤ N460 := by have := a459.2.1; rw [mkL_nb] at this; omega
     have o468 : i411 < N460 := by have := (List.getElem?_eq_some_iff.1 B410).1; omega
     replace B350 := blk_grow B350 X461
     replace a347 := a347.grow X461
     replace a459 := a459.grow X461
     replace B410 := blk_grow B410 X461
     refine pBoth_eq ?_ ?_
     ·refine lm_agg rfl (vcons (Vw_agg _ (flMsg x2)) vnil) (toF_Msg (n + 27) (by omega) x2 (by omega)) tyMsg fun y472 X470 N469 n471 a473 => ?_
      have o474 : i325 < N469 := by have := (List.getElem?_eq_some_iff.1 B350).1; omega
      have o475 : N330 + nbL (encSess (vSessPush x0 x1 x2)) ≤ N469 := by have := a347.2.1; omega
      have o476 : N387 + nbL (encSess (vSessPush x0 x1 x2)) ≤ N469 := by have := a459.2.1; rw [mkL_nb] at this; omega
      have o477 : i411 < N469 := by have := (List.getElem?_eq_some_iff.1 B410).1; omega
      have o478 : N460 + nbL (encSess (x0)) ≤ N469 := by have := a464.2.1; omega
      replace B350 := blk_grow B350 X470
      replace a347 := a347.grow X470
      replace a459 := a459.grow X470
      replace B410 := blk_grow B410 X470
      replace a464 := a464.grow X470
      refine pBoth_eq ?_ ?_
      ·refine lm_tup rfl (vcons (a464.vw (okWSess 4 (x0))) (vcons (Vw_sc _ _) (vcons (a473.vw (okWMsg 5 (x2))) vnil))) (implF_SessPush (n + 16) (by omega) x0 x1 x2 k0 k1 k2 (by omega) (by omega)) rfl fun ys482 X480 N479 n481 a483 => ?_
       have o484 : i325 < N479 := by have := (List.getElem?_eq_some_iff.1 B350).1; omega
       have o485 : N330 + nbL (encSess (vSessPush x0 x1 x2)) ≤ N479 := by have := a347.2.1; omega
       have o486 : N387 + nbL (encSess (vSessPush x0 x1 x2)) ≤ N479 := by have := a459.2.1; rw [mkL_nb] at this; omega
       have o487 : i411 < N479 := by have := (List.getElem?_eq_some_iff.1 B410).1; omega
       replace B350 := blk_grow B350 X480
       replace a347 := a347.grow X480
       replace a459 := a459.grow X480
       replace B410 := blk_grow B410 X480
       obtain ⟨y488, ys489, rfl, a490, a491⟩ := a483.cons
       obtain ⟨y492, ys493, rfl, a494, a495⟩ := a491.cons
       obtain rfl := a495.nil
       refine lm_ex rfl ?_
       obtain ⟨ys496, rfl, a497⟩ := a490.agg tySess
       refine lm_ex rfl ?_
       obtain rfl := a494.sc
       refine lm_put rfl (a497.len.trans (lenSess _)) (a497.leaf (flSess _)) fun i499 i499E B498 => ?_
       have o500 : i325 < i499 := by have := (List.getElem?_eq_some_iff.1 B350).1; omega
       have o501 : N330 + nbL (encSess (vSessPush x0 x1 x2)) ≤ i499 := by have := a347.2.1; omega
       have o502 : N387 + nbL (encSess (vSessPush x0 x1 x2)) ≤ i499 := by have := a459.2.1; rw [mkL_nb] at this; omega
       have o503 : i411 < i499 := by have := (List.getElem?_eq_some_iff.1 B410).1; omega
       have o504 : N479 + nbL (encSess (vSessPush x0 x1 x2)) ≤ i499 := by have := a497.2.1; omega
       replace B350 := blk_grow B350 [⟨ys496, true, true⟩]
       replace a347 := a347.grow [⟨ys496, true, true⟩]
       replace a459 := a459.grow [⟨ys496, true, true⟩]
       replace B410 := blk_grow B410 [⟨ys496, true, true⟩]
       replace a497 := a497.grow [⟨ys496, true, true⟩]
       refine lw_ld B498 (a497.len.trans (lenSess _)) ?_
       refine lw_ld B350 (a347.len.trans (lenSess _)) ?_
       refine lm_eq rfl (vcons (a497.vw (okWSess 4 (vSessPush x0 x1 x2))) (vcons (a347.vw (okWSess 4 (vSessPush x0 x1 x2))) vnil)) (eqF_Sess (n + 23) (by omega) _ (vSessPush x0 x1 x2) s10w) ?_
       refine lm_not ?_
       refine lm_gf ?_
       refine lm_gf ?_
       refine lm_gf ?_
       refine lm_neI ?_
       refine lm_pk ?_
       refine lm_cf ?_
       refine lw_ld B410 (a409.len.trans (lenSess _)) ?_
       refine lm_heldv (hd_SessV (n + 24) (by omega)) (a459.vw (okLW_mk7 _ _ (okWSess 4 (vSessPush x0 x1 x2)))) (wfvSess _ s10) (by omega) (by omega) ?_
       refine lm_neI ?_
       refine lm_cf ?_
       rfl
      ·refine w_new fun i506 i506E B505 => ?_
       have o507 : i325 < i506 := by have := (List.getElem?_eq_some_iff.1 B350).1; omega
       have o508 : N330 + nbL (encSess (vSessPush x0 x1 x2)) ≤ i506 := by have := a347.2.1; omega
       have o509 : N387 + nbL (encSess (vSessPush x0 x1 x2)) ≤ i506 := by have := a459.2.1; rw [mkL_nb] at this; omega
       have o510 : i411 < i506 := by have := (List.getElem?_eq_some_iff.1 B410).1; omega
       have o511 : N460 + nbL (encSess (x0)) ≤ i506 := by have := a464.2.1; omega
       have o512 : N469 + nbL (encMsg (x2)) ≤ i506 := by have := a473.2.1; omega
       replace B350 := blk_grow B350 [⟨[(.sc (.string ⟨#[]⟩)), (.sc (.int .i64 0)), (.sc (.bool false)), (.sc (.int .i64 0)), (.sc (.int .i64 0)), (.sc (.int .i64 0)), .nl, .nl, .nl], true, true⟩]
       replace a347 := a347.grow [⟨[(.sc (.string ⟨#[]⟩)), (.sc (.int .i64 0)), (.sc (.bool false)), (.sc (.int .i64 0)), (.sc (.int .i64 0)), (.sc (.int .i64 0)), .nl, .nl, .nl], true, true⟩]
       replace a459 := a459.grow [⟨[(.sc (.string ⟨#[]⟩)), (.sc (.int .i64 0)), (.sc (.bool false)), (.sc (.int .i64 0)), (.sc (.int .i64 0)), (.sc (.int .i64 0)), .nl, .nl, .nl], true, true⟩]
       replace B410 := blk_grow B410 [⟨[(.sc (.string ⟨#[]⟩)), (.sc (.int .i64 0)), (.sc (.bool false)), (.sc (.int .i64 0)), (.sc (.int .i64 0)), (.sc (.int .i64 0)), .nl, .nl, .nl], true, true⟩]
       replace a464 := a464.grow [⟨[(.sc (.string ⟨#[]⟩)), (.sc (.int .i64 0)), (.sc (.bool false)), (.sc (.int .i64 0)), (.sc (.int .i64 0)), (.sc (.int .i64 0)), .nl, .nl, .nl], true, true⟩]
       replace a473 := a473.grow [⟨[(.sc (.string ⟨#[]⟩)), (.sc (.int .i64 0)), (.sc (.bool false)), (.sc (.int .i64 0)), (.sc (.int .i64 0)), (.sc (.int .i64 0)), .nl, .nl, .nl], true, true⟩]
       refine lm_tup rfl (vcons (a464.vw (okWSess 4 (x0))) (vcons (Vw_sc _ _) (vcons (a473.vw (okWMsg 5 (x2))) vnil))) (implF_SessPush (n + 16) (by omega) x0 x1 x2 k0 k1 k2 (by omega) (by omega)) rfl fun ys516 X514 N513 n515 a517 => ?_
       have o518 : i325 < N513 := by have := (List.getElem?_eq_some_iff.1 B350).1; omega
       have o519 : N330 + nbL (encSess (vSessPush x0 x1 x2)) ≤ N513 := by have := a347.2.1; omega
       have o520 : N387 + nbL (encSess (vSessPush x0 x1 x2)) ≤ N513 := by have := a459.2.1; rw [mkL_nb] at this; omega
       have o521 : i411 < N513 := by have := (List.getElem?_eq_some_iff.1 B410).1; omega
       have o522 : i506 < N513 := by have := (List.getElem?_eq_some_iff.1 B505).1; omega
       replace B350 := blk_grow B350 X514
       replace a347 := a347.grow X514
       replace a459 := a459.grow X514
       replace B410 := blk_grow B410 X514
       replace B505 := blk_grow B505 X514
       obtain ⟨y523, ys524, rfl, a525, a526⟩ := a517.cons
       obtain ⟨y527, ys528, rfl, a529, a530⟩ := a526.cons
       obtain rfl := a530.nil
       refine lm_ex rfl ?_
       obtain ⟨ys531, rfl, a532⟩ := a525.agg tySess
       refine lm_ex rfl ?_
       obtain rfl := a529.sc
       refine lm_store B505 rfl (a532.len.trans (lenSess _)) (a532.leaf (flSess _)) fun G533 B535 q534 => ?_
       replace B350 := blk_kept B350 q534 (by omega)
       replace a347 := a347.kept q534 (by omega)
       replace a459 := a459.kept q534 (by rw [mkL_nb]; omega)
       replace B410 := blk_kept B410 q534 (by omega)
       replace a532 := a532.kept q534 (by omega)
       refine lw_ld B535 (a532.len.trans (lenSess _)) ?_
       refine lw_ld B350 (a347.len.trans (lenSess _)) ?_
       refine lm_eq rfl (vcons (a532.vw (okWSess 4 (vSessPush x0 x1 x2))) (vcons (a347.vw (okWSess 4 (vSessPush x0 x1 x2))) vnil)) (eqF_Sess (n + 23) (by omega) _ (vSessPush x0 x1 x2) s10w) ?_
       refine lm_not ?_
       refine lm_gf ?_
       refine lm_gf ?_
       refine lm_gf ?_
       refine lm_neI ?_
       refine lm_pk ?_
       refine lm_cf ?_
       refine lw_ld B410 (a409.len.trans (lenSess _)) ?_
       refine lm_heldv (hd_SessV (n + 24) (by omega)) (a459.vw (okLW_mk7 _ _ (okWSess 4 (vSessPush x0 x1 x2)))) (wfvSess _ s10) (by omega) (by omega) ?_
       refine lm_neI ?_
       refine lm_cf ?_
       rfl
     ·refine w_new fun i537 i537E B536 => ?_
      have o538 : i325 < i537 := by have := (List.getElem?_eq_some_iff.1 B350).1; omega
      have o539 : N330 + nbL (encSess (vSessPush x0 x1 x2)) ≤ i537 := by have := a347.2.1; omega
      have o540 : N387 + nbL (encSess (vSessPush x0 x1 x2)) ≤ i537 := by have := a459.2.1; rw [mkL_nb] at this; omega
      have o541 : i411 < i537 := by have := (List.getElem?_eq_some_iff.1 B410).1; omega
      have o542 : N460 + nbL (encSess (x0)) ≤ i537 := by have := a464.2.1; omega
      replace B350 := blk_grow B350 [⟨[(.sc (.string ⟨#[]⟩)), (.sc (.int .i64 0)), (.sc (.bool false)), (.sc (.int .i64 0)), (.sc (.int .i64 0)), (.sc (.int .i64 0)), .nl, .nl, .nl], true, true⟩]
      replace a347 := a347.grow [⟨[(.sc (.string ⟨#[]⟩)), (.sc (.int .i64 0)), (.sc (.bool false)), (.sc (.int .i64 0)), (.sc (.int .i64 0)), (.sc (.int .i64 0)), .nl, .nl, .nl], true, true⟩]
      replace a459 := a459.grow [⟨[(.sc (.string ⟨#[]⟩)), (.sc (.int .i64 0)), (.sc (.bool false)), (.sc (.int .i64 0)), (.sc (.int .i64 0)), (.sc (.int .i64 0)), .nl, .nl, .nl], true, true⟩]
      replace B410 := blk_grow B410 [⟨[(.sc (.string ⟨#[]⟩)), (.sc (.int .i64 0)), (.sc (.bool false)), (.sc (.int .i64 0)), (.sc (.int .i64 0)), (.sc (.int .i64 0)), .nl, .nl, .nl], true, true⟩]
      replace a464 := a464.grow [⟨[(.sc (.string ⟨#[]⟩)), (.sc (.int .i64 0)), (.sc (.bool false)), (.sc (.int .i64 0)), (.sc (.int .i64 0)), (.sc (.int .i64 0)), .nl, .nl, .nl], true, true⟩]
      refine lm_agg rfl (vcons (Vw_agg _ (flMsg x2)) vnil) (toF_Msg (n + 27) (by omega) x2 (by omega)) tyMsg fun y546 X544 N543 n545 a547 => ?_
      have o548 : i325 < N543 := by have := (List.getElem?_eq_some_iff.1 B350).1; omega
      have o549 : N330 + nbL (encSess (vSessPush x0 x1 x2)) ≤ N543 := by have := a347.2.1; omega
      have o550 : N387 + nbL (encSess (vSessPush x0 x1 x2)) ≤ N543 := by have := a459.2.1; rw [mkL_nb] at this; omega
      have o551 : i411 < N543 := by have := (List.getElem?_eq_some_iff.1 B410).1; omega
      have o552 : N460 + nbL (encSess (x0)) ≤ N543 := by have := a464.2.1; omega
      have o553 : i537 < N543 := by have := (List.getElem?_eq_some_iff.1 B536).1; omega
      replace B350 := blk_grow B350 X544
      replace a347 := a347.grow X544
      replace a459 := a459.grow X544
      replace B410 := blk_grow B410 X544
      replace a464 := a464.grow X544
      replace B536 := blk_grow B536 X544
      refine lm_tup rfl (vcons (a464.vw (okWSess 4 (x0))) (vcons (Vw_sc _ _) (vcons (a547.vw (okWMsg 5 (x2))) vnil))) (implF_SessPush (n + 16) (by omega) x0 x1 x2 k0 k1 k2 (by omega) (by omega)) rfl fun ys557 X555 N554 n556 a558 => ?_
      have o559 : i325 < N554 := by have := (List.getElem?_eq_some_iff.1 B350).1; omega
      have o560 : N330 + nbL (encSess (vSessPush x0 x1 x2)) ≤ N554 := by have := a347.2.1; omega
      have o561 : N387 + nbL (encSess (vSessPush x0 x1 x2)) ≤ N554 := by have := a459.2.1; rw [mkL_nb] at this; omega
      have o562 : i411 < N554 := by have := (List.getElem?_eq_some_iff.1 B410).1; omega
      have o563 : i537 < N554 := by have := (List.getElem?_eq_some_iff.1 B536).1; omega
      replace B350 := blk_grow B350 X555
      replace a347 := a347.grow X555
      replace a459 := a459.grow X555
      replace B410 := blk_grow B410 X555
      replace B536 := blk_grow B536 X555
      obtain ⟨y564, ys565, rfl, a566, a567⟩ := a558.cons
      obtain ⟨y568, ys569, rfl, a570, a571⟩ := a567.cons
      obtain rfl := a571.nil
      refine lm_ex rfl ?_
      obtain ⟨ys572, rfl, a573⟩ := a566.agg tySess
      refine lm_ex rfl ?_
      obtain rfl := a570.sc
      refine lm_store B536 rfl (a573.len.trans (lenSess _)) (a573.leaf (flSess _)) fun G574 B576 q575 => ?_
      replace B350 := blk_kept B350 q575 (by omega)
      replace a347 := a347.kept q575 (by omega)
      replace a459 := a459.kept q575 (by rw [mkL_nb]; omega)
      replace B410 := blk_kept B410 q575 (by omega)
      replace a573 := a573.kept q575 (by omega)
      refine lw_ld B576 (a573.len.trans (lenSess _)) ?_
      refine lw_ld B350 (a347.len.trans (lenSess _)) ?_
      refine lm_eq rfl (vcons (a573.vw (okWSess 4 (vSessPush x0 x1 x2))) (vcons (a347.vw (okWSess 4 (vSessPush x0 x1 x2))) vnil)) (eqF_Sess (n + 23) (by omega) _ (vSessPush x0 x1 x2) s10w) ?_
      refine lm_not ?_
      refine lm_gf ?_
      refine lm_gf ?_
      refine lm_gf ?_
      refine lm_neI ?_
      refine lm_pk ?_
      refine lm_cf ?_
      refine lw_ld B410 (a409.len.trans (lenSess _)) ?_
      refine lm_heldv (hd_SessV (n + 24) (by omega)) (a459.vw (okLW_mk7 _ _ (okWSess 4 (vSessPush x0 x1 x2)))) (wfvSess _ s10) (by omega) (by omega) ?_
      refine lm_neI ?_
      refine lm_cf ?_
      rfl
    ·refine w_new fun i578 i578E B577 => ?_
     have o579 : i325 < i578 := by have := (List.getElem?_eq_some_iff.1 B350).1; omega
     have o580 : N330 + nbL (encSess (vSessPush x0 x1 x2)) ≤ i578 := by have := a347.2.1; omega
     have o581 : N387 + nbL (encSess (vSessPush x0 x1 x2)) ≤ i578 := by have := a459.2.1; rw [mkL_nb] at this; omega
     have o582 : i411 < i578 := by have := (List.getElem?_eq_some_iff.1 B410).1; omega
     replace B350 := blk_grow B350 [⟨[(.sc (.string ⟨#[]⟩)), (.sc (.int .i64 0)), (.sc (.bool false)), (.sc (.int .i64 0)), (.sc (.int .i64 0)), (.sc (.int .i64 0)), .nl, .nl, .nl], true, true⟩]
     replace a347 := a347.grow [⟨[(.sc (.string ⟨#[]⟩)), (.sc (.int .i64 0)), (.sc (.bool false)), (.sc (.int .i64 0)), (.sc (.int .i64 0)), (.sc (.int .i64 0)), .nl, .nl, .nl], true, true⟩]
     replace a459 := a459.grow [⟨[(.sc (.string ⟨#[]⟩)), (.sc (.int .i64 0)), (.sc (.bool false)), (.sc (.int .i64 0)), (.sc (.int .i64 0)), (.sc (.int .i64 0)), .nl, .nl, .nl], true, true⟩]
     replace B410 := blk_grow B410 [⟨[(.sc (.string ⟨#[]⟩)), (.sc (.int .i64 0)), (.sc (.bool false)), (.sc (.int .i64 0)), (.sc (.int .i64 0)), (.sc (.int .i64 0)), .nl, .nl, .nl], true, true⟩]
     refine lm_agg rfl (vcons (Vw_agg _ (flSess x0)) vnil) (toF_Sess (n + 23) (by omega) x0 (by omega)) tySess fun y586 X584 N583 n585 a587 => ?_
     have o588 : i325 < N583 := by have := (List.getElem?_eq_some_iff.1 B350).1; omega
     have o589 : N330 + nbL (encSess (vSessPush x0 x1 x2)) ≤ N583 := by have := a347.2.1; omega
     have o590 : N387 + nbL (encSess (vSessPush x0 x1 x2)) ≤ N583 := by have := a459.2.1; rw [mkL_nb] at this; omega
     have o591 : i411 < N583 := by have := (List.getElem?_eq_some_iff.1 B410).1; omega
     have o592 : i578 < N583 := by have := (List.getElem?_eq_some_iff.1 B577).1; omega
     replace B350 := blk_grow B350 X584
     replace a347 := a347.grow X584
     replace a459 := a459.grow X584
     replace B410 := blk_grow B410 X584
     replace B577 := blk_grow B577 X584
     refine lm_agg rfl (vcons (Vw_agg _ (flMsg x2)) vnil) (toF_Msg (n + 27) (by omega) x2 (by omega)) tyMsg fun y596 X594 N593 n595 a597 => ?_
     have o598 : i325 < N593 := by have := (List.getElem?_eq_some_iff.1 B350).1; omega
     have o599 : N330 + nbL (encSess (vSessPush x0 x1 x2)) ≤ N593 := by have := a347.2.1; omega
     have o600 : N387 + nbL (encSess (vSessPush x0 x1 x2)) ≤ N593 := by have := a459.2.1; rw [mkL_nb] at this; omega
     have o601 : i411 < N593 := by have := (List.getElem?_eq_some_iff.1 B410).1; omega
     have o602 : i578 < N593 := by have := (List.getElem?_eq_some_iff.1 B577).1; omega
     have o603 : N583 + nbL (encSess (x0)) ≤ N593 := by have := a587.2.1; omega
     replace B350 := blk_grow B350 X594
     replace a347 := a347.grow X594
     replace a459 := a459.grow X594
     replace B410 := blk_grow B410 X594
     replace B577 := blk_grow B577 X594
     replace a587 := a587.grow X594
     refine lm_tup rfl (vcons (a587.vw (okWSess 4 (x0))) (vcons (Vw_sc _ _) (vcons (a597.vw (okWMsg 5 (x2))) vnil))) (implF_SessPush (n + 16) (by omega) x0 x1 x2 k0 k1 k2 (by omega) (by omega)) rfl fun ys607 X605 N604 n606 a608 => ?_
     have o609 : i325 < N604 := by have := (List.getElem?_eq_some_iff.1 B350).1; omega
     have o610 : N330 + nbL (encSess (vSessPush x0 x1 x2)) ≤ N604 := by have := a347.2.1; omega
     have o611 : N387 + nbL (encSess (vSessPush x0 x1 x2)) ≤ N604 := by have := a459.2.1; rw [mkL_nb] at this; omega
     have o612 : i411 < N604 := by have := (List.getElem?_eq_some_iff.1 B410).1; omega
     have o613 : i578 < N604 := by have := (List.getElem?_eq_some_iff.1 B577).1; omega
     replace B350 := blk_grow B350 X605
     replace a347 := a347.grow X605
     replace a459 := a459.grow X605
     replace B410 := blk_grow B410 X605
     replace B577 := blk_grow B577 X605
     obtain ⟨y614, ys615, rfl, a616, a617⟩ := a608.cons
     obtain ⟨y618, ys619, rfl, a620, a621⟩ := a617.cons
     obtain rfl := a621.nil
     refine lm_ex rfl ?_
     obtain ⟨ys622, rfl, a623⟩ := a616.agg tySess
     refine lm_ex rfl ?_
     obtain rfl := a620.sc
     refine lm_store B577 rfl (a623.len.trans (lenSess _)) (a623.leaf (flSess _)) fun G624 B626 q625 => ?_
     replace B350 := blk_kept B350 q625 (by omega)
     replace a347 := a347.kept q625 (by omega)
     replace a459 := a459.kept q625 (by rw [mkL_nb]; omega)
     replace B410 := blk_kept B410 q625 (by omega)
     replace a623 := a623.kept q625 (by omega)
     refine lw_ld B626 (a623.len.trans (lenSess _)) ?_
     refine lw_ld B350 (a347.len.trans (lenSess _)) ?_
     refine lm_eq rfl (vcons (a623.vw (okWSess 4 (vSessPush x0 x1 x2))) (vcons (a347.vw (okWSess 4 (vSessPush x0 x1 x2))) vnil)) (eqF_Sess (n + 23) (by omega) _ (vSessPush x0 x1 x2) s10w) ?_
     refine lm_not ?_
     refine lm_gf ?_
     refine lm_gf ?_
     refine lm_gf ?_
     refine lm_neI ?_
     refine lm_pk ?_
     refine lm_cf ?_
     refine lw_ld B410 (a409.len.trans (lenSess _)) ?_
     refine lm_heldv (hd_SessV (n + 24) (by omega)) (a459.vw (okLW_mk7 _ _ (okWSess 4 (vSessPush x0 x1 x2)))) (wfvSess _ s10) (by omega) (by omega) ?_
     refine lm_neI ?_
     refine lm_cf ?_
     rfl
  ·refine w_new fun i628 i628E B627 => ?_
   have o629 : i2 < i628 := by have := (List.getElem?_eq_some_iff.1 B1).1; omega
   have o630 : i4 < i628 := by have := (List.getElem?_eq_some_iff.1 B3).1; omega
   have o631 : N11 + nbL (encSess (x0)) ≤ i628 := by have := a15.2.1; omega
   replace B1 := blk_grow B1 [⟨[(.sc (.string ⟨#[]⟩)), (.sc (.int .i64 0)), (.sc (.bool false)), (.sc (.int .i64 0)), (.sc (.int .i64 0)), (.sc (.int .i64 0)), .nl, .nl, .nl], true, true⟩]
   replace B3 := blk_grow B3 [⟨[(.sc (.string ⟨#[]⟩)), (.sc (.int .i64 0)), (.sc (.bool false)), (.sc (.int .i64 0)), (.sc (.int .i64 0)), (.sc (.int .i64 0)), .nl, .nl, .nl], true, true⟩]
   replace a15 := a15.grow [⟨[(.sc (.string ⟨#[]⟩)), (.sc (.int .i64 0)), (.sc (.bool false)), (.sc (.int .i64 0)), (.sc (.int .i64 0)), (.sc (.int .i64 0)), .nl, .nl, .nl], true, true⟩]
   refine lm_agg rfl (vcons (Vw_agg _ (flMsg x2)) vnil) (toF_Msg (n + 27) (by omega) x2 (by omega)) tyMsg fun y635 X633 N632 n634 a636 => ?_
   have o637 : i2 < N632 := by have := (List.getElem?_eq_some_iff.1 B1).1; omega
   have o638 : i4 < N632 := by have := (List.getElem?_eq_some_iff.1 B3).1; omega
   have o639 : N11 + nbL (encSess (x0)) ≤ N632 := by have := a15.2.1; omega
   have o640 : i628 < N632 := by have := (List.getElem?_eq_some_iff.1 B627).1; omega
   replace B1 := blk_grow B1 X633
   replace B3 := blk_grow B3 X633
   replace a15 := a15.grow X633
   replace B627 := blk_grow B627 X633
   refine lm_tup rfl (vcons (a15.vw (okWSess 4 (x0))) (vcons (Vw_sc _ _) (vcons (a636.vw (okWMsg 5 (x2))) vnil))) (specF_SessPush (n + 16) (by omega) x0 x1 x2 k0 k1 k2 (by omega) (by omega)) rfl fun ys644 X642 N641 n643 a645 => ?_
   have o646 : i2 < N641 := by have := (List.getElem?_eq_some_iff.1 B1).1; omega
   have o647 : i4 < N641 := by have := (List.getElem?_eq_some_iff.1 B3).1; omega
   have o648 : i628 < N641 := by have := (List.getElem?_eq_some_iff.1 B627).1; omega
   replace B1 := blk_grow B1 X642
   replace B3 := blk_grow B3 X642
   replace B627 := blk_grow B627 X642
   obtain ⟨y649, ys650, rfl, a651, a652⟩ := a645.cons
   obtain ⟨y653, ys654, rfl, a655, a656⟩ := a652.cons
   obtain rfl := a656.nil
   refine lm_ex rfl ?_
   obtain ⟨ys657, rfl, a658⟩ := a651.agg tySess
   refine lm_ex rfl ?_
   obtain rfl := a655.sc
   refine lm_store B627 rfl (a658.len.trans (lenSess _)) (a658.leaf (flSess _)) fun G659 B661 q660 => ?_
   replace B1 := blk_kept B1 q660 (by omega)
   replace B3 := blk_kept B3 q660 (by omega)
   replace a658 := a658.kept q660 (by omega)
   refine lw_ld B1 (lenSess x0) ?_
   refine lm_agg rfl (vcons (Vw_agg _ (flSess x0)) vnil) (toF_Sess (n + 23) (by omega) x0 (by omega)) tySess fun y665 X663 N662 n664 a666 => ?_
   have o667 : i2 < N662 := by have := (List.getElem?_eq_some_iff.1 B1).1; omega
   have o668 : i4 < N662 := by have := (List.getElem?_eq_some_iff.1 B3).1; omega
   have o669 : i628 < N662 := by have := (List.getElem?_eq_some_iff.1 B661).1; omega
   have o670 : N641 + nbL (encSess (vSessPush x0 x1 x2)) ≤ N662 := by have := a658.2.1; omega
   replace B1 := blk_grow B1 X663
   replace B3 := blk_grow B3 X663
   replace B661 := blk_grow B661 X663
   replace a658 := a658.grow X663
   refine lm_put rfl (a666.len.trans (lenSess _)) (a666.leaf (flSess _)) fun i672 i672E B671 => ?_
   have o673 : i2 < i672 := by have := (List.getElem?_eq_some_iff.1 B1).1; omega
   have o674 : i4 < i672 := by have := (List.getElem?_eq_some_iff.1 B3).1; omega
   have o675 : i628 < i672 := by have := (List.getElem?_eq_some_iff.1 B661).1; omega
   have o676 : N641 + nbL (encSess (vSessPush x0 x1 x2)) ≤ i672 := by have := a658.2.1; omega
   have o677 : N662 + nbL (encSess (x0)) ≤ i672 := by have := a666.2.1; omega
   replace B1 := blk_grow B1 [⟨y665, true, true⟩]
   replace B3 := blk_grow B3 [⟨y665, true, true⟩]
   replace B661 := blk_grow B661 [⟨y665, true, true⟩]
   replace a658 := a658.grow [⟨y665, true, true⟩]
   replace a666 := a666.grow [⟨y665, true, true⟩]
   refine lw_ld B3 (lenMsg x2) ?_
   refine lm_agg rfl (vcons (Vw_agg _ (flMsg x2)) vnil) (toF_Msg (n + 27) (by omega) x2 (by omega)) tyMsg fun y681 X679 N678 n680 a682 => ?_
   have o683 : i2 < N678 := by have := (List.getElem?_eq_some_iff.1 B1).1; omega
   have o684 : i4 < N678 := by have := (List.getElem?_eq_some_iff.1 B3).1; omega
   have o685 : i628 < N678 := by have := (List.getElem?_eq_some_iff.1 B661).1; omega
   have o686 : N641 + nbL (encSess (vSessPush x0 x1 x2)) ≤ N678 := by have := a658.2.1; omega
   have o687 : N662 + nbL (encSess (x0)) ≤ N678 := by have := a666.2.1; omega
   have o688 : i672 < N678 := by have := (List.getElem?_eq_some_iff.1 B671).1; omega
   replace B1 := blk_grow B1 X679
   replace B3 := blk_grow B3 X679
   replace B661 := blk_grow B661 X679
   replace a658 := a658.grow X679
   replace a666 := a666.grow X679
   replace B671 := blk_grow B671 X679
   refine lm_put rfl (a682.len.trans (lenMsg _)) (a682.leaf (flMsg _)) fun i690 i690E B689 => ?_
   have o691 : i2 < i690 := by have := (List.getElem?_eq_some_iff.1 B1).1; omega
   have o692 : i4 < i690 := by have := (List.getElem?_eq_some_iff.1 B3).1; omega
   have o693 : i628 < i690 := by have := (List.getElem?_eq_some_iff.1 B661).1; omega
   have o694 : N641 + nbL (encSess (vSessPush x0 x1 x2)) ≤ i690 := by have := a658.2.1; omega
   have o695 : N662 + nbL (encSess (x0)) ≤ i690 := by have := a666.2.1; omega
   have o696 : i672 < i690 := by have := (List.getElem?_eq_some_iff.1 B671).1; omega
   have o697 : N678 + nbL (encMsg (x2)) ≤ i690 := by have := a682.2.1; omega
   replace B1 := blk_grow B1 [⟨y681, true, true⟩]
   replace B3 := blk_grow B3 [⟨y681, true, true⟩]
   replace B661 := blk_grow B661 [⟨y681, true, true⟩]
   replace a658 := a658.grow [⟨y681, true, true⟩]
   replace a666 := a666.grow [⟨y681, true, true⟩]
   replace B671 := blk_grow B671 [⟨y681, true, true⟩]
   replace a682 := a682.grow [⟨y681, true, true⟩]
   refine lw_ld B671 (a666.len.trans (lenSess _)) ?_
   refine lw_ld B689 (a682.len.trans (lenMsg _)) ?_
   refine lm_tup rfl (vcons (a666.vw (okWSess 4 (x0))) (vcons (Vw_sc _ _) (vcons (a682.vw (okWMsg 5 (x2))) vnil))) (implF_SessPush (n + 16) (by omega) x0 x1 x2 k0 k1 k2 (by omega) (by omega)) rfl fun ys701 X699 N698 n700 a702 => ?_
   have o703 : i2 < N698 := by have := (List.getElem?_eq_some_iff.1 B1).1; omega
   have o704 : i4 < N698 := by have := (List.getElem?_eq_some_iff.1 B3).1; omega
   have o705 : i628 < N698 := by have := (List.getElem?_eq_some_iff.1 B661).1; omega
   have o706 : N641 + nbL (encSess (vSessPush x0 x1 x2)) ≤ N698 := by have := a658.2.1; omega
   have o707 : N662 + nbL (encSess (x0)) ≤ N698 := by have := a666.2.1; omega
   have o708 : i672 < N698 := by have := (List.getElem?_eq_some_iff.1 B671).1; omega
   have o709 : N678 + nbL (encMsg (x2)) ≤ N698 := by have := a682.2.1; omega
   have o710 : i690 < N698 := by have := (List.getElem?_eq_some_iff.1 B689).1; omega
   replace B1 := blk_grow B1 X699
   replace B3 := blk_grow B3 X699
   replace B661 := blk_grow B661 X699
   replace a658 := a658.grow X699
   replace a666 := a666.grow X699
   replace B671 := blk_grow B671 X699
   replace a682 := a682.grow X699
   replace B689 := blk_grow B689 X699
   obtain ⟨y711, ys712, rfl, a713, a714⟩ := a702.cons
   obtain ⟨y715, ys716, rfl, a717, a718⟩ := a714.cons
   obtain rfl := a718.nil
   refine lm_ex rfl ?_
   obtain ⟨ys719, rfl, a720⟩ := a713.agg tySess
   refine lm_ex rfl ?_
   obtain rfl := a717.sc
   refine lm_put rfl (a720.len.trans (lenSess _)) (a720.leaf (flSess _)) fun i722 i722E B721 => ?_
   have o723 : i2 < i722 := by have := (List.getElem?_eq_some_iff.1 B1).1; omega
   have o724 : i4 < i722 := by have := (List.getElem?_eq_some_iff.1 B3).1; omega
   have o725 : i628 < i722 := by have := (List.getElem?_eq_some_iff.1 B661).1; omega
   have o726 : N641 + nbL (encSess (vSessPush x0 x1 x2)) ≤ i722 := by have := a658.2.1; omega
   have o727 : N662 + nbL (encSess (x0)) ≤ i722 := by have := a666.2.1; omega
   have o728 : i672 < i722 := by have := (List.getElem?_eq_some_iff.1 B671).1; omega
   have o729 : N678 + nbL (encMsg (x2)) ≤ i722 := by have := a682.2.1; omega
   have o730 : i690 < i722 := by have := (List.getElem?_eq_some_iff.1 B689).1; omega
   have o731 : N698 + nbL (encSess (vSessPush x0 x1 x2)) ≤ i722 := by have := a720.2.1; omega
   replace B1 := blk_grow B1 [⟨ys719, true, true⟩]
   replace B3 := blk_grow B3 [⟨ys719, true, true⟩]
   replace B661 := blk_grow B661 [⟨ys719, true, true⟩]
   replace a658 := a658.grow [⟨ys719, true, true⟩]
   replace a666 := a666.grow [⟨ys719, true, true⟩]
   replace B671 := blk_grow B671 [⟨ys719, true, true⟩]
   replace a682 := a682.grow [⟨ys719, true, true⟩]
   replace B689 := blk_grow B689 [⟨ys719, true, true⟩]
   replace a720 := a720.grow [⟨ys719, true, true⟩]
   refine lw_ld B721 (a720.len.trans (lenSess _)) ?_
   refine lw_ld B661 (a658.len.trans (lenSess _)) ?_
   refine lm_eq rfl (vcons (a720.vw (okWSess 4 (vSessPush x0 x1 x2))) (vcons (a658.vw (okWSess 4 (vSessPush x0 x1 x2))) vnil)) (eqF_Sess (n + 23) (by omega) _ (vSessPush x0 x1 x2) s10w) ?_
   refine lm_not ?_
   refine lm_gf ?_
   refine lm_gf ?_
   refine lm_gf ?_
   refine lm_neI ?_
   refine lm_pk ?_
   refine lm_cf ?_
   refine lw_ld B671 (a666.len.trans (lenSess _)) ?_
   refine lw_ld B1 (lenSess x0) ?_
   refine lm_agg rfl (vcons (Vw_agg _ (flSess x0)) vnil) (toF_Sess (n + 23) (by omega) x0 (by omega)) tySess fun y735 X733 N732 n734 a736 => ?_
   have o737 : i2 < N732 := by have := (List.getElem?_eq_some_iff.1 B1).1; omega
   have o738 : i4 < N732 := by have := (List.getElem?_eq_some_iff.1 B3).1; omega
   have o739 : i628 < N732 := by have := (List.getElem?_eq_some_iff.1 B661).1; omega
   have o740 : N641 + nbL (encSess (vSessPush x0 x1 x2)) ≤ N732 := by have := a658.2.1; omega
   have o741 : N662 + nbL (encSess (x0)) ≤ N732 := by have := a666.2.1; omega
   have o742 : i672 < N732 := by have := (List.getElem?_eq_some_iff.1 B671).1; omega
   have o743 : N678 + nbL (encMsg (x2)) ≤ N732 := by have := a682.2.1; omega
   have o744 : i690 < N732 := by have := (List.getElem?_eq_some_iff.1 B689).1; omega
   have o745 : N698 + nbL (encSess (vSessPush x0 x1 x2)) ≤ N732 := by have := a720.2.1; omega
   have o746 : i722 < N732 := by have := (List.getElem?_eq_some_iff.1 B721).1; omega
   replace B1 := blk_grow B1 X733
   replace B3 := blk_grow B3 X733
   replace B661 := blk_grow B661 X733
   replace a658 := a658.grow X733
   replace a666 := a666.grow X733
   replace B671 := blk_grow B671 X733
   replace a682 := a682.grow X733
   replace B689 := blk_grow B689 X733
   replace a720 := a720.grow X733
   replace B721 := blk_grow B721 X733
   refine lm_eq rfl (vcons (a666.vw (okWSess 4 (x0))) (vcons (a736.vw (okWSess 4 (x0))) vnil)) (eqF_Sess (n + 23) (by omega) _ (x0) s5w) ?_
   refine lm_not ?_
   refine lm_cf ?_
   refine lw_ld B689 (a682.len.trans (lenMsg _)) ?_
   refine lw_ld B3 (lenMsg x2) ?_
   refine lm_agg rfl (vcons (Vw_agg _ (flMsg x2)) vnil) (toF_Msg (n + 27) (by omega) x2 (by omega)) tyMsg fun y750 X748 N747 n749 a751 => ?_
   have o752 : i2 < N747 := by have := (List.getElem?_eq_some_iff.1 B1).1; omega
   have o753 : i4 < N747 := by have := (List.getElem?_eq_some_iff.1 B3).1; omega
   have o754 : i628 < N747 := by have := (List.getElem?_eq_some_iff.1 B661).1; omega
   have o755 : N641 + nbL (encSess (vSessPush x0 x1 x2)) ≤ N747 := by have := a658.2.1; omega
   have o756 : N662 + nbL (encSess (x0)) ≤ N747 := by have := a666.2.1; omega
   have o757 : i672 < N747 := by have := (List.getElem?_eq_some_iff.1 B671).1; omega
   have o758 : N678 + nbL (encMsg (x2)) ≤ N747 := by have := a682.2.1; omega
   have o759 : i690 < N747 := by have := (List.getElem?_eq_some_iff.1 B689).1; omega
   have o760 : N698 + nbL (encSess (vSessPush x0 x1 x2)) ≤ N747 := by have := a720.2.1; omega
   have o761 : i722 < N747 := by have := (List.getElem?_eq_some_iff.1 B721).1; omega
   replace B1 := blk_grow B1 X748
   replace B3 := blk_grow B3 X748
   replace B661 := blk_grow B661 X748
   replace a658 := a658.grow X748
   replace a666 := a666.grow X748
   replace B671 := blk_grow B671 X748
   replace a682 := a682.grow X748
   replace B689 := blk_grow B689 X748
   replace a720 := a720.grow X748
   replace B721 := blk_grow B721 X748
   refine lm_eq rfl (vcons (a682.vw (okWMsg 5 (x2))) (vcons (a751.vw (okWMsg 5 (x2))) vnil)) (eqF_Msg (n + 27) (by omega) _ (x2) s7w) ?_
   refine lm_not ?_
   refine lm_cf ?_
   refine lw_ld B671 (a666.len.trans (lenSess _)) ?_
   refine lm_markv (mk_SessV (n + 24) (by omega)) rfl a666 (wfvSess _ s5) (by omega) (by omega) fun G762 a764 q763 => ?_
   replace B1 := blk_kept B1 q763 (by omega)
   replace B3 := blk_kept B3 q763 (by omega)
   replace B661 := blk_kept B661 q763 (by omega)
   replace a658 := a658.kept q763 (by omega)
   replace a682 := a682.kept q763 (by omega)
   replace B689 := blk_kept B689 q763 (by omega)
   replace a720 := a720.kept q763 (by omega)
   replace B721 := blk_kept B721 q763 (by omega)
   refine lw_ld B689 (a682.len.trans (lenMsg _)) ?_
   refine lm_markv (mk_MsgV (n + 26) (by omega)) rfl a682 (wfvMsg _ s7) (by omega) (by omega) fun G765 a767 q766 => ?_
   replace B1 := blk_kept B1 q766 (by omega)
   replace B3 := blk_kept B3 q766 (by omega)
   replace B661 := blk_kept B661 q766 (by omega)
   replace a658 := a658.kept q766 (by omega)
   replace a720 := a720.kept q766 (by omega)
   replace B721 := blk_kept B721 q766 (by omega)
   refine lm_neg (by omega) ?_
   refine lm_gf ?_
   refine lw_ld B721 (a720.len.trans (lenSess _)) ?_
   refine lm_gf ?_
   refine lw_ld B661 (a658.len.trans (lenSess _)) ?_
   refine lm_gf ?_
   refine lm_eq rfl (vcons (a720.vw (okWSess 4 (vSessPush x0 x1 x2))) (vcons (a658.vw (okWSess 4 (vSessPush x0 x1 x2))) vnil)) (eqF_Sess (n + 23) (by omega) _ (vSessPush x0 x1 x2) s10w) ?_
   refine lm_gf ?_
   refine lm_not ?_
   refine lm_pk ?_
   refine lm_gf ?_
   refine lm_gf ?_
   refine lm_gf ?_
   refine lm_neI ?_
   refine lm_pk ?_
   refine lm_cf ?_
   refine lw_ld B721 (a720.len.trans (lenSess _)) ?_
   refine lm_markv (mk_SessV (n + 24) (by omega)) rfl a720 (wfvSess _ s10) (by omega) (by omega) fun G768 a770 q769 => ?_
   replace B1 := blk_kept B1 q769 (by omega)
   replace B3 := blk_kept B3 q769 (by omega)
   replace B661 := blk_kept B661 q769 (by omega)
   replace a658 := a658.kept q769 (by omega)
   replace B721 := blk_kept B721 q769 (by omega)
   refine lw_ld B721 (a720.len.trans (lenSess _)) ?_
   refine lm_heldv (hd_SessV (n + 24) (by omega)) (a770.vw (okLW_mk7 _ _ (okWSess 4 (vSessPush x0 x1 x2)))) (wfvSess _ s10) (by omega) (by omega) ?_
   refine lm_neI ?_
   refine lm_cf ?_
   refine lw_ld B1 (lenSess x0) ?_
   refine lw_ld B3 (lenMsg x2) ?_
   refine pBoth_eq ?_ ?_
   ·refine lm_agg rfl (vcons (Vw_agg _ (flSess x0)) vnil) (toF_Sess (n + 23) (by omega) x0 (by omega)) tySess fun y774 X772 N771 n773 a775 => ?_
    have o776 : i628 < N771 := by have := (List.getElem?_eq_some_iff.1 B661).1; omega
    have o777 : N641 + nbL (encSess (vSessPush x0 x1 x2)) ≤ N771 := by have := a658.2.1; omega
    have o778 : N698 + nbL (encSess (vSessPush x0 x1 x2)) ≤ N771 := by have := a770.2.1; rw [mkL_nb] at this; omega
    have o779 : i722 < N771 := by have := (List.getElem?_eq_some_iff.1 B721).1; omega
    replace B661 := blk_grow B661 X772
    replace a658 := a658.grow X772
    replace a770 := a770.grow X772
    replace B721 := blk_grow B721 X772
    refine pBoth_eq ?_ ?_
    ·refine lm_agg rfl (vcons (Vw_agg _ (flMsg x2)) vnil) (toF_Msg (n + 27) (by omega) x2 (by omega)) tyMsg fun y783 X781 N780 n782 a784 => ?_
     have o785 : i628 < N780 := by have := (List.getElem?_eq_some_iff.1 B661).1; omega
     have o786 : N641 + nbL (encSess (vSessPush x0 x1 x2)) ≤ N780 := by have := a658.2.1; omega
     have o787 : N698 + nbL (encSess (vSessPush x0 x1 x2)) ≤ N780 := by have := a770.2.1; rw [mkL_nb] at this; omega
     have o788 : i722 < N780 := by have := (List.getElem?_eq_some_iff.1 B721).1; omega
     have o789 : N771 + nbL (encSess (x0)) ≤ N780 := by have := a775.2.1; omega
     replace B661 := blk_grow B661 X781
     replace a658 := a658.grow X781
     replace a770 := a770.grow X781
     replace B721 := blk_grow B721 X781
     replace a775 := a775.grow X781
     refine pBoth_eq ?_ ?_
     ·refine lm_tup rfl (vcons (a775.vw (okWSess 4 (x0))) (vcons (Vw_sc _ _) (vcons (a784.vw (okWMsg 5 (x2))) vnil))) (implF_SessPush (n + 16) (by omega) x0 x1 x2 k0 k1 k2 (by omega) (by omega)) rfl fun ys793 X791 N790 n792 a794 => ?_
      have o795 : i628 < N790 := by have := (List.getElem?_eq_some_iff.1 B661).1; omega
      have o796 : N641 + nbL (encSess (vSessPush x0 x1 x2)) ≤ N790 := by have := a658.2.1; omega
      have o797 : N698 + nbL (encSess (vSessPush x0 x1 x2)) ≤ N790 := by have := a770.2.1; rw [mkL_nb] at this; omega
      have o798 : i722 < N790 := by have := (List.getElem?_eq_some_iff.1 B721).1; omega
      replace B661 := blk_grow B661 X791
      replace a658 := a658.grow X791
      replace a770 := a770.grow X791
      replace B721 := blk_grow B721 X791
      obtain ⟨y799, ys800, rfl, a801, a802⟩ := a794.cons
      obtain ⟨y803, ys804, rfl, a805, a806⟩ := a802.cons
      obtain rfl := a806.nil
      refine lm_ex rfl ?_
      obtain ⟨ys807, rfl, a808⟩ := a801.agg tySess
      refine lm_ex rfl ?_
      obtain rfl := a805.sc
      refine lm_put rfl (a808.len.trans (lenSess _)) (a808.leaf (flSess _)) fun i810 i810E B809 => ?_
      have o811 : i628 < i810 := by have := (List.getElem?_eq_some_iff.1 B661).1; omega
      have o812 : N641 + nbL (encSess (vSessPush x0 x1 x2)) ≤ i810 := by have := a658.2.1; omega
      have o813 : N698 + nbL (encSess (vSessPush x0 x1 x2)) ≤ i810 := by have := a770.2.1; rw [mkL_nb] at this; omega
      have o814 : i722 < i810 := by have := (List.getElem?_eq_some_iff.1 B721).1; omega
      have o815 : N790 + nbL (encSess (vSessPush x0 x1 x2)) ≤ i810 := by have := a808.2.1; omega
      replace B661 := blk_grow B661 [⟨ys807, true, true⟩]
      replace a658 := a658.grow [⟨ys807, true, true⟩]
      replace a770 := a770.grow [⟨ys807, true, true⟩]
      replace B721 := blk_grow B721 [⟨ys807, true, true⟩]
      replace a808 := a808.grow [⟨ys807, true, true⟩]
      refine lw_ld B809 (a808.len.trans (lenSess _)) ?_
      refine lw_ld B661 (a658.len.trans (lenSess _)) ?_
      refine lm_eq rfl (vcons (a808.vw (okWSess 4 (vSessPush x0 x1 x2))) (vcons (a658.vw (okWSess 4 (vSessPush x0 x1 x2))) vnil)) (eqF_Sess (n + 23) (by omega) _ (vSessPush x0 x1 x2) s10w) ?_
      refine lm_not ?_
      refine lm_gf ?_
      refine lm_gf ?_
      refine lm_gf ?_
      refine lm_neI ?_
      refine lm_pk ?_
      refine lm_cf ?_
      refine lw_ld B721 (a720.len.trans (lenSess _)) ?_
      refine lm_heldv (hd_SessV (n + 24) (by omega)) (a770.vw (okLW_mk7 _ _ (okWSess 4 (vSessPush x0 x1 x2)))) (wfvSess _ s10) (by omega) (by omega) ?_
      refine lm_neI ?_
      refine lm_cf ?_
      rfl
     ·refine w_new fun i817 i817E B816 => ?_
      have o818 : i628 < i817 := by have := (List.getElem?_eq_some_iff.1 B661).1; omega
      have o819 : N641 + nbL (encSess (vSessPush x0 x1 x2)) ≤ i817 := by have := a658.2.1; omega
      have o820 : N698 + nbL (encSess (vSessPush x0 x1 x2)) ≤ i817 := by have := a770.2.1; rw [mkL_nb] at this; omega
      have o821 : i722 < i817 := by have := (List.getElem?_eq_some_iff.1 B721).1; omega
      have o822 : N771 + nbL (encSess (x0)) ≤ i817 := by have := a775.2.1; omega
      have o823 : N780 + nbL (encMsg (x2)) ≤ i817 := by have := a784.2.1; omega
      replace B661 := blk_grow B661 [⟨[(.sc (.string ⟨#[]⟩)), (.sc (.int .i64 0)), (.sc (.bool false)), (.sc (.int .i64 0)), (.sc (.int .i64 0)), (.sc (.int .i64 0)), .nl, .nl, .nl], true, true⟩]
      replace a658 := a658.grow [⟨[(.sc (.string ⟨#[]⟩)), (.sc (.int .i64 0)), (.sc (.bool false)), (.sc (.int .i64 0)), (.sc (.int .i64 0)), (.sc (.int .i64 0)), .nl, .nl, .nl], true, true⟩]
      replace a770 := a770.grow [⟨[(.sc (.string ⟨#[]⟩)), (.sc (.int .i64 0)), (.sc (.bool false)), (.sc (.int .i64 0)), (.sc (.int .i64 0)), (.sc (.int .i64 0)), .nl, .nl, .nl], true, true⟩]
      replace B721 := blk_grow B721 [⟨[(.sc (.string ⟨#[]⟩)), (.sc (.int .i64 0)), (.sc (.bool false)), (.sc (.int .i64 0)), (.sc (.int .i64 0)), (.sc (.int .i64 0)), .nl, .nl, .nl], true, true⟩]
      replace a775 := a775.grow [⟨[(.sc (.string ⟨#[]⟩)), (.sc (.int .i64 0)), (.sc (.bool false)), (.sc (.int .i64 0)), (.sc (.int .i64 0)), (.sc (.int .i64 0)), .nl, .nl, .nl], true, true⟩]
      replace a784 := a784.grow [⟨[(.sc (.string ⟨#[]⟩)), (.sc (.int .i64 0)), (.sc (.bool false)), (.sc (.int .i64 0)), (.sc (.int .i64 0)), (.sc (.int .i64 0)), .nl, .nl, .nl], true, true⟩]
      refine lm_tup rfl (vcons (a775.vw (okWSess 4 (x0))) (vcons (Vw_sc _ _) (vcons (a784.vw (okWMsg 5 (x2))) vnil))) (implF_SessPush (n + 16) (by omega) x0 x1 x2 k0 k1 k2 (by omega) (by omega)) rfl fun ys827 X825 N824 n826 a828 => ?_
      have o829 : i628 < N824 := by have := (List.getElem?_eq_some_iff.1 B661).1; omega
      have o830 : N641 + nbL (encSess (vSessPush x0 x1 x2)) ≤ N824 := by have := a658.2.1; omega
      have o831 : N698 + nbL (encSess (vSessPush x0 x1 x2)) ≤ N824 := by have := a770.2.1; rw [mkL_nb] at this; omega
      have o832 : i722 < N824 := by have := (List.getElem?_eq_some_iff.1 B721).1; omega
      have o833 : i817 < N824 := by have := (List.getElem?_eq_some_iff.1 B816).1; omega
      replace B661 := blk_grow B661 X825
      replace a658 := a658.grow X825
      replace a770 := a770.grow X825
      replace B721 := blk_grow B721 X825
      replace B816 := blk_grow B816 X825
      obtain ⟨y834, ys835, rfl, a836, a837⟩ := a828.cons
      obtain ⟨y838, ys839, rfl, a840, a841⟩ := a837.cons
      obtain rfl := a841.nil
      refine lm_ex rfl ?_
      obtain ⟨ys842, rfl, a843⟩ := a836.agg tySess
      refine lm_ex rfl ?_
      obtain rfl := a840.sc
      refine lm_store B816 rfl (a843.len.trans (lenSess _)) (a843.leaf (flSess _)) fun G844 B846 q845 => ?_
      replace B661 := blk_kept B661 q845 (by omega)
      replace a658 := a658.kept q845 (by omega)
      replace a770 := a770.kept q845 (by rw [mkL_nb]; omega)
      replace B721 := blk_kept B721 q845 (by omega)
      replace a843 := a843.kept q845 (by omega)
      refine lw_ld B846 (a843.len.trans (lenSess _)) ?_
      refine lw_ld B661 (a658.len.trans (lenSess _)) ?_
      refine lm_eq rfl (vcons (a843.vw (okWSess 4 (vSessPush x0 x1 x2))) (vcons (a658.vw (okWSess 4 (vSessPush x0 x1 x2))) vnil)) (eqF_Sess (n + 23) (by omega) _ (vSessPush x0 x1 x2) s10w) ?_
      refine lm_not ?_
      refine lm_gf ?_
      refine lm_gf ?_
      refine lm_gf ?_
      refine lm_neI ?_
      refine lm_pk ?_
      refine lm_cf ?_
      refine lw_ld B721 (a720.len.trans (lenSess _)) ?_
      refine lm_heldv (hd_SessV (n + 24) (by omega)) (a770.vw (okLW_mk7 _ _ (okWSess 4 (vSessPush x0 x1 x2)))) (wfvSess _ s10) (by omega) (by omega) ?_
      refine lm_neI ?_
      refine lm_cf ?_
      rfl
    ·refine w_new fun i848 i848E B847 => ?_
     have o849 : i628 < i848 := by have := (List.getElem?_eq_some_iff.1 B661).1; omega
     have o850 : N641 + nbL (encSess (vSessPush x0 x1 x2)) ≤ i848 := by have := a658.2.1; omega
     have o851 : N698 + nbL (encSess (vSessPush x0 x1 x2)) ≤ i848 := by have := a770.2.1; rw [mkL_nb] at this; omega
     have o852 : i722 < i848 := by have := (List.getElem?_eq_some_iff.1 B721).1; omega
     have o853 : N771 + nbL (encSess (x0)) ≤ i848 := by have := a775.2.1; omega
     replace B661 := blk_grow B661 [⟨[(.sc (.string ⟨#[]⟩)), (.sc (.int .i64 0)), (.sc (.bool false)), (.sc (.int .i64 0)), (.sc (.int .i64 0)), (.sc (.int .i64 0)), .nl, .nl, .nl], true, true⟩]
     replace a658 := a658.grow [⟨[(.sc (.string ⟨#[]⟩)), (.sc (.int .i64 0)), (.sc (.bool false)), (.sc (.int .i64 0)), (.sc (.int .i64 0)), (.sc (.int .i64 0)), .nl, .nl, .nl], true, true⟩]
     replace a770 := a770.grow [⟨[(.sc (.string ⟨#[]⟩)), (.sc (.int .i64 0)), (.sc (.bool false)), (.sc (.int .i64 0)), (.sc (.int .i64 0)), (.sc (.int .i64 0)), .nl, .nl, .nl], true, true⟩]
     replace B721 := blk_grow B721 [⟨[(.sc (.string ⟨#[]⟩)), (.sc (.int .i64 0)), (.sc (.bool false)), (.sc (.int .i64 0)), (.sc (.int .i64 0)), (.sc (.int .i64 0)), .nl, .nl, .nl], true, true⟩]
     replace a775 := a775.grow [⟨[(.sc (.string ⟨#[]⟩)), (.sc (.int .i64 0)), (.sc (.bool false)), (.sc (.int .i64 0)), (.sc (.int .i64 0)), (.sc (.int .i64 0)), .nl, .nl, .nl], true, true⟩]
     refine lm_agg rfl (vcons (Vw_agg _ (flMsg x2)) vnil) (toF_Msg (n + 27) (by omega) x2 (by omega)) tyMsg fun y857 X855 N854 n856 a858 => ?_
     have o859 : i628 < N854 := by have := (List.getElem?_eq_some_iff.1 B661).1; omega
     have o860 : N641 + nbL (encSess (vSessPush x0 x1 x2)) ≤ N854 := by have := a658.2.1; omega
     have o861 : N698 + nbL (encSess (vSessPush x0 x1 x2)) ≤ N854 := by have := a770.2.1; rw [mkL_nb] at this; omega
     have o862 : i722 < N854 := by have := (List.getElem?_eq_some_iff.1 B721).1; omega
     have o863 : N771 + nbL (encSess (x0)) ≤ N854 := by have := a775.2.1; omega
     have o864 : i848 < N854 := by have := (List.getElem?_eq_some_iff.1 B847).1; omega
     replace B661 := blk_grow B661 X855
     replace a658 := a658.grow X855
     replace a770 := a770.grow X855
     replace B721 := blk_grow B721 X855
     replace a775 := a775.grow X855
     replace B847 := blk_grow B847 X855
     refine lm_tup rfl (vcons (a775.vw (okWSess 4 (x0))) (vcons (Vw_sc _ _) (vcons (a858.vw (okWMsg 5 (x2))) vnil))) (implF_SessPush (n + 16) (by omega) x0 x1 x2 k0 k1 k2 (by omega) (by omega)) rfl fun ys868 X866 N865 n867 a869 => ?_
     have o870 : i628 < N865 := by have := (List.getElem?_eq_some_iff.1 B661).1; omega
     have o871 : N641 + nbL (encSess (vSessPush x0 x1 x2)) ≤ N865 := by have := a658.2.1; omega
     have o872 : N698 + nbL (encSess (vSessPush x0 x1 x2)) ≤ N865 := by have := a770.2.1; rw [mkL_nb] at this; omega
     have o873 : i722 < N865 := by have := (List.getElem?_eq_some_iff.1 B721).1; omega
     have o874 : i848 < N865 := by have := (List.getElem?_eq_some_iff.1 B847).1; omega
     replace B661 := blk_grow B661 X866
     replace a658 := a658.grow X866
     replace a770 := a770.grow X866
     replace B721 := blk_grow B721 X866
     replace B847 := blk_grow B847 X866
     obtain ⟨y875, ys876, rfl, a877, a878⟩ := a869.cons
     obtain ⟨y879, ys880, rfl, a881, a882⟩ := a878.cons
     obtain rfl := a882.nil
     refine lm_ex rfl ?_
     obtain ⟨ys883, rfl, a884⟩ := a877.agg tySess
     refine lm_ex rfl ?_
     obtain rfl := a881.sc
     refine lm_store B847 rfl (a884.len.trans (lenSess _)) (a884.leaf (flSess _)) fun G885 B887 q886 => ?_
     replace B661 := blk_kept B661 q886 (by omega)
     replace a658 := a658.kept q886 (by omega)
     replace a770 := a770.kept q886 (by rw [mkL_nb]; omega)
     replace B721 := blk_kept B721 q886 (by omega)
     replace a884 := a884.kept q886 (by omega)
     refine lw_ld B887 (a884.len.trans (lenSess _)) ?_
     refine lw_ld B661 (a658.len.trans (lenSess _)) ?_
     refine lm_eq rfl (vcons (a884.vw (okWSess 4 (vSessPush x0 x1 x2))) (vcons (a658.vw (okWSess 4 (vSessPush x0 x1 x2))) vnil)) (eqF_Sess (n + 23) (by omega) _ (vSessPush x0 x1 x2) s10w) ?_
     refine lm_not ?_
     refine lm_gf ?_
     refine lm_gf ?_
     refine lm_gf ?_
     refine lm_neI ?_
     refine lm_pk ?_
     refine lm_cf ?_
     refine lw_ld B721 (a720.len.trans (lenSess _)) ?_
     refine lm_heldv (hd_SessV (n + 24) (by omega)) (a770.vw (okLW_mk7 _ _ (okWSess 4 (vSessPush x0 x1 x2)))) (wfvSess _ s10) (by omega) (by omega) ?_
     refine lm_neI ?_
     refine lm_cf ?_
     rfl
   ·refine w_new fun i889 i889E B888 => ?_
    have o890 : i628 < i889 := by have := (List.getElem?_eq_some_iff.1 B661).1; omega
    have o891 : N641 + nbL (encSess (vSessPush x0 x1 x2)) ≤ i889 := by have := a658.2.1; omega
    have o892 : N698 + nbL (encSess (vSessPush x0 x1 x2)) ≤ i889 := by have := a770.2.1; rw [mkL_nb] at this; omega
    have o893 : i722 < i889 := by have := (List.getElem?_eq_some_iff.1 B721).1; omega
    replace B661 := blk_grow B661 [⟨[(.sc (.string ⟨#[]⟩)), (.sc (.int .i64 0)), (.sc (.bool false)), (.sc (.int .i64 0)), (.sc (.int .i64 0)), (.sc (.int .i64 0)), .nl, .nl, .nl], true, true⟩]
    replace a658 := a658.grow [⟨[(.sc (.string ⟨#[]⟩)), (.sc (.int .i64 0)), (.sc (.bool false)), (.sc (.int .i64 0)), (.sc (.int .i64 0)), (.sc (.int .i64 0)), .nl, .nl, .nl], true, true⟩]
    replace a770 := a770.grow [⟨[(.sc (.string ⟨#[]⟩)), (.sc (.int .i64 0)), (.sc (.bool false)), (.sc (.int .i64 0)), (.sc (.int .i64 0)), (.sc (.int .i64 0)), .nl, .nl, .nl], true, true⟩]
    replace B721 := blk_grow B721 [⟨[(.sc (.string ⟨#[]⟩)), (.sc (.int .i64 0)), (.sc (.bool false)), (.sc (.int .i64 0)), (.sc (.int .i64 0)), (.sc (.int .i64 0)), .nl, .nl, .nl], true, true⟩]
    refine lm_agg rfl (vcons (Vw_agg _ (flSess x0)) vnil) (toF_Sess (n + 23) (by omega) x0 (by omega)) tySess fun y897 X895 N894 n896 a898 => ?_
    have o899 : i628 < N894 := by have := (List.getElem?_eq_some_iff.1 B661).1; omega
    have o900 : N641 + nbL (encSess (vSessPush x0 x1 x2)) ≤ N894 := by have := a658.2.1; omega
    have o901 : N698 + nbL (encSess (vSessPush x0 x1 x2)) ≤ N894 := by have := a770.2.1; rw [mkL_nb] at this; omega
    have o902 : i722 < N894 := by have := (List.getElem?_eq_some_iff.1 B721).1; omega
    have o903 : i889 < N894 := by have := (List.getElem?_eq_some_iff.1 B888).1; omega
    replace B661 := blk_grow B661 X895
    replace a658 := a658.grow X895
    replace a770 := a770.grow X895
    replace B721 := blk_grow B721 X895
    replace B888 := blk_grow B888 X895
    refine lm_agg rfl (vcons (Vw_agg _ (flMsg x2)) vnil) (toF_Msg (n + 27) (by omega) x2 (by omega)) tyMsg fun y907 X905 N904 n906 a908 => ?_
    have o909 : i628 < N904 := by have := (List.getElem?_eq_some_iff.1 B661).1; omega
    have o910 : N641 + nbL (encSess (vSessPush x0 x1 x2)) ≤ N904 := by have := a658.2.1; omega
    have o911 : N698 + nbL (encSess (vSessPush x0 x1 x2)) ≤ N904 := by have := a770.2.1; rw [mkL_nb] at this; omega
    have o912 : i722 < N904 := by have := (List.getElem?_eq_some_iff.1 B721).1; omega
    have o913 : i889 < N904 := by have := (List.getElem?_eq_some_iff.1 B888).1; omega
    have o914 : N894 + nbL (encSess (x0)) ≤ N904 := by have := a898.2.1; omega
    replace B661 := blk_grow B661 X905
    replace a658 := a658.grow X905
    replace a770 := a770.grow X905
    replace B721 := blk_grow B721 X905
    replace B888 := blk_grow B888 X905
    replace a898 := a898.grow X905
    refine lm_tup rfl (vcons (a898.vw (okWSess 4 (x0))) (vcons (Vw_sc _ _) (vcons (a908.vw (okWMsg 5 (x2))) vnil))) (implF_SessPush (n + 16) (by omega) x0 x1 x2 k0 k1 k2 (by omega) (by omega)) rfl fun ys918 X916 N915 n917 a919 => ?_
    have o920 : i628 < N915 := by have := (List.getElem?_eq_some_iff.1 B661).1; omega
    have o921 : N641 + nbL (encSess (vSessPush x0 x1 x2)) ≤ N915 := by have := a658.2.1; omega
    have o922 : N698 + nbL (encSess (vSessPush x0 x1 x2)) ≤ N915 := by have := a770.2.1; rw [mkL_nb] at this; omega
    have o923 : i722 < N915 := by have := (List.getElem?_eq_some_iff.1 B721).1; omega
    have o924 : i889 < N915 := by have := (List.getElem?_eq_some_iff.1 B888).1; omega
    replace B661 := blk_grow B661 X916
    replace a658 := a658.grow X916
    replace a770 := a770.grow X916
    replace B721 := blk_grow B721 X916
    replace B888 := blk_grow B888 X916
    obtain ⟨y925, ys926, rfl, a927, a928⟩ := a919.cons
    obtain ⟨y929, ys930, rfl, a931, a932⟩ := a928.cons
    obtain rfl := a932.nil
    refine lm_ex rfl ?_
    obtain ⟨ys933, rfl, a934⟩ := a927.agg tySess
    refine lm_ex rfl ?_
    obtain rfl := a931.sc
    refine lm_store B888 rfl (a934.len.trans (lenSess _)) (a934.leaf (flSess _)) fun G935 B937 q936 => ?_
    replace B661 := blk_kept B661 q936 (by omega)
    replace a658 := a658.kept q936 (by omega)
    replace a770 := a770.kept q936 (by rw [mkL_nb]; omega)
    replace B721 := blk_kept B721 q936 (by omega)
    replace a934 := a934.kept q936 (by omega)
    refine lw_ld B937 (a934.len.trans (lenSess _)) ?_
    refine lw_ld B661 (a658.len.trans (lenSess _)) ?_
    refine lm_eq rfl (vcons (a934.vw (okWSess 4 (vSessPush x0 x1 x2))) (vcons (a658.vw (okWSess 4 (vSessPush x0 x1 x2))) vnil)) (eqF_Sess (n + 23) (by omega) _ (vSessPush x0 x1 x2) s10w) ?_
    refine lm_not ?_
    refine lm_gf ?_
    refine lm_gf ?_
    refine lm_gf ?_
    refine lm_neI ?_
    refine lm_pk ?_
    refine lm_cf ?_
    refine lw_ld B721 (a720.len.trans (lenSess _)) ?_
    refine lm_heldv (hd_SessV (n + 24) (by omega)) (a770.vw (okLW_mk7 _ _ (okWSess 4 (vSessPush x0 x1 x2)))) (wfvSess _ s10) (by omega) (by omega) ?_
    refine lm_neI ?_
    refine lm_cf ?_
    rfl
 ·refine w_new fun i939 i939E B938 => ?_
  have o940 : i2 < i939 := by have := (List.getElem?_eq_some_iff.1 B1).1; omega
  have o941 : i4 < i939 := by have := (List.getElem?_eq_some_iff.1 B3).1; omega
  replace B1 := blk_grow B1 [⟨[(.sc (.string ⟨#[]⟩)), (.sc (.int .i64 0)), (.sc (.bool false)), (.sc (.int .i64 0)), (.sc (.int .i64 0)), (.sc (.int .i64 0)), .nl, .nl, .nl], true, true⟩]
  replace B3 := blk_grow B3 [⟨[(.sc (.string ⟨#[]⟩)), (.sc (.int .i64 0)), (.sc (.bool false)), (.sc (.int .i64 0)), (.sc (.int .i64 0)), (.sc (.int .i64 0)), .nl, .nl, .nl], true, true⟩]
  refine lm_agg rfl (vcons (Vw_agg _ (flSess x0)) vnil) (toF_Sess (n + 23) (by omega) x0 (by omega)) tySess fun y945 X943 N942 n944 a946 => ?_
  have o947 : i2 < N942 := by have := (List.getElem?_eq_some_iff.1 B1).1; omega
  have o948 : i4 < N942 := by have := (List.getElem?_eq_some_iff.1 B3).1; omega
  have o949 : i939 < N942 := by have := (List.getElem?_eq_some_iff.1 B938).1; omega
  replace B1 := blk_grow B1 X943
  replace B3 := blk_grow B3 X943
  replace B938 := blk_grow B938 X943
  refine lm_agg rfl (vcons (Vw_agg _ (flMsg x2)) vnil) (toF_Msg (n + 27) (by omega) x2 (by omega)) tyMsg fun y953 X951 N950 n952 a954 => ?_
  have o955 : i2 < N950 := by have := (List.getElem?_eq_some_iff.1 B1).1; omega
  have o956 : i4 < N950 := by have := (List.getElem?_eq_some_iff.1 B3).1; omega
  have o957 : i939 < N950 := by have := (List.getElem?_eq_some_iff.1 B938).1; omega
  have o958 : N942 + nbL (encSess (x0)) ≤ N950 := by have := a946.2.1; omega
  replace B1 := blk_grow B1 X951
  replace B3 := blk_grow B3 X951
  replace B938 := blk_grow B938 X951
  replace a946 := a946.grow X951
  refine lm_tup rfl (vcons (a946.vw (okWSess 4 (x0))) (vcons (Vw_sc _ _) (vcons (a954.vw (okWMsg 5 (x2))) vnil))) (specF_SessPush (n + 16) (by omega) x0 x1 x2 k0 k1 k2 (by omega) (by omega)) rfl fun ys962 X960 N959 n961 a963 => ?_
  have o964 : i2 < N959 := by have := (List.getElem?_eq_some_iff.1 B1).1; omega
  have o965 : i4 < N959 := by have := (List.getElem?_eq_some_iff.1 B3).1; omega
  have o966 : i939 < N959 := by have := (List.getElem?_eq_some_iff.1 B938).1; omega
  replace B1 := blk_grow B1 X960
  replace B3 := blk_grow B3 X960
  replace B938 := blk_grow B938 X960
  obtain ⟨y967, ys968, rfl, a969, a970⟩ := a963.cons
  obtain ⟨y971, ys972, rfl, a973, a974⟩ := a970.cons
  obtain rfl := a974.nil
  refine lm_ex rfl ?_
  obtain ⟨ys975, rfl, a976⟩ := a969.agg tySess
  refine lm_ex rfl ?_
  obtain rfl := a973.sc
  refine lm_store B938 rfl (a976.len.trans (lenSess _)) (a976.leaf (flSess _)) fun G977 B979 q978 => ?_
  replace B1 := blk_kept B1 q978 (by omega)
  replace B3 := blk_kept B3 q978 (by omega)
  replace a976 := a976.kept q978 (by omega)
  refine lw_ld B1 (lenSess x0) ?_
  refine lm_agg rfl (vcons (Vw_agg _ (flSess x0)) vnil) (toF_Sess (n + 23) (by omega) x0 (by omega)) tySess fun y983 X981 N980 n982 a984 => ?_
  have o985 : i2 < N980 := by have := (List.getElem?_eq_some_iff.1 B1).1; omega
  have o986 : i4 < N980 := by have := (List.getElem?_eq_some_iff.1 B3).1; omega
  have o987 : i939 < N980 := by have := (List.getElem?_eq_some_iff.1 B979).1; omega
  have o988 : N959 + nbL (encSess (vSessPush x0 x1 x2)) ≤ N980 := by have := a976.2.1; omega
  replace B1 := blk_grow B1 X981
  replace B3 := blk_grow B3 X981
  replace B979 := blk_grow B979 X981
  replace a976 := a976.grow X981
  refine lm_put rfl (a984.len.trans (lenSess _)) (a984.leaf (flSess _)) fun i990 i990E B989 => ?_
  have o991 : i2 < i990 := by have := (List.getElem?_eq_some_iff.1 B1).1; omega
  have o992 : i4 < i990 := by have := (List.getElem?_eq_some_iff.1 B3).1; omega
  have o993 : i939 < i990 := by have := (List.getElem?_eq_some_iff.1 B979).1; omega
  have o994 : N959 + nbL (encSess (vSessPush x0 x1 x2)) ≤ i990 := by have := a976.2.1; omega
  have o995 : N980 + nbL (encSess (x0)) ≤ i990 := by have := a984.2.1; omega
  replace B1 := blk_grow B1 [⟨y983, true, true⟩]
  replace B3 := blk_grow B3 [⟨y983, true, true⟩]
  replace B979 := blk_grow B979 [⟨y983, true, true⟩]
  replace a976 := a976.grow [⟨y983, true, true⟩]
  replace a984 := a984.grow [⟨y983, true, true⟩]
  refine lw_ld B3 (lenMsg x2) ?_
  refine lm_agg rfl (vcons (Vw_agg _ (flMsg x2)) vnil) (toF_Msg (n + 27) (by omega) x2 (by omega)) tyMsg fun y999 X997 N996 n998 a1000 => ?_
  have o1001 : i2 < N996 := by have := (List.getElem?_eq_some_iff.1 B1).1; omega
  have o1002 : i4 < N996 := by have := (List.getElem?_eq_some_iff.1 B3).1; omega
  have o1003 : i939 < N996 := by have := (List.getElem?_eq_some_iff.1 B979).1; omega
  have o1004 : N959 + nbL (encSess (vSessPush x0 x1 x2)) ≤ N996 := by have := a976.2.1; omega
  have o1005 : N980 + nbL (encSess (x0)) ≤ N996 := by have := a984.2.1; omega
  have o1006 : i990 < N996 := by have := (List.getElem?_eq_some_iff.1 B989).1; omega
  replace B1 := blk_grow B1 X997
  replace B3 := blk_grow B3 X997
  replace B979 := blk_grow B979 X997
  replace a976 := a976.grow X997
  replace a984 := a984.grow X997
  replace B989 := blk_grow B989 X997
  refine lm_put rfl (a1000.len.trans (lenMsg _)) (a1000.leaf (flMsg _)) fun i1008 i1008E B1007 => ?_
  have o1009 : i2 < i1008 := by have := (List.getElem?_eq_some_iff.1 B1).1; omega
  have o1010 : i4 < i1008 := by have := (List.getElem?_eq_some_iff.1 B3).1; omega
  have o1011 : i939 < i1008 := by have := (List.getElem?_eq_some_iff.1 B979).1; omega
  have o1012 : N959 + nbL (encSess (vSessPush x0 x1 x2)) ≤ i1008 := by have := a976.2.1; omega
  have o1013 : N980 + nbL (encSess (x0)) ≤ i1008 := by have := a984.2.1; omega
  have o1014 : i990 < i1008 := by have := (List.getElem?_eq_some_iff.1 B989).1; omega
  have o1015 : N996 + nbL (encMsg (x2)) ≤ i1008 := by have := a1000.2.1; omega
  replace B1 := blk_grow B1 [⟨y999, true, true⟩]
  replace B3 := blk_grow B3 [⟨y999, true, true⟩]
  replace B979 := blk_grow B979 [⟨y999, true, true⟩]
  replace a976 := a976.grow [⟨y999, true, true⟩]
  replace a984 := a984.grow [⟨y999, true, true⟩]
  replace B989 := blk_grow B989 [⟨y999, true, true⟩]
  replace a1000 := a1000.grow [⟨y999, true, true⟩]
  refine lw_ld B989 (a984.len.trans (lenSess _)) ?_
  refine lw_ld B1007 (a1000.len.trans (lenMsg _)) ?_
  refine lm_tup rfl (vcons (a984.vw (okWSess 4 (x0))) (vcons (Vw_sc _ _) (vcons (a1000.vw (okWMsg 5 (x2))) vnil))) (implF_SessPush (n + 16) (by omega) x0 x1 x2 k0 k1 k2 (by omega) (by omega)) rfl fun ys1019 X1017 N1016 n1018 a1020 => ?_
  have o1021 : i2 < N1016 := by have := (List.getElem?_eq_some_iff.1 B1).1; omega
  have o1022 : i4 < N1016 := by have := (List.getElem?_eq_some_iff.1 B3).1; omega
  have o1023 : i939 < N1016 := by have := (List.getElem?_eq_some_iff.1 B979).1; omega
  have o1024 : N959 + nbL (encSess (vSessPush x0 x1 x2)) ≤ N1016 := by have := a976.2.1; omega
  have o1025 : N980 + nbL (encSess (x0)) ≤ N1016 := by have := a984.2.1; omega
  have o1026 : i990 < N1016 := by have := (List.getElem?_eq_some_iff.1 B989).1; omega
  have o1027 : N996 + nbL (encMsg (x2)) ≤ N1016 := by have := a1000.2.1; omega
  have o1028 : i1008 < N1016 := by have := (List.getElem?_eq_some_iff.1 B1007).1; omega
  replace B1 := blk_grow B1 X1017
  replace B3 := blk_grow B3 X1017
  replace B979 := blk_grow B979 X1017
  replace a976 := a976.grow X1017
  replace a984 := a984.grow X1017
  replace B989 := blk_grow B989 X1017
  replace a1000 := a1000.grow X1017
  replace B1007 := blk_grow B1007 X1017
  obtain ⟨y1029, ys1030, rfl, a1031, a1032⟩ := a1020.cons
  obtain ⟨y1033, ys1034, rfl, a1035, a1036⟩ := a1032.cons
  obtain rfl := a1036.nil
  refine lm_ex rfl ?_
  obtain ⟨ys1037, rfl, a1038⟩ := a1031.agg tySess
  refine lm_ex rfl ?_
  obtain rfl := a1035.sc
  refine lm_put rfl (a1038.len.trans (lenSess _)) (a1038.leaf (flSess _)) fun i1040 i1040E B1039 => ?_
  have o1041 : i2 < i1040 := by have := (List.getElem?_eq_some_iff.1 B1).1; omega
  have o1042 : i4 < i1040 := by have := (List.getElem?_eq_some_iff.1 B3).1; omega
  have o1043 : i939 < i1040 := by have := (List.getElem?_eq_some_iff.1 B979).1; omega
  have o1044 : N959 + nbL (encSess (vSessPush x0 x1 x2)) ≤ i1040 := by have := a976.2.1; omega
  have o1045 : N980 + nbL (encSess (x0)) ≤ i1040 := by have := a984.2.1; omega
  have o1046 : i990 < i1040 := by have := (List.getElem?_eq_some_iff.1 B989).1; omega
  have o1047 : N996 + nbL (encMsg (x2)) ≤ i1040 := by have := a1000.2.1; omega
  have o1048 : i1008 < i1040 := by have := (List.getElem?_eq_some_iff.1 B1007).1; omega
  have o1049 : N1016 + nbL (encSess (vSessPush x0 x1 x2)) ≤ i1040 := by have := a1038.2.1; omega
  replace B1 := blk_grow B1 [⟨ys1037, true, true⟩]
  replace B3 := blk_grow B3 [⟨ys1037, true, true⟩]
  replace B979 := blk_grow B979 [⟨ys1037, true, true⟩]
  replace a976 := a976.grow [⟨ys1037, true, true⟩]
  replace a984 := a984.grow [⟨ys1037, true, true⟩]
  replace B989 := blk_grow B989 [⟨ys1037, true, true⟩]
  replace a1000 := a1000.grow [⟨ys1037, true, true⟩]
  replace B1007 := blk_grow B1007 [⟨ys1037, true, true⟩]
  replace a1038 := a1038.grow [⟨ys1037, true, true⟩]
  refine lw_ld B1039 (a1038.len.trans (lenSess _)) ?_
  refine lw_ld B979 (a976.len.trans (lenSess _)) ?_
  refine lm_eq rfl (vcons (a1038.vw (okWSess 4 (vSessPush x0 x1 x2))) (vcons (a976.vw (okWSess 4 (vSessPush x0 x1 x2))) vnil)) (eqF_Sess (n + 23) (by omega) _ (vSessPush x0 x1 x2) s10w) ?_
  refine lm_not ?_
  refine lm_gf ?_
  refine lm_gf ?_
  refine lm_gf ?_
  refine lm_neI ?_
  refine lm_pk ?_
  refine lm_cf ?_
  refine lw_ld B989 (a984.len.trans (lenSess _)) ?_
  refine lw_ld B1 (lenSess x0) ?_
  refine lm_agg rfl (vcons (Vw_agg _ (flSess x0)) vnil) (toF_Sess (n + 23) (by omega) x0 (by omega)) tySess fun y1053 X1051 N1050 n1052 a1054 => ?_
  have o1055 : i2 < N1050 := by have := (List.getElem?_eq_some_iff.1 B1).1; omega
  have o1056 : i4 < N1050 := by have := (List.getElem?_eq_some_iff.1 B3).1; omega
  have o1057 : i939 < N1050 := by have := (List.getElem?_eq_some_iff.1 B979).1; omega
  have o1058 : N959 + nbL (encSess (vSessPush x0 x1 x2)) ≤ N1050 := by have := a976.2.1; omega
  have o1059 : N980 + nbL (encSess (x0)) ≤ N1050 := by have := a984.2.1; omega
  have o1060 : i990 < N1050 := by have := (List.getElem?_eq_some_iff.1 B989).1; omega
  have o1061 : N996 + nbL (encMsg (x2)) ≤ N1050 := by have := a1000.2.1; omega
  have o1062 : i1008 < N1050 := by have := (List.getElem?_eq_some_iff.1 B1007).1; omega
  have o1063 : N1016 + nbL (encSess (vSessPush x0 x1 x2)) ≤ N1050 := by have := a1038.2.1; omega
  have o1064 : i1040 < N1050 := by have := (List.getElem?_eq_some_iff.1 B1039).1; omega
  replace B1 := blk_grow B1 X1051
  replace B3 := blk_grow B3 X1051
  replace B979 := blk_grow B979 X1051
  replace a976 := a976.grow X1051
  replace a984 := a984.grow X1051
  replace B989 := blk_grow B989 X1051
  replace a1000 := a1000.grow X1051
  replace B1007 := blk_grow B1007 X1051
  replace a1038 := a1038.grow X1051
  replace B1039 := blk_grow B1039 X1051
  refine lm_eq rfl (vcons (a984.vw (okWSess 4 (x0))) (vcons (a1054.vw (okWSess 4 (x0))) vnil)) (eqF_Sess (n + 23) (by omega) _ (x0) s5w) ?_
  refine lm_not ?_
  refine lm_cf ?_
  refine lw_ld B1007 (a1000.len.trans (lenMsg _)) ?_
  refine lw_ld B3 (lenMsg x2) ?_
  refine lm_agg rfl (vcons (Vw_agg _ (flMsg x2)) vnil) (toF_Msg (n + 27) (by omega) x2 (by omega)) tyMsg fun y1068 X1066 N1065 n1067 a1069 => ?_
  have o1070 : i2 < N1065 := by have := (List.getElem?_eq_some_iff.1 B1).1; omega
  have o1071 : i4 < N1065 := by have := (List.getElem?_eq_some_iff.1 B3).1; omega
  have o1072 : i939 < N1065 := by have := (List.getElem?_eq_some_iff.1 B979).1; omega
  have o1073 : N959 + nbL (encSess (vSessPush x0 x1 x2)) ≤ N1065 := by have := a976.2.1; omega
  have o1074 : N980 + nbL (encSess (x0)) ≤ N1065 := by have := a984.2.1; omega
  have o1075 : i990 < N1065 := by have := (List.getElem?_eq_some_iff.1 B989).1; omega
  have o1076 : N996 + nbL (encMsg (x2)) ≤ N1065 := by have := a1000.2.1; omega
  have o1077 : i1008 < N1065 := by have := (List.getElem?_eq_some_iff.1 B1007).1; omega
  have o1078 : N1016 + nbL (encSess (vSessPush x0 x1 x2)) ≤ N1065 := by have := a1038.2.1; omega
  have o1079 : i1040 < N1065 := by have := (List.getElem?_eq_some_iff.1 B1039).1; omega
  replace B1 := blk_grow B1 X1066
  replace B3 := blk_grow B3 X1066
  replace B979 := blk_grow B979 X1066
  replace a976 := a976.grow X1066
  replace a984 := a984.grow X1066
  replace B989 := blk_grow B989 X1066
  replace a1000 := a1000.grow X1066
  replace B1007 := blk_grow B1007 X1066
  replace a1038 := a1038.grow X1066
  replace B1039 := blk_grow B1039 X1066
  refine lm_eq rfl (vcons (a1000.vw (okWMsg 5 (x2))) (vcons (a1069.vw (okWMsg 5 (x2))) vnil)) (eqF_Msg (n + 27) (by omega) _ (x2) s7w) ?_
  refine lm_not ?_
  refine lm_cf ?_
  refine lw_ld B989 (a984.len.trans (lenSess _)) ?_
  refine lm_markv (mk_SessV (n + 24) (by omega)) rfl a984 (wfvSess _ s5) (by omega) (by omega) fun G1080 a1082 q1081 => ?_
  replace B1 := blk_kept B1 q1081 (by omega)
  replace B3 := blk_kept B3 q1081 (by omega)
  replace B979 := blk_kept B979 q1081 (by omega)
  replace a976 := a976.kept q1081 (by omega)
  replace a1000 := a1000.kept q1081 (by omega)
  replace B1007 := blk_kept B1007 q1081 (by omega)
  replace a1038 := a1038.kept q1081 (by omega)
  replace B1039 := blk_kept B1039 q1081 (by omega)
  refine lw_ld B1007 (a1000.len.trans (lenMsg _)) ?_
  refine lm_markv (mk_MsgV (n + 26) (by omega)) rfl a1000 (wfvMsg _ s7) (by omega) (by omega) fun G1083 a1085 q1084 => ?_
  replace B1 := blk_kept B1 q1084 (by omega)
  replace B3 := blk_kept B3 q1084 (by omega)
  replace B979 := blk_kept B979 q1084 (by omega)
  replace a976 := a976.kept q1084 (by omega)
  replace a1038 := a1038.kept q1084 (by omega)
  replace B1039 := blk_kept B1039 q1084 (by omega)
  refine lm_neg (by omega) ?_
  refine lm_gf ?_
  refine lw_ld B1039 (a1038.len.trans (lenSess _)) ?_
  refine lm_gf ?_
  refine lw_ld B979 (a976.len.trans (lenSess _)) ?_
  refine lm_gf ?_
  refine lm_eq rfl (vcons (a1038.vw (okWSess 4 (vSessPush x0 x1 x2))) (vcons (a976.vw (okWSess 4 (vSessPush x0 x1 x2))) vnil)) (eqF_Sess (n + 23) (by omega) _ (vSessPush x0 x1 x2) s10w) ?_
  refine lm_gf ?_
  refine lm_not ?_
  refine lm_pk ?_
  refine lm_gf ?_
  refine lm_gf ?_
  refine lm_gf ?_
  refine lm_neI ?_
  refine lm_pk ?_
  refine lm_cf ?_
  refine lw_ld B1039 (a1038.len.trans (lenSess _)) ?_
  refine lm_markv (mk_SessV (n + 24) (by omega)) rfl a1038 (wfvSess _ s10) (by omega) (by omega) fun G1086 a1088 q1087 => ?_
  replace B1 := blk_kept B1 q1087 (by omega)
  replace B3 := blk_kept B3 q1087 (by omega)
  replace B979 := blk_kept B979 q1087 (by omega)
  replace a976 := a976.kept q1087 (by omega)
  replace B1039 := blk_kept B1039 q1087 (by omega)
  refine lw_ld B1039 (a1038.len.trans (lenSess _)) ?_
  refine lm_heldv (hd_SessV (n + 24) (by omega)) (a1088.vw (okLW_mk7 _ _ (okWSess 4 (vSessPush x0 x1 x2)))) (wfvSess _ s10) (by omega) (by omega) ?_
  refine lm_neI ?_
  refine lm_cf ?_
  refine lw_ld B1 (lenSess x0) ?_
  refine lw_ld B3 (lenMsg x2) ?_
  refine pBoth_eq ?_ ?_
  ·refine lm_agg rfl (vcons (Vw_agg _ (flSess x0)) vnil) (toF_Sess (n + 23) (by omega) x0 (by omega)) tySess fun y1092 X1090 N1089 n1091 a1093 => ?_
   have o1094 : i939 < N1089 := by have := (List.getElem?_eq_some_iff.1 B979).1; omega
   have o1095 : N959 + nbL (encSess (vSessPush x0 x1 x2)) ≤ N1089 := by have := a976.2.1; omega
   have o1096 : N1016 + nbL (encSess (vSessPush x0 x1 x2)) ≤ N1089 := by have := a1088.2.1; rw [mkL_nb] at this; omega
   have o1097 : i1040 < N1089 := by have := (List.getElem?_eq_some_iff.1 B1039).1; omega
   replace B979 := blk_grow B979 X1090
   replace a976 := a976.grow X1090
   replace a1088 := a1088.grow X1090
   replace B1039 := blk_grow B1039 X1090
   refine pBoth_eq ?_ ?_
   ·refine lm_agg rfl (vcons (Vw_agg _ (flMsg x2)) vnil) (toF_Msg (n + 27) (by omega) x2 (by omega)) tyMsg fun y1101 X1099 N1098 n1100 a1102 => ?_
    have o1103 : i939 < N1098 := by have := (List.getElem?_eq_some_iff.1 B979).1; omega
    have o1104 : N959 + nbL (encSess (vSessPush x0 x1 x2)) ≤ N1098 := by have := a976.2.1; omega
    have o1105 : N1016 + nbL (encSess (vSessPush x0 x1 x2)) ≤ N1098 := by have := a1088.2.1; rw [mkL_nb] at this; omega
    have o1106 : i1040 < N1098 := by have := (List.getElem?_eq_some_iff.1 B1039).1; omega
    have o1107 : N1089 + nbL (encSess (x0)) ≤ N1098 := by have := a1093.2.1; omega
    replace B979 := blk_grow B979 X1099
    replace a976 := a976.grow X1099
    replace a1088 := a1088.grow X1099
    replace B1039 := blk_grow B1039 X1099
    replace a1093 := a1093.grow X1099
    refine pBoth_eq ?_ ?_
    ·refine lm_tup rfl (vcons (a1093.vw (okWSess 4 (x0))) (vcons (Vw_sc _ _) (vcons (a1102.vw (okWMsg 5 (x2))) vnil))) (implF_SessPush (n + 16) (by omega) x0 x1 x2 k0 k1 k2 (by omega) (by omega)) rfl fun ys1111 X1109 N1108 n1110 a1112 => ?_
     have o1113 : i939 < N1108 := by have := (List.getElem?_eq_some_iff.1 B979).1; omega
     have o1114 : N959 + nbL (encSess (vSessPush x0 x1 x2)) ≤ N1108 := by have := a976.2.1; omega
     have o1115 : N1016 + nbL (encSess (vSessPush x0 x1 x2)) ≤ N1108 := by have := a1088.2.1; rw [mkL_nb] at this; omega
     have o1116 : i1040 < N1108 := by have := (List.getElem?_eq_some_iff.1 B1039).1; omega
     replace B979 := blk_grow B979 X1109
     replace a976 := a976.grow X1109
     replace a1088 := a1088.grow X1109
     replace B1039 := blk_grow B1039 X1109
     obtain ⟨y1117, ys1118, rfl, a1119, a1120⟩ := a1112.cons
     obtain ⟨y1121, ys1122, rfl, a1123, a1124⟩ := a1120.cons
     obtain rfl := a1124.nil
     refine lm_ex rfl ?_
     obtain ⟨ys1125, rfl, a1126⟩ := a1119.agg tySess
     refine lm_ex rfl ?_
     obtain rfl := a1123.sc
     refine lm_put rfl (a1126.len.trans (lenSess _)) (a1126.leaf (flSess _)) fun i1128 i1128E B1127 => ?_
     have o1129 : i939 < i1128 := by have := (List.getElem?_eq_some_iff.1 B979).1; omega
     have o1130 : N959 + nbL (encSess (vSessPush x0 x1 x2)) ≤ i1128 := by have := a976.2.1; omega
     have o1131 : N1016 + nbL (encSess (vSessPush x0 x1 x2)) ≤ i1128 := by have := a1088.2.1; rw [mkL_nb] at this; omega
     have o1132 : i1040 < i1128 := by have := (List.getElem?_eq_some_iff.1 B1039).1; omega
     have o1133 : N1108 + nbL (encSess (vSessPush x0 x1 x2)) ≤ i1128 := by have := a1126.2.1; omega
     replace B979 := blk_grow B979 [⟨ys1125, true, true⟩]
     replace a976 := a976.grow [⟨ys1125, true, true⟩]
     replace a1088 := a1088.grow [⟨ys1125, true, true⟩]
     replace B1039 := blk_grow B1039 [⟨ys1125, true, true⟩]
     replace a1126 := a1126.grow [⟨ys1125, true, true⟩]
     refine lw_ld B1127 (a1126.len.trans (lenSess _)) ?_
     refine lw_ld B979 (a976.len.trans (lenSess _)) ?_
     refine lm_eq rfl (vcons (a1126.vw (okWSess 4 (vSessPush x0 x1 x2))) (vcons (a976.vw (okWSess 4 (vSessPush x0 x1 x2))) vnil)) (eqF_Sess (n + 23) (by omega) _ (vSessPush x0 x1 x2) s10w) ?_
     refine lm_not ?_
     refine lm_gf ?_
     refine lm_gf ?_
     refine lm_gf ?_
     refine lm_neI ?_
     refine lm_pk ?_
     refine lm_cf ?_
     refine lw_ld B1039 (a1038.len.trans (lenSess _)) ?_
     refine lm_heldv (hd_SessV (n + 24) (by omega)) (a1088.vw (okLW_mk7 _ _ (okWSess 4 (vSessPush x0 x1 x2)))) (wfvSess _ s10) (by omega) (by omega) ?_
     refine lm_neI ?_
     refine lm_cf ?_
     rfl
    ·refine w_new fun i1135 i1135E B1134 => ?_
     have o1136 : i939 < i1135 := by have := (List.getElem?_eq_some_iff.1 B979).1; omega
     have o1137 : N959 + nbL (encSess (vSessPush x0 x1 x2)) ≤ i1135 := by have := a976.2.1; omega
     have o1138 : N1016 + nbL (encSess (vSessPush x0 x1 x2)) ≤ i1135 := by have := a1088.2.1; rw [mkL_nb] at this; omega
     have o1139 : i1040 < i1135 := by have := (List.getElem?_eq_some_iff.1 B1039).1; omega
     have o1140 : N1089 + nbL (encSess (x0)) ≤ i1135 := by have := a1093.2.1; omega
     have o1141 : N1098 + nbL (encMsg (x2)) ≤ i1135 := by have := a1102.2.1; omega
     replace B979 := blk_grow B979 [⟨[(.sc (.string ⟨#[]⟩)), (.sc (.int .i64 0)), (.sc (.bool false)), (.sc (.int .i64 0)), (.sc (.int .i64 0)), (.sc (.int .i64 0)), .nl, .nl, .nl], true, true⟩]
     replace a976 := a976.grow [⟨[(.sc (.string ⟨#[]⟩)), (.sc (.int .i64 0)), (.sc (.bool false)), (.sc (.int .i64 0)), (.sc (.int .i64 0)), (.sc (.int .i64 0)), .nl, .nl, .nl], true, true⟩]
     replace a1088 := a1088.grow [⟨[(.sc (.string ⟨#[]⟩)), (.sc (.int .i64 0)), (.sc (.bool false)), (.sc (.int .i64 0)), (.sc (.int .i64 0)), (.sc (.int .i64 0)), .nl, .nl, .nl], true, true⟩]
     replace B1039 := blk_grow B1039 [⟨[(.sc (.string ⟨#[]⟩)), (.sc (.int .i64 0)), (.sc (.bool false)), (.sc (.int .i64 0)), (.sc (.int .i64 0)), (.sc (.int .i64 0)), .nl, .nl, .nl], true, true⟩]
     replace a1093 := a1093.grow [⟨[(.sc (.string ⟨#[]⟩)), (.sc (.int .i64 0)), (.sc (.bool false)), (.sc (.int .i64 0)), (.sc (.int .i64 0)), (.sc (.int .i64 0)), .nl, .nl, .nl], true, true⟩]
     replace a1102 := a1102.grow [⟨[(.sc (.string ⟨#[]⟩)), (.sc (.int .i64 0)), (.sc (.bool false)), (.sc (.int .i64 0)), (.sc (.int .i64 0)), (.sc (.int .i64 0)), .nl, .nl, .nl], true, true⟩]
     refine lm_tup rfl (vcons (a1093.vw (okWSess 4 (x0))) (vcons (Vw_sc _ _) (vcons (a1102.vw (okWMsg 5 (x2))) vnil))) (implF_SessPush (n + 16) (by omega) x0 x1 x2 k0 k1 k2 (by omega) (by omega)) rfl fun ys1145 X1143 N1142 n1144 a1146 => ?_
     have o1147 : i939 < N1142 := by have := (List.getElem?_eq_some_iff.1 B979).1; omega
     have o1148 : N959 + nbL (encSess (vSessPush x0 x1 x2)) ≤ N1142 := by have := a976.2.1; omega
     have o1149 : N1016 + nbL (encSess (vSessPush x0 x1 x2)) ≤ N1142 := by have := a1088.2.1; rw [mkL_nb] at this; omega
     have o1150 : i1040 < N1142 := by have := (List.getElem?_eq_some_iff.1 B1039).1; omega
     have o1151 : i1135 < N1142 := by have := (List.getElem?_eq_some_iff.1 B1134).1; omega
     replace B979 := blk_grow B979 X1143
     replace a976 := a976.grow X1143
     replace a1088 := a1088.grow X1143
     replace B1039 := blk_grow B1039 X1143
     replace B1134 := blk_grow B1134 X1143
     obtain ⟨y1152, ys1153, rfl, a1154, a1155⟩ := a1146.cons
     obtain ⟨y1156, ys1157, rfl, a1158, a1159⟩ := a1155.cons
     obtain rfl := a1159.nil
     refine lm_ex rfl ?_
     obtain ⟨ys1160, rfl, a1161⟩ := a1154.agg tySess
     refine lm_ex rfl ?_
     obtain rfl := a1158.sc
     refine lm_store B1134 rfl (a1161.len.trans (lenSess _)) (a1161.leaf (flSess _)) fun G1162 B1164 q1163 => ?_
     replace B979 := blk_kept B979 q1163 (by omega)
     replace a976 := a976.kept q1163 (by omega)
     replace a1088 := a1088.kept q1163 (by rw [mkL_nb]; omega)
     replace B1039 := blk_kept B1039 q1163 (by omega)
     replace a1161 := a1161.kept q1163 (by omega)
     refine lw_ld B1164 (a1161.len.trans (lenSess _)) ?_
     refine lw_ld B979 (a976.len.trans (lenSess _)) ?_
     refine lm_eq rfl (vcons (a1161.vw (okWSess 4 (vSessPush x0 x1 x2))) (vcons (a976.vw (okWSess 4 (vSessPush x0 x1 x2))) vnil)) (eqF_Sess (n + 23) (by omega) _ (vSessPush x0 x1 x2) s10w) ?_
     refine lm_not ?_
     refine lm_gf ?_
     refine lm_gf ?_
     refine lm_gf ?_
     refine lm_neI ?_
     refine lm_pk ?_
     refine lm_cf ?_
     refine lw_ld B1039 (a1038.len.trans (lenSess _)) ?_
     refine lm_heldv (hd_SessV (n + 24) (by omega)) (a1088.vw (okLW_mk7 _ _ (okWSess 4 (vSessPush x0 x1 x2)))) (wfvSess _ s10) (by omega) (by omega) ?_
     refine lm_neI ?_
     refine lm_cf ?_
     rfl
   ·refine w_new fun i1166 i1166E B1165 => ?_
    have o1167 : i939 < i1166 := by have := (List.getElem?_eq_some_iff.1 B979).1; omega
    have o1168 : N959 + nbL (encSess (vSessPush x0 x1 x2)) ≤ i1166 := by have := a976.2.1; omega
    have o1169 : N1016 + nbL (encSess (vSessPush x0 x1 x2)) ≤ i1166 := by have := a1088.2.1; rw [mkL_nb] at this; omega
    have o1170 : i1040 < i1166 := by have := (List.getElem?_eq_some_iff.1 B1039).1; omega
    have o1171 : N1089 + nbL (encSess (x0)) ≤ i1166 := by have := a1093.2.1; omega
    replace B979 := blk_grow B979 [⟨[(.sc (.string ⟨#[]⟩)), (.sc (.int .i64 0)), (.sc (.bool false)), (.sc (.int .i64 0)), (.sc (.int .i64 0)), (.sc (.int .i64 0)), .nl, .nl, .nl], true, true⟩]
    replace a976 := a976.grow [⟨[(.sc (.string ⟨#[]⟩)), (.sc (.int .i64 0)), (.sc (.bool false)), (.sc (.int .i64 0)), (.sc (.int .i64 0)), (.sc (.int .i64 0)), .nl, .nl, .nl], true, true⟩]
    replace a1088 := a1088.grow [⟨[(.sc (.string ⟨#[]⟩)), (.sc (.int .i64 0)), (.sc (.bool false)), (.sc (.int .i64 0)), (.sc (.int .i64 0)), (.sc (.int .i64 0)), .nl, .nl, .nl], true, true⟩]
    replace B1039 := blk_grow B1039 [⟨[(.sc (.string ⟨#[]⟩)), (.sc (.int .i64 0)), (.sc (.bool false)), (.sc (.int .i64 0)), (.sc (.int .i64 0)), (.sc (.int .i64 0)), .nl, .nl, .nl], true, true⟩]
    replace a1093 := a1093.grow [⟨[(.sc (.string ⟨#[]⟩)), (.sc (.int .i64 0)), (.sc (.bool false)), (.sc (.int .i64 0)), (.sc (.int .i64 0)), (.sc (.int .i64 0)), .nl, .nl, .nl], true, true⟩]
    refine lm_agg rfl (vcons (Vw_agg _ (flMsg x2)) vnil) (toF_Msg (n + 27) (by omega) x2 (by omega)) tyMsg fun y1175 X1173 N1172 n1174 a1176 => ?_
    have o1177 : i939 < N1172 := by have := (List.getElem?_eq_some_iff.1 B979).1; omega
    have o1178 : N959 + nbL (encSess (vSessPush x0 x1 x2)) ≤ N1172 := by have := a976.2.1; omega
    have o1179 : N1016 + nbL (encSess (vSessPush x0 x1 x2)) ≤ N1172 := by have := a1088.2.1; rw [mkL_nb] at this; omega
    have o1180 : i1040 < N1172 := by have := (List.getElem?_eq_some_iff.1 B1039).1; omega
    have o1181 : N1089 + nbL (encSess (x0)) ≤ N1172 := by have := a1093.2.1; omega
    have o1182 : i1166 < N1172 := by have := (List.getElem?_eq_some_iff.1 B1165).1; omega
    replace B979 := blk_grow B979 X1173
    replace a976 := a976.grow X1173
    replace a1088 := a1088.grow X1173
    replace B1039 := blk_grow B1039 X1173
    replace a1093 := a1093.grow X1173
    replace B1165 := blk_grow B1165 X1173
    refine lm_tup rfl (vcons (a1093.vw (okWSess 4 (x0))) (vcons (Vw_sc _ _) (vcons (a1176.vw (okWMsg 5 (x2))) vnil))) (implF_SessPush (n + 16) (by omega) x0 x1 x2 k0 k1 k2 (by omega) (by omega)) rfl fun ys1186 X1184 N1183 n1185 a1187 => ?_
    have o1188 : i939 < N1183 := by have := (List.getElem?_eq_some_iff.1 B979).1; omega
    have o1189 : N959 + nbL (encSess (vSessPush x0 x1 x2)) ≤ N1183 := by have := a976.2.1; omega
    have o1190 : N1016 + nbL (encSess (vSessPush x0 x1 x2)) ≤ N1183 := by have := a1088.2.1; rw [mkL_nb] at this; omega
    have o1191 : i1040 < N1183 := by have := (List.getElem?_eq_some_iff.1 B1039).1; omega
    have o1192 : i1166 < N1183 := by have := (List.getElem?_eq_some_iff.1 B1165).1; omega
    replace B979 := blk_grow B979 X1184
    replace a976 := a976.grow X1184
    replace a1088 := a1088.grow X1184
    replace B1039 := blk_grow B1039 X1184
    replace B1165 := blk_grow B1165 X1184
    obtain ⟨y1193, ys1194, rfl, a1195, a1196⟩ := a1187.cons
    obtain ⟨y1197, ys1198, rfl, a1199, a1200⟩ := a1196.cons
    obtain rfl := a1200.nil
    refine lm_ex rfl ?_
    obtain ⟨ys1201, rfl, a1202⟩ := a1195.agg tySess
    refine lm_ex rfl ?_
    obtain rfl := a1199.sc
    refine lm_store B1165 rfl (a1202.len.trans (lenSess _)) (a1202.leaf (flSess _)) fun G1203 B1205 q1204 => ?_
    replace B979 := blk_kept B979 q1204 (by omega)
    replace a976 := a976.kept q1204 (by omega)
    replace a1088 := a1088.kept q1204 (by rw [mkL_nb]; omega)
    replace B1039 := blk_kept B1039 q1204 (by omega)
    replace a1202 := a1202.kept q1204 (by omega)
    refine lw_ld B1205 (a1202.len.trans (lenSess _)) ?_
    refine lw_ld B979 (a976.len.trans (lenSess _)) ?_
    refine lm_eq rfl (vcons (a1202.vw (okWSess 4 (vSessPush x0 x1 x2))) (vcons (a976.vw (okWSess 4 (vSessPush x0 x1 x2))) vnil)) (eqF_Sess (n + 23) (by omega) _ (vSessPush x0 x1 x2) s10w) ?_
    refine lm_not ?_
    refine lm_gf ?_
    refine lm_gf ?_
    refine lm_gf ?_
    refine lm_neI ?_
    refine lm_pk ?_
    refine lm_cf ?_
    refine lw_ld B1039 (a1038.len.trans (lenSess _)) ?_
    refine lm_heldv (hd_SessV (n + 24) (by omega)) (a1088.vw (okLW_mk7 _ _ (okWSess 4 (vSessPush x0 x1 x2)))) (wfvSess _ s10) (by omega) (by omega) ?_
    refine lm_neI ?_
    refine lm_cf ?_
    rfl
  ·refine w_new fun i1207 i1207E B1206 => ?_
   have o1208 : i939 < i1207 := by have := (List.getElem?_eq_some_iff.1 B979).1; omega
   have o1209 : N959 + nbL (encSess (vSessPush x0 x1 x2)) ≤ i1207 := by have := a976.2.1; omega
   have o1210 : N1016 + nbL (encSess (vSessPush x0 x1 x2)) ≤ i1207 := by have := a1088.2.1; rw [mkL_nb] at this; omega
   have o1211 : i1040 < i1207 := by have := (List.getElem?_eq_some_iff.1 B1039).1; omega
   replace B979 := blk_grow B979 [⟨[(.sc (.string ⟨#[]⟩)), (.sc (.int .i64 0)), (.sc (.bool false)), (.sc (.int .i64 0)), (.sc (.int .i64 0)), (.sc (.int .i64 0)), .nl, .nl, .nl], true, true⟩]
   replace a976 := a976.grow [⟨[(.sc (.string ⟨#[]⟩)), (.sc (.int .i64 0)), (.sc (.bool false)), (.sc (.int .i64 0)), (.sc (.int .i64 0)), (.sc (.int .i64 0)), .nl, .nl, .nl], true, true⟩]
   replace a1088 := a1088.grow [⟨[(.sc (.string ⟨#[]⟩)), (.sc (.int .i64 0)), (.sc (.bool false)), (.sc (.int .i64 0)), (.sc (.int .i64 0)), (.sc (.int .i64 0)), .nl, .nl, .nl], true, true⟩]
   replace B1039 := blk_grow B1039 [⟨[(.sc (.string ⟨#[]⟩)), (.sc (.int .i64 0)), (.sc (.bool false)), (.sc (.int .i64 0)), (.sc (.int .i64 0)), (.sc (.int .i64 0)), .nl, .nl, .nl], true, true⟩]
   refine lm_agg rfl (vcons (Vw_agg _ (flSess x0)) vnil) (toF_Sess (n + 23) (by omega) x0 (by omega)) tySess fun y1215 X1213 N1212 n1214 a1216 => ?_
   have o1217 : i939 < N1212 := by have := (List.getElem?_eq_some_iff.1 B979).1; omega
   have o1218 : N959 + nbL (encSess (vSessPush x0 x1 x2)) ≤ N1212 := by have := a976.2.1; omega
   have o1219 : N1016 + nbL (encSess (vSessPush x0 x1 x2)) ≤ N1212 := by have := a1088.2.1; rw [mkL_nb] at this; omega
   have o1220 : i1040 < N1212 := by have := (List.getElem?_eq_some_iff.1 B1039).1; omega
   have o1221 : i1207 < N1212 := by have := (List.getElem?_eq_some_iff.1 B1206).1; omega
   replace B979 := blk_grow B979 X1213
   replace a976 := a976.grow X1213
   replace a1088 := a1088.grow X1213
   replace B1039 := blk_grow B1039 X1213
   replace B1206 := blk_grow B1206 X1213
   refine lm_agg rfl (vcons (Vw_agg _ (flMsg x2)) vnil) (toF_Msg (n + 27) (by omega) x2 (by omega)) tyMsg fun y1225 X1223 N1222 n1224 a1226 => ?_
   have o1227 : i939 < N1222 := by have := (List.getElem?_eq_some_iff.1 B979).1; omega
   have o1228 : N959 + nbL (encSess (vSessPush x0 x1 x2)) ≤ N1222 := by have := a976.2.1; omega
   have o1229 : N1016 + nbL (encSess (vSessPush x0 x1 x2)) ≤ N1222 := by have := a1088.2.1; rw [mkL_nb] at this; omega
   have o1230 : i1040 < N1222 := by have := (List.getElem?_eq_some_iff.1 B1039).1; omega
   have o1231 : i1207 < N1222 := by have := (List.getElem?_eq_some_iff.1 B1206).1; omega
   have o1232 : N1212 + nbL (encSess (x0)) ≤ N1222 := by have := a1216.2.1; omega
   replace B979 := blk_grow B979 X1223
   replace a976 := a976.grow X1223
   replace a1088 := a1088.grow X1223
   replace B1039 := blk_grow B1039 X1223
   replace B1206 := blk_grow B1206 X1223
   replace a1216 := a1216.grow X1223
   refine lm_tup rfl (vcons (a1216.vw (okWSess 4 (x0))) (vcons (Vw_sc _ _) (vcons (a1226.vw (okWMsg 5 (x2))) vnil))) (implF_SessPush (n + 16) (by omega) x0 x1 x2 k0 k1 k2 (by omega) (by omega)) rfl fun ys1236 X1234 N1233 n1235 a1237 => ?_
   have o1238 : i939 < N1233 := by have := (List.getElem?_eq_some_iff.1 B979).1; omega
   have o1239 : N959 + nbL (encSess (vSessPush x0 x1 x2)) ≤ N1233 := by have := a976.2.1; omega
   have o1240 : N1016 + nbL (encSess (vSessPush x0 x1 x2)) ≤ N1233 := by have := a1088.2.1; rw [mkL_nb] at this; omega
   have o1241 : i1040 < N1233 := by have := (List.getElem?_eq_some_iff.1 B1039).1; omega
   have o1242 : i1207 < N1233 := by have := (List.getElem?_eq_some_iff.1 B1206).1; omega
   replace B979 := blk_grow B979 X1234
   replace a976 := a976.grow X1234
   replace a1088 := a1088.grow X1234
   replace B1039 := blk_grow B1039 X1234
   replace B1206 := blk_grow B1206 X1234
   obtain ⟨y1243, ys1244, rfl, a1245, a1246⟩ := a1237.cons
   obtain ⟨y1247, ys1248, rfl, a1249, a1250⟩ := a1246.cons
   obtain rfl := a1250.nil
   refine lm_ex rfl ?_
   obtain ⟨ys1251, rfl, a1252⟩ := a1245.agg tySess
   refine lm_ex rfl ?_
   obtain rfl := a1249.sc
   refine lm_store B1206 rfl (a1252.len.trans (lenSess _)) (a1252.leaf (flSess _)) fun G1253 B1255 q1254 => ?_
   replace B979 := blk_kept B979 q1254 (by omega)
   replace a976 := a976.kept q1254 (by omega)
   replace a1088 := a1088.kept q1254 (by rw [mkL_nb]; omega)
   replace B1039 := blk_kept B1039 q1254 (by omega)
   replace a1252 := a1252.kept q1254 (by omega)
   refine lw_ld B1255 (a1252.len.trans (lenSess _)) ?_
   refine lw_ld B979 (a976.len.trans (lenSess _)) ?_
   refine lm_eq rfl (vcons (a1252.vw (okWSess 4 (vSessPush x0 x1 x2))) (vcons (a976.vw (okWSess 4 (vSessPush x0 x1 x2))) vnil)) (eqF_Sess (n + 23) (by omega) _ (vSessPush x0 x1 x2) s10w) ?_
   refine lm_not ?_
   refine lm_gf ?_
   refine lm_gf ?_
   refine lm_gf ?_
   refine lm_neI ?_
   refine lm_pk ?_
   refine lm_cf ?_
   refine lw_ld B1039 (a1038.len.trans (lenSess _)) ?_
   refine lm_heldv (hd_SessV (n + 24) (by omega)) (a1088.vw (okLW_mk7 _ _ (okWSess 4 (vSessPush x0 x1 x2)))) (wfvSess _ s10) (by omega) (by omega) ?_
   refine lm_neI ?_
   refine lm_cf ?_
   rfl
end Go.Proofs.YtdameggfgnpehaaGreatDoor.Abs
namespace Go.Proofs.YtdameggfgnpehaaGreatDoor.fnExactSessPush
open Go Go.Shelf Go.Lib Go.ChangeShapes Go.WideShapes Go.ChangeAt Go.RowKit
open Go.Proofs.YtdameggfgnpehaaGreatDoor.Abs
set_option linter.unusedVariables false
theorem own : ownKnob Tryz.prog.godebug = none := by kernel_rfl
theorem laidOut : laidOutB Tryz.prog = true := by kernel_rfl
theorem types : ([28, 3, 45].all (tyB ti0 14)) = true := by kernel_rfl
theorem readable : ([28, 3, 45].all fun t => Tryz.prog.readableRec t && decide (t < Tryz.prog.types.size)) = true := by kernel_rfl
theorem pure_ {xs : List AV} (h : okAs ti0 14 [28, 3, 45] xs) : ∃ n, tree E0 n 4 5 xs = some (.sc (.bool true)) := by
 obtain ⟨y0, ys0, rfl, ⟨cs0, h0, rfl⟩, h⟩ := h
 obtain ⟨y1, ys1, rfl, ⟨cs1, h1, rfl⟩, h⟩ := h
 obtain ⟨y2, ys2, rfl, ⟨cs2, h2, rfl⟩, h⟩ := h
 obtain rfl := h
 obtain ⟨x0, rfl, k0⟩ := okT_Sess h0
 obtain ⟨x1, rfl, k1⟩ := okT_int' h1
 obtain ⟨x2, rfl, k2⟩ := okT_Msg h2
 exact ⟨_, law_SessPush 1048577 (by omega) x0 x1 x2 k0 k1 k2⟩
def wArgs : Array Value := #[.agg #[.string ⟨#[]⟩, .int .i64 0, .bool false, .int .i64 0, .int .i64 0, .int .i64 0, .slice none 0 0, .slice none 0 0, .slice none 0 0], .int .i64 0, .agg #[.string ⟨#[]⟩, .slice none 0 0, .int .i64 0, .bool false]]
noncomputable def laidWorld (os : Os) : World :=
 let w0 := World.holding Tryz.prog os ⟨#[], #[], []⟩
 let put (h : Array Obj) (g : Nat) (cs : Array Value) : Array Obj := h.modify g fun
  | .cells _ t frozen => .cells cs t frozen
  | o => o
 let h1 := put w0.heap 0 (Lib.firstTab.map fun z => Value.int .u8 z).toArray
 let h2 := put h1 1 ((List.range 16).flatMap fun i => [Value.int .u8 (Lib.accLo i), Value.int .u8 (Lib.accHi i)]).toArray
 { w0 with heap := h2 }
theorem laid_met (os : Os) (args : Array Value) : laidMet Tryz.prog Rows.fnExactSessPushRow.laid ((laidWorld os).forCall (fun _ _ => 0) ⟨#[], args, []⟩).memory :=
 (LaidIn.of_run (l := Rows.fnExactSessPushRow.laid) [0, 1] 8 (by kernel_rfl) (by kernel_rfl) (by kernel_rfl) (by kernel_rfl)).met
set_option maxRecDepth 100000 in
theorem witness_row (os : Os) {H : Type} (enc : TypeId × Value → H) :
  (OpenSpec.ofChange Rows.fnExactSessPushSpec).preRow enc Tryz.prog Tryz.f5 Rows.fnExactSessPushRow.domain false Rows.fnExactSessPushRow.laid ((laidWorld os).forCall (fun _ _ => 0) ⟨#[], wArgs, []⟩).memory wArgs := by
 have hw : ((DataW.whole enc Tryz.prog ((laidWorld os).forCall (fun _ _ => 0) ⟨#[], wArgs, []⟩).memory Tryz.f5.params.toList (OpenSpec.ofChange Rows.fnExactSessPushSpec).vars false wArgs.toList 8).map (fun x => x.2.1)) = some [] := by kernel_rfl
 obtain ⟨⟨x1, x2, x3⟩, hx, hx1⟩ := Option.map_eq_some_iff.1 hw
 simp only at hx1
 subst hx1
 exact OpenSpec.preRow_of_cond 8 hx rfl (fun k hk => by cases hk) rfl (laid_met os _)
set_option maxRecDepth 100000 in
set_option maxHeartbeats 2000000 in
theorem lifted (os : Os) (started : os.Started) (H : Type) (enc : TypeId × Value → H) (F : Stop.Interp) :
  ReturnsInHanded {} Tryz.checked os 5 .any ((OpenSpec.ofChange Rows.fnExactSessPushSpec).preRow enc Tryz.prog Tryz.f5 Rows.fnExactSessPushRow.domain false Rows.fnExactSessPushRow.laid) (((OpenSpec.ofChange Rows.fnExactSessPushSpec).at F).post enc Tryz.prog Tryz.f5 false true false false) := by
 refine returnsInHanded_of_row (C := Tryz.checked) (s := OpenSpec.ofChange Rows.fnExactSessPushSpec) own started (by kernel_rfl) Tryz.func5
  (witness_row_atRef (enc := enc) (C := Tryz.checked) false (laidWorld os) wArgs rfl (by kernel_rfl) (by kernel_rfl) (by kernel_rfl) (witness_row os enc)) ?_
 intro W base args ds gs before hval0 hW _ _ _ hL hS _
 have hval : ∀ (j : Nat) t v, Tryz.f5.params[j]? = some t → args[j]? = some v → Value.okWide Tryz.prog W .any base t v := hval0
 have hW' := hW
 obtain ⟨p, q, hA0, hV, rfl, hfz, hnd⟩ := hW
 have hA : DataW.TrodAll enc Tryz.prog W 0 (fun _ => true) true Tryz.f5.params.toList args.toList ds p := hA0
 rw [Tryz.params5] at hA hval
 obtain ⟨xs, hok, hl, hx⟩ := args_sound tabOk0 (n := 14) [28, 3, 45] args.toList ds p hA (fun j t v ht hv => hval j t v (by simpa using ht) (by simpa using hv)) types
 obtain ⟨m, hm⟩ := pure_ hok
 have htab0 := utf8Tabs_of_readsT (U8Types.of196 Tryz.laysValid) ⟨by kernel_rfl, by kernel_rfl, by kernel_rfl, by kernel_rfl, by kernel_rfl, by kernel_rfl, by kernel_rfl⟩ (Pinned.utf8First_eq ▸ Lib.laidMet.reads hL (.tail _ (.head _))) (Lib.laidMet.reads hL (.head _))
 have htab : J0 W := ⟨htab0, cell_of_shapedOpen_int (zero := #[.int .i64 0]) hS (of_decide_eq_true (by kernel_rfl)) (by kernel_rfl) rfl (by kernel_rfl) (by kernel_rfl) Tryz.underlying3⟩
 have hc := tree_bool env0 hm (w := W) htab hl hx
 have hA1 := hA
 obtain ⟨v0, vs0, d0, ds0, p0, q0, hargs, rfl, rfl, g0, r0⟩ := trodAll_cons hA
 obtain ⟨v1, vs1, d1, ds1, p1, q1, rfl, rfl, rfl, g1, r1⟩ := trodAll_cons r0
 obtain ⟨v2, vs2, d2, ds2, p2, q2, rfl, rfl, rfl, g2, r2⟩ := trodAll_cons r1
 obtain ⟨rfl, rfl, rfl⟩ := trodAll_nil r2
 obtain ⟨rfl, rfl⟩ := trodVars_none hV
 have hc2 : Calls Tryz.prog 5 args W fun e W' => e = .returned (.bool true) ∧ Below W.heap.size W W' := by simpa using hc
 refine hc2.mono fun e W' ⟨he, bel⟩ => ?_
 subst he
 exact ⟨_, rfl, _, _, _, [], _, [], hW', trodAll_mk1 (shut_bool Tryz.underlying4 _), trodAll_stays laidOut bel readable hA1, rfl, bel.frame _, fun h => by cases h⟩
theorem over : Rows.FnExactSessPushSaid :=
 OpenClaim.holds_of_cond 5 Tryz.f5 rfl rfl rfl rfl rfl rfl rfl ⟨rfl, rfl, rfl, rfl, rfl⟩ rfl rfl rfl rfl rfl (by kernel_rfl) Tryz.func5 (by kernel_rfl)
  (of_decide_eq_true (by kernel_rfl)) (by unfold Func.isWrapper; first | (rw [if_pos (by decide +kernel)]; kernel_rfl) | (rw [if_neg (by decide +kernel)]; exact ⟨rfl, rfl⟩))
  (fun os started H enc _ F0 => by rw [OpenClaim.pre_eq_preRow]; exact lifted os started H enc F0)
theorem proved : Rows.FnExactSessPushCardSaid :=
 Claim7.holds_tied_plain_at .later [] [.data, .pinned] true (true, "d1b91b330fda59fc0eb76e17956115e5b3e2cbd158420e2d743d37a1d947cb70") false
  over (fun _ h => by cases h) (by kernel_rfl) (fun _ h => by cases h) fnExactSessPush_row_tie rfl ⟨rfl, rfl⟩ (by kernel_rfl) rfl
  (fun f fn hf hfn => by
   obtain rfl : f = 5 := Option.some.inj ((show Tryz.prog.funcNamed "loop.example/g00480/laws.FnExactSessPush" = some 5 by kernel_rfl).symm.trans hf) |>.symm
   obtain rfl : fn = Tryz.f5 := (Option.some.inj (Tryz.func5.symm.trans hfn)).symm
   exact ⟨by kernel_rfl, fun j t ht => by
    rw [Tryz.params5] at ht
    have hm : t ∈ [28, 3, 45] := by simpa using Array.mem_of_getElem? ht
    have hall : ([28, 3, 45].all fun u => !Tryz.prog.wantsStandIn u) = true := by kernel_rfl
    exact (show Tryz.prog.wantsStandIn t = false by simpa using List.all_eq_true.1 hall t hm)⟩)
  (by kernel_rfl)
#print axioms proved
end Go.Proofs.YtdameggfgnpehaaGreatDoor.fnExactSessPush
namespace Go.Proofs.YtdameggfgnpehaaGreatDoor
theorem fnExactSessPush_holds : Rows.FnExactSessPushCardSaid := fnExactSessPush.proved
end Go.Proofs.YtdameggfgnpehaaGreatDoor
