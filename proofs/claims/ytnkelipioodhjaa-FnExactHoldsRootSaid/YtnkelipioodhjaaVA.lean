/- What is said of HasRoom, HoldsRoot, Ahead (written by stmts.py). -/
import Derived.Test.YtnkelipioodhjaaTypes
import Derived.Test.YtnkelipioodhjaaWalk
set_option linter.unusedVariables false
set_option linter.unusedSimpArgs false
namespace Go.Proofs.Ytnkelipioodhjaa.Abs
open Go
def vIn (x lo hi : Int) : Bool := decide (lo ≤ x) && decide (x ≤ hi)
theorem l1InF (n : Nat) (ty : Nat) (x : Int) (lo : Int) (hi : Int) : tree E0 (n + 1) ty 61 [.sc (.int .i64 x), .sc (.int .i64 lo), .sc (.int .i64 hi)] = some (.sc (.bool (vIn x lo hi))) := by
  rw [tree_def, f61_eq, f61]
  simp only [PR_box, PR_new, PR_fadr, PR_load, PR_store, PR_bin, PR_binB, PR_un, PR_cond, PR_guard, PR_pick, PR_len, PR_lenS, PR_iadr, PR_idx, PR_slice, PR_sliceS, PR_newSl, PR_fill, PR_make, PR_app, PR_cvI, PR_cvBS]
  refine w_bin (v := .sc (.bool (decide (x ≥ lo)))) (fun k => rfl) ?_
  refine w_split ((decide (x ≥ lo))) (fun h1 => ?_) (fun h1 => ?_)
  · refine w_gT h1 ?_
    refine w_gT h1 ?_
    refine w_gT h1 ?_
    refine w_bin (v := .sc (.bool (decide (x ≤ hi)))) (fun k => rfl) ?_
    refine w_pT h1 ?_
    exact w_endB (by first | (simp_all [vIn]; done) | (rw [Bool.eq_iff_iff]; simp [vIn] at *; omega))
  · refine w_gF h1 ?_
    refine w_gF h1 ?_
    refine w_gF h1 ?_
    refine w_pF h1 ?_
    exact w_endB (by first | (simp_all [vIn]; done) | (rw [Bool.eq_iff_iff]; simp [vIn] at *; omega))
theorem withinF (n : Nat) (ty : Nat) (x : Int) (lo : Int) (hi : Int) : tree E0 (n + 1) ty 72 [.sc (.int .i64 x), .sc (.int .i64 lo), .sc (.int .i64 hi)] = some (.sc (.bool (vIn x lo hi))) := by
  rw [tree_def, f72_eq, f72]
  simp only [PR_box, PR_new, PR_fadr, PR_load, PR_store, PR_bin, PR_binB, PR_un, PR_cond, PR_guard, PR_pick, PR_len, PR_lenS, PR_iadr, PR_idx, PR_slice, PR_sliceS, PR_newSl, PR_fill, PR_make, PR_app, PR_cvI, PR_cvBS]
  refine w_bin (v := .sc (.bool (decide (x ≥ lo)))) (fun k => rfl) ?_
  refine w_split ((decide (x ≥ lo))) (fun h1 => ?_) (fun h1 => ?_)
  · refine w_gT h1 ?_
    refine w_gT h1 ?_
    refine w_gT h1 ?_
    refine w_bin (v := .sc (.bool (decide (x ≤ hi)))) (fun k => rfl) ?_
    refine w_pT h1 ?_
    exact w_endB (by first | (simp_all [vIn]; done) | (rw [Bool.eq_iff_iff]; simp [vIn] at *; omega))
  · refine w_gF h1 ?_
    refine w_gF h1 ?_
    refine w_gF h1 ?_
    refine w_pF h1 ?_
    exact w_endB (by first | (simp_all [vIn]; done) | (rw [Bool.eq_iff_iff]; simp [vIn] at *; omega))
def vHasRoom (c : ConnV) : Bool := c.fOpen && c.fUp && !c.fGone && decide ((c.fOut.size : Int) ≤ 900)
theorem specF_HasRoom (n : Nat) (hn : 1048576 < n) (c : ConnV) (k0 : okConn c) (b0 : wtConn c ≤ 1048576) : tree E0 (n + 2) 4 17 [.agg (encConn c)] = some (.sc (.bool (vHasRoom c))) := by
  rw [tree_def, f17_eq, f17]
  simp only [PR_box, PR_new, PR_fadr, PR_load, PR_store, PR_bin, PR_binB, PR_un, PR_cond, PR_guard, PR_pick, PR_len, PR_lenS, PR_iadr, PR_idx, PR_slice, PR_sliceS, PR_newSl, PR_fill, PR_make, PR_app, PR_cvI, PR_cvBS]
  refine w_box (flConn _) fun iB1 eB1 B1 => ?_
  refine w_fadr ?_
  refine w_ld (c := .sc (.bool c.fOpen)) B1 (Nat.le_of_ble_eq_true rfl) rfl ?_
  refine w_split (c.fOpen) (fun h2 => ?_) (fun h2 => ?_)
  · refine w_gT h2 ?_
    refine w_fadr ?_
    refine w_gT h2 ?_
    refine w_ld (c := .sc (.bool c.fUp)) B1 (Nat.le_of_ble_eq_true rfl) rfl ?_
    refine w_pT h2 ?_
    refine w_split (c.fUp) (fun h3 => ?_) (fun h3 => ?_)
    · refine w_gT h3 ?_
      refine w_fadr ?_
      refine w_gT h3 ?_
      refine w_ld (c := .sc (.bool c.fGone)) B1 (Nat.le_of_ble_eq_true rfl) rfl ?_
      refine w_gT h3 ?_
      refine w_not ?_
      refine w_pT h3 ?_
      refine w_split (c.fGone) (fun h4 => ?_) (fun h4 => ?_)
      · refine w_gF (nF h4) ?_
        refine w_gF (nF h4) ?_
        refine w_gF (nF h4) ?_
        refine w_gF (nF h4) ?_
        refine w_pF (nF h4) ?_
        exact w_endB (by first | (simp_all [vIn, vHasRoom]; done) | (rw [Bool.eq_iff_iff]; simp [vIn, vHasRoom] at *; omega))
      · refine w_gT (nT h4) ?_
        refine w_fadr ?_
        refine w_gT (nT h4) ?_
        refine w_ld (c := bytesC c.fOut) B1 (Nat.le_of_ble_eq_true rfl) rfl ?_
        refine w_gT (nT h4) ?_
        refine w_len ?_
        refine w_gT (nT h4) ?_
        refine w_bin (v := .sc (.bool (decide ((c.fOut.size : Int) ≤ 900)))) (fun k => rfl) ?_
        refine w_pT (nT h4) ?_
        exact w_endB (by first | (simp_all [vIn, vHasRoom]; done) | (rw [Bool.eq_iff_iff]; simp [vIn, vHasRoom] at *; omega))
    · refine w_gF h3 ?_
      refine w_gF h3 ?_
      refine w_gF h3 ?_
      refine w_pF h3 ?_
      refine w_gF rfl ?_
      refine w_gF rfl ?_
      refine w_gF rfl ?_
      refine w_gF rfl ?_
      refine w_pF rfl ?_
      exact w_endB (by first | (simp_all [vIn, vHasRoom]; done) | (rw [Bool.eq_iff_iff]; simp [vIn, vHasRoom] at *; omega))
  · refine w_gF h2 ?_
    refine w_gF h2 ?_
    refine w_pF h2 ?_
    refine w_gF rfl ?_
    refine w_gF rfl ?_
    refine w_gF rfl ?_
    refine w_pF rfl ?_
    refine w_gF rfl ?_
    refine w_gF rfl ?_
    refine w_gF rfl ?_
    refine w_gF rfl ?_
    refine w_pF rfl ?_
    exact w_endB (by first | (simp_all [vIn, vHasRoom]; done) | (rw [Bool.eq_iff_iff]; simp [vIn, vHasRoom] at *; omega))
theorem implF_HasRoom (n : Nat) (hn : 1048576 < n) (c : ConnV) (k0 : okConn c) (b0 : wtConn c ≤ 1048576) : tree E0 (n + 2) 4 19 [.agg (encConn c)] = some (.sc (.bool (vHasRoom c))) := by
  rw [tree_def, f19_eq, f19]
  simp only [PR_box, PR_new, PR_fadr, PR_load, PR_store, PR_bin, PR_binB, PR_un, PR_cond, PR_guard, PR_pick, PR_len, PR_lenS, PR_iadr, PR_idx, PR_slice, PR_sliceS, PR_newSl, PR_fill, PR_make, PR_app, PR_cvI, PR_cvBS]
  refine w_box (flConn _) fun iB1 eB1 B1 => ?_
  refine w_fadr ?_
  refine w_ld (c := .sc (.bool c.fOpen)) B1 (Nat.le_of_ble_eq_true rfl) rfl ?_
  refine w_split (c.fOpen) (fun h2 => ?_) (fun h2 => ?_)
  · refine w_gT h2 ?_
    refine w_fadr ?_
    refine w_gT h2 ?_
    refine w_ld (c := .sc (.bool c.fUp)) B1 (Nat.le_of_ble_eq_true rfl) rfl ?_
    refine w_pT h2 ?_
    refine w_split (c.fUp) (fun h3 => ?_) (fun h3 => ?_)
    · refine w_gT h3 ?_
      refine w_fadr ?_
      refine w_gT h3 ?_
      refine w_ld (c := .sc (.bool c.fGone)) B1 (Nat.le_of_ble_eq_true rfl) rfl ?_
      refine w_gT h3 ?_
      refine w_not ?_
      refine w_pT h3 ?_
      refine w_split (c.fGone) (fun h4 => ?_) (fun h4 => ?_)
      · refine w_gF (nF h4) ?_
        refine w_gF (nF h4) ?_
        refine w_gF (nF h4) ?_
        refine w_gF (nF h4) ?_
        refine w_pF (nF h4) ?_
        exact w_endB (by first | (simp_all [vIn, vHasRoom]; done) | (rw [Bool.eq_iff_iff]; simp [vIn, vHasRoom] at *; omega))
      · refine w_gT (nT h4) ?_
        refine w_fadr ?_
        refine w_gT (nT h4) ?_
        refine w_ld (c := bytesC c.fOut) B1 (Nat.le_of_ble_eq_true rfl) rfl ?_
        refine w_gT (nT h4) ?_
        refine w_len ?_
        refine w_gT (nT h4) ?_
        refine w_bin (v := .sc (.bool (decide ((c.fOut.size : Int) ≤ 900)))) (fun k => rfl) ?_
        refine w_pT (nT h4) ?_
        exact w_endB (by first | (simp_all [vIn, vHasRoom]; done) | (rw [Bool.eq_iff_iff]; simp [vIn, vHasRoom] at *; omega))
    · refine w_gF h3 ?_
      refine w_gF h3 ?_
      refine w_gF h3 ?_
      refine w_pF h3 ?_
      refine w_gF rfl ?_
      refine w_gF rfl ?_
      refine w_gF rfl ?_
      refine w_gF rfl ?_
      refine w_pF rfl ?_
      exact w_endB (by first | (simp_all [vIn, vHasRoom]; done) | (rw [Bool.eq_iff_iff]; simp [vIn, vHasRoom] at *; omega))
  · refine w_gF h2 ?_
    refine w_gF h2 ?_
    refine w_pF h2 ?_
    refine w_gF rfl ?_
    refine w_gF rfl ?_
    refine w_gF rfl ?_
    refine w_pF rfl ?_
    refine w_gF rfl ?_
    refine w_gF rfl ?_
    refine w_gF rfl ?_
    refine w_gF rfl ?_
    refine w_pF rfl ?_
    exact w_endB (by first | (simp_all [vIn, vHasRoom]; done) | (rw [Bool.eq_iff_iff]; simp [vIn, vHasRoom] at *; omega))
def vHoldsRoot (t : TaskV) : Bool := (decide (1 ≤ t.fOp) && decide (t.fOp ≤ 4) && t.fPc == 3) || (t.fOp == 6 && (t.fPc == 3 || t.fPc == 9))
theorem specF_HoldsRoot (n : Nat) (hn : 1048576 < n) (t : TaskV) (k0 : okTask t) (b0 : wtTask t ≤ 1048576) : tree E0 (n + 2) 4 22 [.agg (encTask t)] = some (.sc (.bool (vHoldsRoot t))) := by
  rw [tree_def, f22_eq, f22]
  simp only [PR_box, PR_new, PR_fadr, PR_load, PR_store, PR_bin, PR_binB, PR_un, PR_cond, PR_guard, PR_pick, PR_len, PR_lenS, PR_iadr, PR_idx, PR_slice, PR_sliceS, PR_newSl, PR_fill, PR_make, PR_app, PR_cvI, PR_cvBS]
  refine w_box (flTask _) fun iB1 eB1 B1 => ?_
  refine w_fadr ?_
  refine w_ld (c := .sc (.int .i64 t.fOp)) B1 (Nat.le_of_ble_eq_true rfl) rfl ?_
  refine lw_sc rfl (vcons (Vw_sc _ _) (vcons (Vw_sc _ _) (vcons (Vw_sc _ _) vnil))) (l1InF (n + 0) _ t.fOp 1 4) ?_
  refine w_split ((vIn t.fOp 1 4)) (fun h2 => ?_) (fun h2 => ?_)
  · refine w_gT h2 ?_
    refine w_fadr ?_
    refine w_gT h2 ?_
    refine w_ld (c := .sc (.int .i64 t.fPc)) B1 (Nat.le_of_ble_eq_true rfl) rfl ?_
    refine w_gT h2 ?_
    refine w_bin (v := .sc (.bool (t.fPc == 3))) (fun k => rfl) ?_
    refine w_pT h2 ?_
    refine w_split ((t.fPc == 3)) (fun h3 => ?_) (fun h3 => ?_)
    · refine w_hF h3 ?_
      refine w_hF h3 ?_
      refine w_hF h3 ?_
      refine w_hF h3 ?_
      refine w_u ?_
      refine w_u ?_
      refine w_u ?_
      refine w_u ?_
      refine w_u ?_
      refine w_u ?_
      refine w_u ?_
      refine w_u ?_
      refine w_hF h3 ?_
      refine w_pT h3 ?_
      exact w_endB (by first | (simp_all [vIn, vHasRoom, vHoldsRoot]; done) | (rw [Bool.eq_iff_iff]; simp [vIn, vHasRoom, vHoldsRoot] at *; omega))
    · refine w_hT h3 ?_
      refine w_fadr ?_
      refine w_hT h3 ?_
      refine w_ld (c := .sc (.int .i64 t.fOp)) B1 (Nat.le_of_ble_eq_true rfl) rfl ?_
      refine w_hT h3 ?_
      refine w_bin (v := .sc (.bool (t.fOp == 6))) (fun k => rfl) ?_
      refine w_hT h3 ?_
      refine w_split ((t.fOp == 6)) (fun h4 => ?_) (fun h4 => ?_)
      · refine w_gT h4 ?_
        refine w_fadr ?_
        refine w_gT h4 ?_
        refine w_ld (c := .sc (.int .i64 t.fPc)) B1 (Nat.le_of_ble_eq_true rfl) rfl ?_
        refine w_gT h4 ?_
        refine w_bin (v := .sc (.bool (t.fPc == 3))) (fun k => rfl) ?_
        refine w_gT h4 ?_
        refine w_hT h3 ?_
        refine w_fadr ?_
        refine w_hT h3 ?_
        refine w_ld (c := .sc (.int .i64 t.fPc)) B1 (Nat.le_of_ble_eq_true rfl) rfl ?_
        refine w_hT h3 ?_
        refine w_bin (v := .sc (.bool (t.fPc == 9))) (fun k => rfl) ?_
        refine w_gT h4 ?_
        refine w_pF h3 ?_
        refine w_hT h3 ?_
        refine w_pT h4 ?_
        refine w_pF h3 ?_
        exact w_endB (by first | (simp_all [vIn, vHasRoom, vHoldsRoot]; done) | (rw [Bool.eq_iff_iff]; simp [vIn, vHasRoom, vHoldsRoot] at *; omega))
      · refine w_gF h4 ?_
        refine w_gF h4 ?_
        refine w_gF h4 ?_
        refine w_gF h4 ?_
        refine w_u ?_
        refine w_u ?_
        refine w_u ?_
        refine w_gF h4 ?_
        refine w_hT h3 ?_
        refine w_pF h4 ?_
        refine w_pF h3 ?_
        exact w_endB (by first | (simp_all [vIn, vHasRoom, vHoldsRoot]; done) | (rw [Bool.eq_iff_iff]; simp [vIn, vHasRoom, vHoldsRoot] at *; omega))
  · refine w_gF h2 ?_
    refine w_gF h2 ?_
    refine w_gF h2 ?_
    refine w_pF h2 ?_
    refine w_hT rfl ?_
    refine w_fadr ?_
    refine w_hT rfl ?_
    refine w_ld (c := .sc (.int .i64 t.fOp)) B1 (Nat.le_of_ble_eq_true rfl) rfl ?_
    refine w_hT rfl ?_
    refine w_bin (v := .sc (.bool (t.fOp == 6))) (fun k => rfl) ?_
    refine w_hT rfl ?_
    refine w_split ((t.fOp == 6)) (fun h5 => ?_) (fun h5 => ?_)
    · refine w_gT h5 ?_
      refine w_fadr ?_
      refine w_gT h5 ?_
      refine w_ld (c := .sc (.int .i64 t.fPc)) B1 (Nat.le_of_ble_eq_true rfl) rfl ?_
      refine w_gT h5 ?_
      refine w_bin (v := .sc (.bool (t.fPc == 3))) (fun k => rfl) ?_
      refine w_gT h5 ?_
      refine w_split ((t.fPc == 3)) (fun h6 => ?_) (fun h6 => ?_)
      · refine w_hF h6 ?_
        refine w_hF h6 ?_
        refine w_hF h6 ?_
        refine w_gT h5 ?_
        refine w_pT h6 ?_
        refine w_hT rfl ?_
        refine w_pT h5 ?_
        refine w_pF rfl ?_
        exact w_endB (by first | (simp_all [vIn, vHasRoom, vHoldsRoot]; done) | (rw [Bool.eq_iff_iff]; simp [vIn, vHasRoom, vHoldsRoot] at *; omega))
      · refine w_hT h6 ?_
        refine w_fadr ?_
        refine w_hT h6 ?_
        refine w_ld (c := .sc (.int .i64 t.fPc)) B1 (Nat.le_of_ble_eq_true rfl) rfl ?_
        refine w_hT h6 ?_
        refine w_bin (v := .sc (.bool (t.fPc == 9))) (fun k => rfl) ?_
        refine w_gT h5 ?_
        refine w_pF h6 ?_
        refine w_hT rfl ?_
        refine w_pT h5 ?_
        refine w_pF rfl ?_
        exact w_endB (by first | (simp_all [vIn, vHasRoom, vHoldsRoot]; done) | (rw [Bool.eq_iff_iff]; simp [vIn, vHasRoom, vHoldsRoot] at *; omega))
    · refine w_gF h5 ?_
      refine w_gF h5 ?_
      refine w_gF h5 ?_
      refine w_gF h5 ?_
      refine w_u ?_
      refine w_u ?_
      refine w_u ?_
      refine w_gF h5 ?_
      refine w_hT rfl ?_
      refine w_pF h5 ?_
      refine w_pF rfl ?_
      exact w_endB (by first | (simp_all [vIn, vHasRoom, vHoldsRoot]; done) | (rw [Bool.eq_iff_iff]; simp [vIn, vHasRoom, vHoldsRoot] at *; omega))
theorem implF_HoldsRoot (n : Nat) (hn : 1048576 < n) (t : TaskV) (k0 : okTask t) (b0 : wtTask t ≤ 1048576) : tree E0 (n + 2) 4 24 [.agg (encTask t)] = some (.sc (.bool (vHoldsRoot t))) := by
  rw [tree_def, f24_eq, f24]
  simp only [PR_box, PR_new, PR_fadr, PR_load, PR_store, PR_bin, PR_binB, PR_un, PR_cond, PR_guard, PR_pick, PR_len, PR_lenS, PR_iadr, PR_idx, PR_slice, PR_sliceS, PR_newSl, PR_fill, PR_make, PR_app, PR_cvI, PR_cvBS]
  refine w_box (flTask _) fun iB1 eB1 B1 => ?_
  refine w_fadr ?_
  refine w_ld (c := .sc (.int .i64 t.fOp)) B1 (Nat.le_of_ble_eq_true rfl) rfl ?_
  refine w_bin (v := .sc (.bool (t.fOp == 1))) (fun k => rfl) ?_
  refine w_letJ ?_
  refine w_split ((t.fOp == 1)) (fun h2 => ?_) (fun h2 => ?_)
  · refine w_cT h2 ?_
    refine w_cT h2 ?_
    refine w_fadr ?_
    refine w_ld (c := .sc (.int .i64 t.fPc)) B1 (Nat.le_of_ble_eq_true rfl) rfl ?_
    refine w_bin (v := .sc (.bool (t.fPc == 3))) (fun k => rfl) ?_
    exact w_endB (by first | (simp_all [vIn, vHasRoom, vHoldsRoot]; done) | (rw [Bool.eq_iff_iff]; simp [vIn, vHasRoom, vHoldsRoot] at *; omega))
  · refine w_cF h2 ?_
    refine w_bin (v := .sc (.bool (t.fOp == 2))) (fun k => rfl) ?_
    refine w_split ((t.fOp == 2)) (fun h3 => ?_) (fun h3 => ?_)
    · refine w_cT h3 ?_
      refine w_cT h3 ?_
      refine w_fadr ?_
      refine w_ld (c := .sc (.int .i64 t.fPc)) B1 (Nat.le_of_ble_eq_true rfl) rfl ?_
      refine w_bin (v := .sc (.bool (t.fPc == 3))) (fun k => rfl) ?_
      exact w_endB (by first | (simp_all [vIn, vHasRoom, vHoldsRoot]; done) | (rw [Bool.eq_iff_iff]; simp [vIn, vHasRoom, vHoldsRoot] at *; omega))
    · refine w_cF h3 ?_
      refine w_bin (v := .sc (.bool (t.fOp == 3))) (fun k => rfl) ?_
      refine w_split ((t.fOp == 3)) (fun h4 => ?_) (fun h4 => ?_)
      · refine w_cT h4 ?_
        refine w_cT h4 ?_
        refine w_fadr ?_
        refine w_ld (c := .sc (.int .i64 t.fPc)) B1 (Nat.le_of_ble_eq_true rfl) rfl ?_
        refine w_bin (v := .sc (.bool (t.fPc == 3))) (fun k => rfl) ?_
        exact w_endB (by first | (simp_all [vIn, vHasRoom, vHoldsRoot]; done) | (rw [Bool.eq_iff_iff]; simp [vIn, vHasRoom, vHoldsRoot] at *; omega))
      · refine w_cF h4 ?_
        refine w_bin (v := .sc (.bool (t.fOp == 4))) (fun k => rfl) ?_
        refine w_split ((t.fOp == 4)) (fun h5 => ?_) (fun h5 => ?_)
        · refine w_cT h5 ?_
          refine w_fadr ?_
          refine w_ld (c := .sc (.int .i64 t.fPc)) B1 (Nat.le_of_ble_eq_true rfl) rfl ?_
          refine w_bin (v := .sc (.bool (t.fPc == 3))) (fun k => rfl) ?_
          exact w_endB (by first | (simp_all [vIn, vHasRoom, vHoldsRoot]; done) | (rw [Bool.eq_iff_iff]; simp [vIn, vHasRoom, vHoldsRoot] at *; omega))
        · refine w_cF h5 ?_
          refine w_fadr ?_
          refine w_ld (c := .sc (.int .i64 t.fOp)) B1 (Nat.le_of_ble_eq_true rfl) rfl ?_
          refine w_bin (v := .sc (.bool (t.fOp == 6))) (fun k => rfl) ?_
          refine w_split ((t.fOp == 6)) (fun h6 => ?_) (fun h6 => ?_)
          · refine w_gT h6 ?_
            refine w_fadr ?_
            refine w_gT h6 ?_
            refine w_ld (c := .sc (.int .i64 t.fPc)) B1 (Nat.le_of_ble_eq_true rfl) rfl ?_
            refine w_gT h6 ?_
            refine w_bin (v := .sc (.bool (t.fPc == 3))) (fun k => rfl) ?_
            refine w_gT h6 ?_
            refine w_split ((t.fPc == 3)) (fun h7 => ?_) (fun h7 => ?_)
            · refine w_hF h7 ?_
              refine w_hF h7 ?_
              refine w_hF h7 ?_
              refine w_gT h6 ?_
              refine w_pT h7 ?_
              refine w_pT h6 ?_
              exact w_endB (by first | (simp_all [vIn, vHasRoom, vHoldsRoot]; done) | (rw [Bool.eq_iff_iff]; simp [vIn, vHasRoom, vHoldsRoot] at *; omega))
            · refine w_hT h7 ?_
              refine w_fadr ?_
              refine w_hT h7 ?_
              refine w_ld (c := .sc (.int .i64 t.fPc)) B1 (Nat.le_of_ble_eq_true rfl) rfl ?_
              refine w_hT h7 ?_
              refine w_bin (v := .sc (.bool (t.fPc == 9))) (fun k => rfl) ?_
              refine w_gT h6 ?_
              refine w_pF h7 ?_
              refine w_pT h6 ?_
              exact w_endB (by first | (simp_all [vIn, vHasRoom, vHoldsRoot]; done) | (rw [Bool.eq_iff_iff]; simp [vIn, vHasRoom, vHoldsRoot] at *; omega))
          · refine w_gF h6 ?_
            refine w_gF h6 ?_
            refine w_gF h6 ?_
            refine w_gF h6 ?_
            refine w_u ?_
            refine w_u ?_
            refine w_u ?_
            refine w_gF h6 ?_
            refine w_pF h6 ?_
            exact w_endB (by first | (simp_all [vIn, vHasRoom, vHoldsRoot]; done) | (rw [Bool.eq_iff_iff]; simp [vIn, vHasRoom, vHoldsRoot] at *; omega))
def vAhead (a b : DeedV) : Bool := a.fRes != -1 && decide (a.fRes < b.fInv)
theorem specF_Ahead (n : Nat) (hn : 1048576 < n) (a : DeedV) (b : DeedV) (k0 : okDeed a) (k1 : okDeed b) (b0 : wtDeed a ≤ 1048576) (b1 : wtDeed b ≤ 1048576) : tree E0 (n + 2) 4 27 [.agg (encDeed a), .agg (encDeed b)] = some (.sc (.bool (vAhead a b))) := by
  rw [tree_def, f27_eq, f27]
  simp only [PR_box, PR_new, PR_fadr, PR_load, PR_store, PR_bin, PR_binB, PR_un, PR_cond, PR_guard, PR_pick, PR_len, PR_lenS, PR_iadr, PR_idx, PR_slice, PR_sliceS, PR_newSl, PR_fill, PR_make, PR_app, PR_cvI, PR_cvBS]
  refine w_box (flDeed _) fun iB1 eB1 B1 => ?_
  refine w_box (flDeed _) fun iB2 eB2 B2 => ?_
  replace B1 := blk_grow B1 [⟨encDeed b, true, true⟩]
  refine w_fadr ?_
  refine w_ld (c := .sc (.int .i64 a.fRes)) B1 (Nat.le_of_ble_eq_true rfl) rfl ?_
  refine w_bin (v := .sc (.bool (a.fRes != (-1)))) (fun k => rfl) ?_
  refine w_split ((a.fRes != (-1))) (fun h3 => ?_) (fun h3 => ?_)
  · refine w_gT h3 ?_
    refine w_fadr ?_
    refine w_gT h3 ?_
    refine w_ld (c := .sc (.int .i64 a.fRes)) B1 (Nat.le_of_ble_eq_true rfl) rfl ?_
    refine w_gT h3 ?_
    refine w_fadr ?_
    refine w_gT h3 ?_
    refine w_ld (c := .sc (.int .i64 b.fInv)) B2 (Nat.le_of_ble_eq_true rfl) rfl ?_
    refine w_gT h3 ?_
    refine w_bin (v := .sc (.bool (decide (a.fRes < b.fInv)))) (fun k => rfl) ?_
    refine w_pT h3 ?_
    exact w_endB (by first | (simp_all [vIn, vHasRoom, vHoldsRoot, vAhead]; done) | (rw [Bool.eq_iff_iff]; simp [vIn, vHasRoom, vHoldsRoot, vAhead] at *; omega))
  · refine w_gF h3 ?_
    refine w_gF h3 ?_
    refine w_gF h3 ?_
    refine w_gF h3 ?_
    refine w_gF h3 ?_
    refine w_pF h3 ?_
    exact w_endB (by first | (simp_all [vIn, vHasRoom, vHoldsRoot, vAhead]; done) | (rw [Bool.eq_iff_iff]; simp [vIn, vHasRoom, vHoldsRoot, vAhead] at *; omega))
theorem implF_Ahead (n : Nat) (hn : 1048576 < n) (a : DeedV) (b : DeedV) (k0 : okDeed a) (k1 : okDeed b) (b0 : wtDeed a ≤ 1048576) (b1 : wtDeed b ≤ 1048576) : tree E0 (n + 2) 4 29 [.agg (encDeed a), .agg (encDeed b)] = some (.sc (.bool (vAhead a b))) := by
  rw [tree_def, f29_eq, f29]
  simp only [PR_box, PR_new, PR_fadr, PR_load, PR_store, PR_bin, PR_binB, PR_un, PR_cond, PR_guard, PR_pick, PR_len, PR_lenS, PR_iadr, PR_idx, PR_slice, PR_sliceS, PR_newSl, PR_fill, PR_make, PR_app, PR_cvI, PR_cvBS]
  refine w_box (flDeed _) fun iB1 eB1 B1 => ?_
  refine w_box (flDeed _) fun iB2 eB2 B2 => ?_
  replace B1 := blk_grow B1 [⟨encDeed b, true, true⟩]
  refine w_fadr ?_
  refine w_ld (c := .sc (.int .i64 a.fRes)) B1 (Nat.le_of_ble_eq_true rfl) rfl ?_
  refine w_bin (v := .sc (.bool (a.fRes != (-1)))) (fun k => rfl) ?_
  refine w_split ((a.fRes != (-1))) (fun h3 => ?_) (fun h3 => ?_)
  · refine w_gT h3 ?_
    refine w_fadr ?_
    refine w_gT h3 ?_
    refine w_ld (c := .sc (.int .i64 b.fInv)) B2 (Nat.le_of_ble_eq_true rfl) rfl ?_
    refine w_gT h3 ?_
    refine w_fadr ?_
    refine w_gT h3 ?_
    refine w_ld (c := .sc (.int .i64 a.fRes)) B1 (Nat.le_of_ble_eq_true rfl) rfl ?_
    refine w_gT h3 ?_
    refine w_bin (v := .sc (.bool (decide (b.fInv > a.fRes)))) (fun k => rfl) ?_
    refine w_pT h3 ?_
    exact w_endB (by first | (simp_all [vIn, vHasRoom, vHoldsRoot, vAhead]; done) | (rw [Bool.eq_iff_iff]; simp [vIn, vHasRoom, vHoldsRoot, vAhead] at *; omega))
  · refine w_gF h3 ?_
    refine w_gF h3 ?_
    refine w_gF h3 ?_
    refine w_gF h3 ?_
    refine w_gF h3 ?_
    refine w_pF h3 ?_
    exact w_endB (by first | (simp_all [vIn, vHasRoom, vHoldsRoot, vAhead]; done) | (rw [Bool.eq_iff_iff]; simp [vIn, vHasRoom, vHoldsRoot, vAhead] at *; omega))

end Go.Proofs.Ytnkelipioodhjaa.Abs
