/- What is said of DeedOk (written by stmts.py). -/
import Derived.Test.YtnkelipioodhjaaDoorTypes
import Derived.Test.YtnkelipioodhjaaDoorWalk
import Derived.Test.YtnkelipioodhjaaDoorVText
set_option linter.unusedVariables false
set_option linter.unusedSimpArgs false
set_option maxRecDepth 100000
namespace Go.Proofs.YtnkelipioodhjaaDoor.Abs
open Go
def vDeedOk (d : DeedV) : Bool := (vIn d.fOp 1 6 || d.fOp == 8) && vIn d.fConn 0 3 && decide (1 ≤ d.fGen) && decide (0 ≤ d.fBorn) && vTextOk d.fClient && decide (0 ≤ d.fInv) && (d.fLin == -1 || (decide (d.fInv ≤ d.fLin) && !d.fVoid)) && (d.fRes == -1 || (decide (d.fInv ≤ d.fRes) && decide (d.fLin ≤ d.fRes))) && (d.fRes == -1 || !(d.fLin == -1) || d.fVoid)
theorem specF_DeedOk (n : Nat) (hn : 1048576 < n) (d : DeedV) (k0 : okDeed d) (b0 : wtDeed d ≤ 1048576) : tree E0 (n + 6) 4 18 [.agg (encDeed d)] = some (.sc (.bool (vDeedOk d))) := by
  rw [tree_def, f18_eq, f18]
  simp only [PR_box, PR_new, PR_fadr, PR_load, PR_store, PR_bin, PR_binB, PR_binA, PR_un, PR_cond, PR_guard, PR_pick, PR_len, PR_lenS, PR_iadr, PR_idx, PR_slice, PR_sliceS, PR_newSl, PR_fill, PR_make, PR_app, PR_cvI, PR_cvBS]
  have hcl : okS d.fClient := by obtain ⟨_, _, _, h, _⟩ := k0; exact h
  refine w_box (flDeed _) fun iB1 eB1 B1 => ?_
  refine w_fadr ?_
  refine w_ld (c := .sc (.int .i64 d.fOp)) B1 (Nat.le_of_ble_eq_true rfl) rfl ?_
  refine lw_sc rfl (vcons (Vw_sc _ _) (vcons (Vw_sc _ _) (vcons (Vw_sc _ _) vnil))) (l1InF (n + 4) _ d.fOp 1 6) ?_
  refine w_not ?_
  apply w_merge ((!(vIn d.fOp 1 6)) && (d.fOp != 8))
  · intro b2 q2
    refine w_split ((vIn d.fOp 1 6)) (fun h2 => ?_) (fun h2 => ?_)
    · refine w_gF (nF h2) ?_
      refine w_gF (nF h2) ?_
      refine w_gF (nF h2) ?_
      refine w_pFb (nF h2) (mAF q2 (nF h2)) ?_
      exact rfl
    · refine w_gT (nT h2) ?_
      refine w_fadr ?_
      refine w_gT (nT h2) ?_
      refine w_ld (c := .sc (.int .i64 d.fOp)) B1 (Nat.le_of_ble_eq_true rfl) rfl ?_
      refine w_gT (nT h2) ?_
      refine w_bin (v := .sc (.bool (d.fOp != 8))) (fun k => rfl) ?_
      refine w_pTb (nT h2) (mAT q2 (nT h2)) ?_
      exact rfl
  intro b2 q2
  apply w_merge (b2 || (!(vIn d.fConn 0 3)))
  · intro b3 q3
    refine w_split (b2) (fun h3 => ?_) (fun h3 => ?_)
    · refine w_hF h3 ?_
      refine w_hF h3 ?_
      refine w_hF h3 ?_
      refine w_hF h3 ?_
      refine w_pTb h3 (mOT q3 h3) ?_
      exact rfl
    · refine w_hT h3 ?_
      refine w_fadr ?_
      refine w_hT h3 ?_
      refine w_ld (c := .sc (.int .i64 d.fConn)) B1 (Nat.le_of_ble_eq_true rfl) rfl ?_
      refine w_hT h3 ?_
      refine lw_sc rfl (vcons (Vw_sc _ _) (vcons (Vw_sc _ _) (vcons (Vw_sc _ _) vnil))) (l1InF (n + 4) _ d.fConn 0 3) ?_
      refine w_hT h3 ?_
      refine w_not ?_
      refine w_pFb h3 (mOF q3 h3) ?_
      exact rfl
  intro b3 q3
  apply w_merge (b3 || (decide (d.fGen < 1)))
  · intro b4 q4
    refine w_split (b3) (fun h4 => ?_) (fun h4 => ?_)
    · refine w_hF h4 ?_
      refine w_hF h4 ?_
      refine w_hF h4 ?_
      refine w_pTb h4 (mOT q4 h4) ?_
      exact rfl
    · refine w_hT h4 ?_
      refine w_fadr ?_
      refine w_hT h4 ?_
      refine w_ld (c := .sc (.int .i64 d.fGen)) B1 (Nat.le_of_ble_eq_true rfl) rfl ?_
      refine w_hT h4 ?_
      refine w_bin (v := .sc (.bool (decide (d.fGen < 1)))) (fun k => rfl) ?_
      refine w_pFb h4 (mOF q4 h4) ?_
      exact rfl
  intro b4 q4
  apply w_merge (b4 || (decide (d.fBorn < 0)))
  · intro b5 q5
    refine w_split (b4) (fun h5 => ?_) (fun h5 => ?_)
    · refine w_hF h5 ?_
      refine w_hF h5 ?_
      refine w_hF h5 ?_
      refine w_pTb h5 (mOT q5 h5) ?_
      exact rfl
    · refine w_hT h5 ?_
      refine w_fadr ?_
      refine w_hT h5 ?_
      refine w_ld (c := .sc (.int .i64 d.fBorn)) B1 (Nat.le_of_ble_eq_true rfl) rfl ?_
      refine w_hT h5 ?_
      refine w_bin (v := .sc (.bool (decide (d.fBorn < 0)))) (fun k => rfl) ?_
      refine w_pFb h5 (mOF q5 h5) ?_
      exact rfl
  intro b5 q5
  apply w_merge (b5 || (!(vTextOk d.fClient)))
  · intro b6 q6
    refine w_split (b5) (fun h6 => ?_) (fun h6 => ?_)
    · refine w_hF h6 ?_
      refine w_hF h6 ?_
      refine w_hF h6 ?_
      refine w_hF h6 ?_
      refine w_pTb h6 (mOT q6 h6) ?_
      exact rfl
    · refine w_hT h6 ?_
      refine w_fadr ?_
      refine w_hT h6 ?_
      refine w_ld (c := .sc (.string d.fClient)) B1 (Nat.le_of_ble_eq_true rfl) rfl ?_
      refine w_hT h6 ?_
      refine lw_sc rfl (vcons (Vw_sc _ _) vnil) (specTextF (n + 1) (by omega) _ d.fClient) ?_
      refine w_hT h6 ?_
      refine w_not ?_
      refine w_pFb h6 (mOF q6 h6) ?_
      exact rfl
  intro b6 q6
  apply w_merge (b6 || (decide (d.fInv < 0)))
  · intro b7 q7
    refine w_split (b6) (fun h7 => ?_) (fun h7 => ?_)
    · refine w_hF h7 ?_
      refine w_hF h7 ?_
      refine w_hF h7 ?_
      refine w_pTb h7 (mOT q7 h7) ?_
      exact rfl
    · refine w_hT h7 ?_
      refine w_fadr ?_
      refine w_hT h7 ?_
      refine w_ld (c := .sc (.int .i64 d.fInv)) B1 (Nat.le_of_ble_eq_true rfl) rfl ?_
      refine w_hT h7 ?_
      refine w_bin (v := .sc (.bool (decide (d.fInv < 0)))) (fun k => rfl) ?_
      refine w_pFb h7 (mOF q7 h7) ?_
      exact rfl
  intro b7 q7
  refine w_split (b7) (fun h8 => ?_) (fun h8 => ?_)
  · refine w_cT h8 ?_
    exact w_endB (by subst_vars; simp only [vDeedOk, vIn] at *; cases hv : d.fVoid <;> cases ht : vTextOk d.fClient <;> simp only [hv, ht] at * <;> rw [Bool.eq_iff_iff] <;> simp at * <;> omega)
  · refine w_cF h8 ?_
    refine w_fadr ?_
    refine w_ld (c := .sc (.int .i64 d.fLin)) B1 (Nat.le_of_ble_eq_true rfl) rfl ?_
    refine w_bin (v := .sc (.bool (d.fLin != (-1)))) (fun k => rfl) ?_
    apply w_merge ((d.fLin != (-1)) && ((decide (d.fLin < d.fInv)) || d.fVoid))
    · intro b9 q9
      refine w_split ((d.fLin != (-1))) (fun h9 => ?_) (fun h9 => ?_)
      · refine w_gT h9 ?_
        refine w_fadr ?_
        refine w_gT h9 ?_
        refine w_ld (c := .sc (.int .i64 d.fLin)) B1 (Nat.le_of_ble_eq_true rfl) rfl ?_
        refine w_gT h9 ?_
        refine w_fadr ?_
        refine w_gT h9 ?_
        refine w_ld (c := .sc (.int .i64 d.fInv)) B1 (Nat.le_of_ble_eq_true rfl) rfl ?_
        refine w_gT h9 ?_
        refine w_bin (v := .sc (.bool (decide (d.fLin < d.fInv)))) (fun k => rfl) ?_
        refine w_gT h9 ?_
        apply w_merge ((decide (d.fLin < d.fInv)) || d.fVoid)
        · intro b10 q10
          refine w_split ((decide (d.fLin < d.fInv))) (fun h10 => ?_) (fun h10 => ?_)
          · refine w_hF h10 ?_
            refine w_hF h10 ?_
            refine w_gT h9 ?_
            refine w_pTb h10 (mOT q10 h10) ?_
            exact rfl
          · refine w_hT h10 ?_
            refine w_fadr ?_
            refine w_hT h10 ?_
            refine w_ld (c := .sc (.bool d.fVoid)) B1 (Nat.le_of_ble_eq_true rfl) rfl ?_
            refine w_gT h9 ?_
            refine w_pFb h10 (mOF q10 h10) ?_
            exact rfl
        intro b10 q10
        refine w_pTb h9 (by subst q10; exact mAT q9 h9) ?_
        exact rfl
      · refine w_gF h9 ?_
        refine w_gF h9 ?_
        refine w_gF h9 ?_
        refine w_gF h9 ?_
        refine w_gF h9 ?_
        refine w_gF h9 ?_
        refine w_u ?_
        refine w_u ?_
        refine w_gF h9 ?_
        refine w_pFb h9 (mAF q9 h9) ?_
        exact rfl
    intro b9 q9
    apply w_merge (b9 || ((d.fRes != (-1)) && ((decide (d.fRes < d.fInv)) || (decide (d.fRes < d.fLin)))))
    · intro b11 q11
      refine w_split (b9) (fun h11 => ?_) (fun h11 => ?_)
      · refine w_hF h11 ?_
        refine w_hF h11 ?_
        refine w_hF h11 ?_
        refine w_hF h11 ?_
        refine w_u ?_
        refine w_u ?_
        refine w_u ?_
        refine w_u ?_
        refine w_u ?_
        refine w_u ?_
        refine w_u ?_
        refine w_u ?_
        refine w_u ?_
        refine w_u ?_
        refine w_u ?_
        refine w_u ?_
        refine w_hF h11 ?_
        refine w_pTb h11 (mOT q11 h11) ?_
        exact rfl
      · refine w_hT h11 ?_
        refine w_fadr ?_
        refine w_hT h11 ?_
        refine w_ld (c := .sc (.int .i64 d.fRes)) B1 (Nat.le_of_ble_eq_true rfl) rfl ?_
        refine w_hT h11 ?_
        refine w_bin (v := .sc (.bool (d.fRes != (-1)))) (fun k => rfl) ?_
        refine w_hT h11 ?_
        apply w_merge ((d.fRes != (-1)) && ((decide (d.fRes < d.fInv)) || (decide (d.fRes < d.fLin))))
        · intro b12 q12
          refine w_split ((d.fRes != (-1))) (fun h12 => ?_) (fun h12 => ?_)
          · refine w_gT h12 ?_
            refine w_fadr ?_
            refine w_gT h12 ?_
            refine w_ld (c := .sc (.int .i64 d.fRes)) B1 (Nat.le_of_ble_eq_true rfl) rfl ?_
            refine w_gT h12 ?_
            refine w_fadr ?_
            refine w_gT h12 ?_
            refine w_ld (c := .sc (.int .i64 d.fInv)) B1 (Nat.le_of_ble_eq_true rfl) rfl ?_
            refine w_gT h12 ?_
            refine w_bin (v := .sc (.bool (decide (d.fRes < d.fInv)))) (fun k => rfl) ?_
            refine w_gT h12 ?_
            apply w_merge ((decide (d.fRes < d.fInv)) || (decide (d.fRes < d.fLin)))
            · intro b13 q13
              refine w_split ((decide (d.fRes < d.fInv))) (fun h13 => ?_) (fun h13 => ?_)
              · refine w_hF h13 ?_
                refine w_hF h13 ?_
                refine w_hF h13 ?_
                refine w_hF h13 ?_
                refine w_hF h13 ?_
                refine w_gT h12 ?_
                refine w_pTb h13 (mOT q13 h13) ?_
                exact rfl
              · refine w_hT h13 ?_
                refine w_fadr ?_
                refine w_hT h13 ?_
                refine w_ld (c := .sc (.int .i64 d.fRes)) B1 (Nat.le_of_ble_eq_true rfl) rfl ?_
                refine w_hT h13 ?_
                refine w_fadr ?_
                refine w_hT h13 ?_
                refine w_ld (c := .sc (.int .i64 d.fLin)) B1 (Nat.le_of_ble_eq_true rfl) rfl ?_
                refine w_hT h13 ?_
                refine w_bin (v := .sc (.bool (decide (d.fRes < d.fLin)))) (fun k => rfl) ?_
                refine w_gT h12 ?_
                refine w_pFb h13 (mOF q13 h13) ?_
                exact rfl
            intro b13 q13
            refine w_hT h11 ?_
            refine w_pTb h12 (by subst q13; exact mAT q12 h12) ?_
            exact rfl
          · refine w_gF h12 ?_
            refine w_gF h12 ?_
            refine w_gF h12 ?_
            refine w_gF h12 ?_
            refine w_gF h12 ?_
            refine w_gF h12 ?_
            refine w_u ?_
            refine w_u ?_
            refine w_u ?_
            refine w_u ?_
            refine w_u ?_
            refine w_gF h12 ?_
            refine w_hT h11 ?_
            refine w_pFb h12 (mAF q12 h12) ?_
            exact rfl
        intro b12 q12
        refine w_pFb h11 (by subst q12; exact mOF q11 h11) ?_
        exact rfl
    intro b11 q11
    refine w_split (b11) (fun h14 => ?_) (fun h14 => ?_)
    · refine w_cT h14 ?_
      exact w_endB (by subst_vars; simp only [vDeedOk, vIn] at *; cases hv : d.fVoid <;> cases ht : vTextOk d.fClient <;> simp only [hv, ht] at * <;> rw [Bool.eq_iff_iff] <;> simp at * <;> omega)
    · refine w_cF h14 ?_
      refine w_fadr ?_
      refine w_ld (c := .sc (.int .i64 d.fRes)) B1 (Nat.le_of_ble_eq_true rfl) rfl ?_
      refine w_bin (v := .sc (.bool (d.fRes == (-1)))) (fun k => rfl) ?_
      apply w_merge ((d.fRes == (-1)) || (d.fLin != (-1)))
      · intro b15 q15
        refine w_split ((d.fRes == (-1))) (fun h15 => ?_) (fun h15 => ?_)
        · refine w_hF h15 ?_
          refine w_hF h15 ?_
          refine w_hF h15 ?_
          refine w_pTb h15 (mOT q15 h15) ?_
          exact rfl
        · refine w_hT h15 ?_
          refine w_fadr ?_
          refine w_hT h15 ?_
          refine w_ld (c := .sc (.int .i64 d.fLin)) B1 (Nat.le_of_ble_eq_true rfl) rfl ?_
          refine w_hT h15 ?_
          refine w_bin (v := .sc (.bool (d.fLin != (-1)))) (fun k => rfl) ?_
          refine w_pFb h15 (mOF q15 h15) ?_
          exact rfl
      intro b15 q15
      apply w_merge (b15 || d.fVoid)
      · intro b16 q16
        refine w_split (b15) (fun h16 => ?_) (fun h16 => ?_)
        · refine w_hF h16 ?_
          refine w_hF h16 ?_
          refine w_pTb h16 (mOT q16 h16) ?_
          exact rfl
        · refine w_hT h16 ?_
          refine w_fadr ?_
          refine w_hT h16 ?_
          refine w_ld (c := .sc (.bool d.fVoid)) B1 (Nat.le_of_ble_eq_true rfl) rfl ?_
          refine w_pFb h16 (mOF q16 h16) ?_
          exact rfl
      intro b16 q16
      exact w_endB (by subst_vars; simp only [vDeedOk, vIn] at *; cases hv : d.fVoid <;> cases ht : vTextOk d.fClient <;> simp only [hv, ht] at * <;> rw [Bool.eq_iff_iff] <;> simp at * <;> omega)
theorem implF_DeedOk (n : Nat) (hn : 1048576 < n) (d : DeedV) (k0 : okDeed d) (b0 : wtDeed d ≤ 1048576) : tree E0 (n + 6) 4 20 [.agg (encDeed d)] = some (.sc (.bool (vDeedOk d))) := by
  rw [tree_def, f20_eq, f20]
  simp only [PR_box, PR_new, PR_fadr, PR_load, PR_store, PR_bin, PR_binB, PR_binA, PR_un, PR_cond, PR_guard, PR_pick, PR_len, PR_lenS, PR_iadr, PR_idx, PR_slice, PR_sliceS, PR_newSl, PR_fill, PR_make, PR_app, PR_cvI, PR_cvBS]
  have hcl : okS d.fClient := by obtain ⟨_, _, _, h, _⟩ := k0; exact h
  refine w_box (flDeed _) fun iB1 eB1 B1 => ?_
  refine w_fadr ?_
  refine w_ld (c := .sc (.int .i64 d.fOp)) B1 (Nat.le_of_ble_eq_true rfl) rfl ?_
  refine lw_sc rfl (vcons (Vw_sc _ _) (vcons (Vw_sc _ _) (vcons (Vw_sc _ _) vnil))) (withinF (n + 4) _ d.fOp 1 6) ?_
  refine w_not ?_
  apply w_merge ((!(vIn d.fOp 1 6)) && (d.fOp != 8))
  · intro b2 q2
    refine w_split ((vIn d.fOp 1 6)) (fun h2 => ?_) (fun h2 => ?_)
    · refine w_gF (nF h2) ?_
      refine w_gF (nF h2) ?_
      refine w_gF (nF h2) ?_
      refine w_pFb (nF h2) (mAF q2 (nF h2)) ?_
      exact rfl
    · refine w_gT (nT h2) ?_
      refine w_fadr ?_
      refine w_gT (nT h2) ?_
      refine w_ld (c := .sc (.int .i64 d.fOp)) B1 (Nat.le_of_ble_eq_true rfl) rfl ?_
      refine w_gT (nT h2) ?_
      refine w_bin (v := .sc (.bool (d.fOp != 8))) (fun k => rfl) ?_
      refine w_pTb (nT h2) (mAT q2 (nT h2)) ?_
      exact rfl
  intro b2 q2
  apply w_merge (b2 || (decide (d.fBorn < 0)))
  · intro b3 q3
    refine w_split (b2) (fun h3 => ?_) (fun h3 => ?_)
    · refine w_hF h3 ?_
      refine w_hF h3 ?_
      refine w_hF h3 ?_
      refine w_pTb h3 (mOT q3 h3) ?_
      exact rfl
    · refine w_hT h3 ?_
      refine w_fadr ?_
      refine w_hT h3 ?_
      refine w_ld (c := .sc (.int .i64 d.fBorn)) B1 (Nat.le_of_ble_eq_true rfl) rfl ?_
      refine w_hT h3 ?_
      refine w_bin (v := .sc (.bool (decide (d.fBorn < 0)))) (fun k => rfl) ?_
      refine w_pFb h3 (mOF q3 h3) ?_
      exact rfl
  intro b3 q3
  apply w_merge (b3 || (!(vIn d.fConn 0 3)))
  · intro b4 q4
    refine w_split (b3) (fun h4 => ?_) (fun h4 => ?_)
    · refine w_hF h4 ?_
      refine w_hF h4 ?_
      refine w_hF h4 ?_
      refine w_hF h4 ?_
      refine w_pTb h4 (mOT q4 h4) ?_
      exact rfl
    · refine w_hT h4 ?_
      refine w_fadr ?_
      refine w_hT h4 ?_
      refine w_ld (c := .sc (.int .i64 d.fConn)) B1 (Nat.le_of_ble_eq_true rfl) rfl ?_
      refine w_hT h4 ?_
      refine lw_sc rfl (vcons (Vw_sc _ _) (vcons (Vw_sc _ _) (vcons (Vw_sc _ _) vnil))) (withinF (n + 4) _ d.fConn 0 3) ?_
      refine w_hT h4 ?_
      refine w_not ?_
      refine w_pFb h4 (mOF q4 h4) ?_
      exact rfl
  intro b4 q4
  apply w_merge (b4 || (decide (d.fGen < 1)))
  · intro b5 q5
    refine w_split (b4) (fun h5 => ?_) (fun h5 => ?_)
    · refine w_hF h5 ?_
      refine w_hF h5 ?_
      refine w_hF h5 ?_
      refine w_pTb h5 (mOT q5 h5) ?_
      exact rfl
    · refine w_hT h5 ?_
      refine w_fadr ?_
      refine w_hT h5 ?_
      refine w_ld (c := .sc (.int .i64 d.fGen)) B1 (Nat.le_of_ble_eq_true rfl) rfl ?_
      refine w_hT h5 ?_
      refine w_bin (v := .sc (.bool (decide (d.fGen < 1)))) (fun k => rfl) ?_
      refine w_pFb h5 (mOF q5 h5) ?_
      exact rfl
  intro b5 q5
  refine w_split (b5) (fun h6 => ?_) (fun h6 => ?_)
  · refine w_cT h6 ?_
    exact w_endB (by subst_vars; simp only [vDeedOk, vIn] at *; cases hv : d.fVoid <;> cases ht : vTextOk d.fClient <;> simp only [hv, ht] at * <;> rw [Bool.eq_iff_iff] <;> simp at * <;> omega)
  · refine w_cF h6 ?_
    refine w_fadr ?_
    refine w_ld (c := .sc (.string d.fClient)) B1 (Nat.le_of_ble_eq_true rfl) rfl ?_
    refine lw_ext rfl (vcons (Vw_sc _ _) vnil) (implTextF _ d.fClient hcl) ?_
    refine w_not ?_
    apply w_merge ((!(vTextOk d.fClient)) || (decide (d.fInv < 0)))
    · intro b7 q7
      refine w_split ((vTextOk d.fClient)) (fun h7 => ?_) (fun h7 => ?_)
      · refine w_hT (nF h7) ?_
        refine w_fadr ?_
        refine w_hT (nF h7) ?_
        refine w_ld (c := .sc (.int .i64 d.fInv)) B1 (Nat.le_of_ble_eq_true rfl) rfl ?_
        refine w_hT (nF h7) ?_
        refine w_bin (v := .sc (.bool (decide (d.fInv < 0)))) (fun k => rfl) ?_
        refine w_pFb (nF h7) (mOF q7 (nF h7)) ?_
        exact rfl
      · refine w_hF (nT h7) ?_
        refine w_hF (nT h7) ?_
        refine w_hF (nT h7) ?_
        refine w_pTb (nT h7) (mOT q7 (nT h7)) ?_
        exact rfl
    intro b7 q7
    apply w_merge (b7 || ((d.fLin != (-1)) && (decide (d.fLin < d.fInv))))
    · intro b8 q8
      refine w_split (b7) (fun h8 => ?_) (fun h8 => ?_)
      · refine w_hF h8 ?_
        refine w_hF h8 ?_
        refine w_hF h8 ?_
        refine w_hF h8 ?_
        refine w_u ?_
        refine w_u ?_
        refine w_u ?_
        refine w_u ?_
        refine w_u ?_
        refine w_hF h8 ?_
        refine w_pTb h8 (mOT q8 h8) ?_
        exact rfl
      · refine w_hT h8 ?_
        refine w_fadr ?_
        refine w_hT h8 ?_
        refine w_ld (c := .sc (.int .i64 d.fLin)) B1 (Nat.le_of_ble_eq_true rfl) rfl ?_
        refine w_hT h8 ?_
        refine w_bin (v := .sc (.bool (d.fLin != (-1)))) (fun k => rfl) ?_
        refine w_hT h8 ?_
        apply w_merge ((d.fLin != (-1)) && (decide (d.fLin < d.fInv)))
        · intro b9 q9
          refine w_split ((d.fLin != (-1))) (fun h9 => ?_) (fun h9 => ?_)
          · refine w_gT h9 ?_
            refine w_fadr ?_
            refine w_gT h9 ?_
            refine w_ld (c := .sc (.int .i64 d.fLin)) B1 (Nat.le_of_ble_eq_true rfl) rfl ?_
            refine w_gT h9 ?_
            refine w_fadr ?_
            refine w_gT h9 ?_
            refine w_ld (c := .sc (.int .i64 d.fInv)) B1 (Nat.le_of_ble_eq_true rfl) rfl ?_
            refine w_gT h9 ?_
            refine w_bin (v := .sc (.bool (decide (d.fLin < d.fInv)))) (fun k => rfl) ?_
            refine w_hT h8 ?_
            refine w_pTb h9 (mAT q9 h9) ?_
            exact rfl
          · refine w_gF h9 ?_
            refine w_gF h9 ?_
            refine w_gF h9 ?_
            refine w_gF h9 ?_
            refine w_gF h9 ?_
            refine w_hT h8 ?_
            refine w_pFb h9 (mAF q9 h9) ?_
            exact rfl
        intro b9 q9
        refine w_pFb h8 (by subst q9; exact mOF q8 h8) ?_
        exact rfl
    intro b8 q8
    apply w_merge (b8 || ((d.fRes != (-1)) && (decide (d.fRes < d.fInv))))
    · intro b10 q10
      refine w_split (b8) (fun h10 => ?_) (fun h10 => ?_)
      · refine w_hF h10 ?_
        refine w_hF h10 ?_
        refine w_hF h10 ?_
        refine w_hF h10 ?_
        refine w_u ?_
        refine w_u ?_
        refine w_u ?_
        refine w_u ?_
        refine w_u ?_
        refine w_hF h10 ?_
        refine w_pTb h10 (mOT q10 h10) ?_
        exact rfl
      · refine w_hT h10 ?_
        refine w_fadr ?_
        refine w_hT h10 ?_
        refine w_ld (c := .sc (.int .i64 d.fRes)) B1 (Nat.le_of_ble_eq_true rfl) rfl ?_
        refine w_hT h10 ?_
        refine w_bin (v := .sc (.bool (d.fRes != (-1)))) (fun k => rfl) ?_
        refine w_hT h10 ?_
        apply w_merge ((d.fRes != (-1)) && (decide (d.fRes < d.fInv)))
        · intro b11 q11
          refine w_split ((d.fRes != (-1))) (fun h11 => ?_) (fun h11 => ?_)
          · refine w_gT h11 ?_
            refine w_fadr ?_
            refine w_gT h11 ?_
            refine w_ld (c := .sc (.int .i64 d.fRes)) B1 (Nat.le_of_ble_eq_true rfl) rfl ?_
            refine w_gT h11 ?_
            refine w_fadr ?_
            refine w_gT h11 ?_
            refine w_ld (c := .sc (.int .i64 d.fInv)) B1 (Nat.le_of_ble_eq_true rfl) rfl ?_
            refine w_gT h11 ?_
            refine w_bin (v := .sc (.bool (decide (d.fRes < d.fInv)))) (fun k => rfl) ?_
            refine w_hT h10 ?_
            refine w_pTb h11 (mAT q11 h11) ?_
            exact rfl
          · refine w_gF h11 ?_
            refine w_gF h11 ?_
            refine w_gF h11 ?_
            refine w_gF h11 ?_
            refine w_gF h11 ?_
            refine w_hT h10 ?_
            refine w_pFb h11 (mAF q11 h11) ?_
            exact rfl
        intro b11 q11
        refine w_pFb h10 (by subst q11; exact mOF q10 h10) ?_
        exact rfl
    intro b10 q10
    refine w_split (b10) (fun h12 => ?_) (fun h12 => ?_)
    · refine w_cT h12 ?_
      exact w_endB (by subst_vars; simp only [vDeedOk, vIn] at *; cases hv : d.fVoid <;> cases ht : vTextOk d.fClient <;> simp only [hv, ht] at * <;> rw [Bool.eq_iff_iff] <;> simp at * <;> omega)
    · refine w_cF h12 ?_
      refine w_fadr ?_
      refine w_ld (c := .sc (.int .i64 d.fRes)) B1 (Nat.le_of_ble_eq_true rfl) rfl ?_
      refine w_bin (v := .sc (.bool (d.fRes != (-1)))) (fun k => rfl) ?_
      apply w_merge ((d.fRes != (-1)) && ((decide (d.fRes < d.fLin)) || ((d.fLin == (-1)) && (!d.fVoid))))
      · intro b13 q13
        refine w_split ((d.fRes != (-1))) (fun h13 => ?_) (fun h13 => ?_)
        · refine w_gT h13 ?_
          refine w_fadr ?_
          refine w_gT h13 ?_
          refine w_ld (c := .sc (.int .i64 d.fRes)) B1 (Nat.le_of_ble_eq_true rfl) rfl ?_
          refine w_gT h13 ?_
          refine w_fadr ?_
          refine w_gT h13 ?_
          refine w_ld (c := .sc (.int .i64 d.fLin)) B1 (Nat.le_of_ble_eq_true rfl) rfl ?_
          refine w_gT h13 ?_
          refine w_bin (v := .sc (.bool (decide (d.fRes < d.fLin)))) (fun k => rfl) ?_
          refine w_gT h13 ?_
          apply w_merge ((decide (d.fRes < d.fLin)) || ((d.fLin == (-1)) && (!d.fVoid)))
          · intro b14 q14
            refine w_split ((decide (d.fRes < d.fLin))) (fun h14 => ?_) (fun h14 => ?_)
            · refine w_hF h14 ?_
              refine w_hF h14 ?_
              refine w_hF h14 ?_
              refine w_hF h14 ?_
              refine w_u ?_
              refine w_u ?_
              refine w_u ?_
              refine w_hF h14 ?_
              refine w_gT h13 ?_
              refine w_pTb h14 (mOT q14 h14) ?_
              exact rfl
            · refine w_hT h14 ?_
              refine w_fadr ?_
              refine w_hT h14 ?_
              refine w_ld (c := .sc (.int .i64 d.fLin)) B1 (Nat.le_of_ble_eq_true rfl) rfl ?_
              refine w_hT h14 ?_
              refine w_bin (v := .sc (.bool (d.fLin == (-1)))) (fun k => rfl) ?_
              refine w_hT h14 ?_
              apply w_merge ((d.fLin == (-1)) && (!d.fVoid))
              · intro b15 q15
                refine w_split ((d.fLin == (-1))) (fun h15 => ?_) (fun h15 => ?_)
                · refine w_gT h15 ?_
                  refine w_fadr ?_
                  refine w_gT h15 ?_
                  refine w_ld (c := .sc (.bool d.fVoid)) B1 (Nat.le_of_ble_eq_true rfl) rfl ?_
                  refine w_gT h15 ?_
                  refine w_not ?_
                  refine w_hT h14 ?_
                  refine w_pTb h15 (mAT q15 h15) ?_
                  exact rfl
                · refine w_gF h15 ?_
                  refine w_gF h15 ?_
                  refine w_gF h15 ?_
                  refine w_hT h14 ?_
                  refine w_pFb h15 (mAF q15 h15) ?_
                  exact rfl
              intro b15 q15
              refine w_gT h13 ?_
              refine w_pFb h14 (by subst q15; exact mOF q14 h14) ?_
              exact rfl
          intro b14 q14
          refine w_pTb h13 (by subst q14; exact mAT q13 h13) ?_
          exact rfl
        · refine w_gF h13 ?_
          refine w_gF h13 ?_
          refine w_gF h13 ?_
          refine w_gF h13 ?_
          refine w_gF h13 ?_
          refine w_gF h13 ?_
          refine w_u ?_
          refine w_u ?_
          refine w_u ?_
          refine w_u ?_
          refine w_u ?_
          refine w_u ?_
          refine w_u ?_
          refine w_u ?_
          refine w_gF h13 ?_
          refine w_pFb h13 (mAF q13 h13) ?_
          exact rfl
      intro b13 q13
      refine w_split (b13) (fun h16 => ?_) (fun h16 => ?_)
      · refine w_cT h16 ?_
        exact w_endB (by subst_vars; simp only [vDeedOk, vIn] at *; cases hv : d.fVoid <;> cases ht : vTextOk d.fClient <;> simp only [hv, ht] at * <;> rw [Bool.eq_iff_iff] <;> simp at * <;> omega)
      · refine w_cF h16 ?_
        refine w_fadr ?_
        refine w_ld (c := .sc (.bool d.fVoid)) B1 (Nat.le_of_ble_eq_true rfl) rfl ?_
        refine w_not ?_
        apply w_merge ((!d.fVoid) || (d.fLin == (-1)))
        · intro b17 q17
          refine w_split (d.fVoid) (fun h17 => ?_) (fun h17 => ?_)
          · refine w_hT (nF h17) ?_
            refine w_fadr ?_
            refine w_hT (nF h17) ?_
            refine w_ld (c := .sc (.int .i64 d.fLin)) B1 (Nat.le_of_ble_eq_true rfl) rfl ?_
            refine w_hT (nF h17) ?_
            refine w_bin (v := .sc (.bool (d.fLin == (-1)))) (fun k => rfl) ?_
            refine w_pFb (nF h17) (mOF q17 (nF h17)) ?_
            exact rfl
          · refine w_hF (nT h17) ?_
            refine w_hF (nT h17) ?_
            refine w_hF (nT h17) ?_
            refine w_pTb (nT h17) (mOT q17 (nT h17)) ?_
            exact rfl
        intro b17 q17
        exact w_endB (by subst_vars; simp only [vDeedOk, vIn] at *; cases hv : d.fVoid <;> cases ht : vTextOk d.fClient <;> simp only [hv, ht] at * <;> rw [Bool.eq_iff_iff] <;> simp at * <;> omega)

end Go.Proofs.YtnkelipioodhjaaDoor.Abs
