/- What is said of  (written by stmts.py). -/
import Derived.Test.YtpcgppelelfmiaaDoorTypes
import Derived.Test.YtpcgppelelfmiaaDoorWalk
set_option linter.unusedVariables false
set_option linter.unusedSimpArgs false
set_option maxRecDepth 100000
namespace Go.Proofs.YtpcgppelelfmiaaDoor.Abs
open Go
def vIn (x lo hi : Int) : Bool := decide (lo ≤ x) && decide (x ≤ hi)
theorem l1InF (n : Nat) (ty : Nat) (x : Int) (lo : Int) (hi : Int) : tree E0 (n + 1) ty 54 [.sc (.int .i64 x), .sc (.int .i64 lo), .sc (.int .i64 hi)] = some (.sc (.bool (vIn x lo hi))) := by
  rw [tree_def, f54_eq, f54]
  try simp only [PR_box, PR_new, PR_fadr, PR_load, PR_store, PR_bin, PR_binB, PR_binA, PR_un, PR_cond, PR_guard, PR_pick, PR_len, PR_lenS, PR_iadr, PR_idx, PR_slice, PR_sliceS, PR_newSl, PR_fill, PR_make, PR_app, PR_cvI, PR_cvBS]
  refine w_bin (v := .sc (.bool (decide (x ≥ lo)))) (fun k => rfl) ?_
  apply w_merge ((decide (x ≥ lo)) && (decide (x ≤ hi)))
  · intro b1 q1
    refine w_split ((decide (x ≥ lo))) (fun h1 => ?_) (fun h1 => ?_)
    · refine w_gT h1 ?_
      refine w_gT h1 ?_
      refine w_gT h1 ?_
      refine w_bin (v := .sc (.bool (decide (x ≤ hi)))) (fun k => rfl) ?_
      refine w_pTb h1 (mAT q1 h1) ?_
      exact rfl
    · refine w_gF h1 ?_
      refine w_gF h1 ?_
      refine w_gF h1 ?_
      refine w_pFb h1 (mAF q1 h1) ?_
      exact rfl
  intro b1 q1
  exact w_endB (by first | (simp_all [vIn]; done) | (rw [Bool.eq_iff_iff]; simp [vIn] at *; omega))
theorem withinF (n : Nat) (ty : Nat) (x : Int) (lo : Int) (hi : Int) : tree E0 (n + 1) ty 65 [.sc (.int .i64 x), .sc (.int .i64 lo), .sc (.int .i64 hi)] = some (.sc (.bool (vIn x lo hi))) := by
  rw [tree_def, f65_eq, f65]
  try simp only [PR_box, PR_new, PR_fadr, PR_load, PR_store, PR_bin, PR_binB, PR_binA, PR_un, PR_cond, PR_guard, PR_pick, PR_len, PR_lenS, PR_iadr, PR_idx, PR_slice, PR_sliceS, PR_newSl, PR_fill, PR_make, PR_app, PR_cvI, PR_cvBS]
  refine w_bin (v := .sc (.bool (decide (x ≥ lo)))) (fun k => rfl) ?_
  apply w_merge ((decide (x ≥ lo)) && (decide (x ≤ hi)))
  · intro b1 q1
    refine w_split ((decide (x ≥ lo))) (fun h1 => ?_) (fun h1 => ?_)
    · refine w_gT h1 ?_
      refine w_gT h1 ?_
      refine w_gT h1 ?_
      refine w_bin (v := .sc (.bool (decide (x ≤ hi)))) (fun k => rfl) ?_
      refine w_pTb h1 (mAT q1 h1) ?_
      exact rfl
    · refine w_gF h1 ?_
      refine w_gF h1 ?_
      refine w_gF h1 ?_
      refine w_pFb h1 (mAF q1 h1) ?_
      exact rfl
  intro b1 q1
  exact w_endB (by first | (simp_all [vIn]; done) | (rw [Bool.eq_iff_iff]; simp [vIn] at *; omega))

end Go.Proofs.YtpcgppelelfmiaaDoor.Abs
