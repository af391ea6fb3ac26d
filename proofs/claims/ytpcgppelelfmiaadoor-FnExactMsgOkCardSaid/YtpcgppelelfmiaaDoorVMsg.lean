/- What is said of MsgOk (written by stmts.py). -/
import Derived.Test.YtpcgppelelfmiaaDoorTypes
import Derived.Test.YtpcgppelelfmiaaDoorWalk
import Derived.Test.YtpcgppelelfmiaaDoorVTopic
set_option linter.unusedVariables false
set_option linter.unusedSimpArgs false
set_option maxRecDepth 100000
namespace Go.Proofs.YtpcgppelelfmiaaDoor.Abs
open Go
theorem okS_of {s : ByteArray} (h : s.size ≤ 1048576) : okS s := Nat.le_trans h (by decide)
theorem specTopicF (n : Nat) (hn : 1048576 < n) (ty : Nat) (s : ByteArray) (hs : s.size ≤ 1048576) : tree E0 (n + 5) ty 53 [.sc (.string s)] = some (.sc (.bool (vTopicOk s))) := by
  rw [tree_def, f53_eq, f53]
  try simp only [PR_box, PR_new, PR_fadr, PR_load, PR_store, PR_bin, PR_binB, PR_binA, PR_un, PR_cond, PR_guard, PR_pick, PR_len, PR_lenS, PR_iadr, PR_idx, PR_slice, PR_sliceS, PR_newSl, PR_fill, PR_make, PR_app, PR_cvI, PR_cvBS]
  refine lw_sc rfl (vcons (Vw_sc _ _) vnil) (specTextF (n + 0) (by omega) _ s) ?_
  apply w_merge ((vTextOk s) && (!(s.toList == (⟨#[]⟩ : ByteArray).toList)))
  · intro b1 q1
    refine w_split ((vTextOk s)) (fun h1 => ?_) (fun h1 => ?_)
    · refine w_gT h1 ?_
      refine w_gT h1 ?_
      refine w_bin (v := .sc (.bool (!(s.toList == (⟨#[]⟩ : ByteArray).toList)))) (fun k => rfl) ?_
      refine w_pTb h1 (mAT q1 h1) ?_
      exact rfl
    · refine w_gF h1 ?_
      refine w_gF h1 ?_
      refine w_pFb h1 (mAF q1 h1) ?_
      exact rfl
  intro b1 q1
  apply w_merge (b1 && (!(vHas s 43)))
  · intro b2 q2
    refine w_split (b1) (fun h2 => ?_) (fun h2 => ?_)
    · refine w_gT h2 ?_
      refine w_gT h2 ?_
      refine lw_sc rfl (vcons (Vw_sc _ _) (vcons (Vw_sc _ _) vnil)) (has43 (n + 3) (by omega) _ s hs) ?_
      refine w_gT h2 ?_
      refine w_not ?_
      refine w_pTb h2 (mAT q2 h2) ?_
      exact rfl
    · refine w_gF h2 ?_
      refine w_gF h2 ?_
      refine w_gF h2 ?_
      refine w_pFb h2 (mAF q2 h2) ?_
      exact rfl
  intro b2 q2
  apply w_merge (b2 && (!(vHas s 35)))
  · intro b3 q3
    refine w_split (b2) (fun h3 => ?_) (fun h3 => ?_)
    · refine w_gT h3 ?_
      refine w_gT h3 ?_
      refine lw_sc rfl (vcons (Vw_sc _ _) (vcons (Vw_sc _ _) vnil)) (has35 (n + 3) (by omega) _ s hs) ?_
      refine w_gT h3 ?_
      refine w_not ?_
      refine w_pTb h3 (mAT q3 h3) ?_
      exact rfl
    · refine w_gF h3 ?_
      refine w_gF h3 ?_
      refine w_gF h3 ?_
      refine w_pFb h3 (mAF q3 h3) ?_
      exact rfl
  intro b3 q3
  apply w_merge (b3 && (decide (((vLevels s).length : Int) ≤ 6)))
  · intro b4 q4
    refine w_split (b3) (fun h4 => ?_) (fun h4 => ?_)
    · refine w_gT h4 ?_
      refine w_gT h4 ?_
      refine lw_list rfl (vcons (Vw_sc _ _) vnil) (specLevelsF (n + 3) (by omega) s hs) fun N5 X5 z5 => ?_
      refine w_gT h4 ?_
      refine w_lenL ?_
      refine w_gT h4 ?_
      refine w_bin (v := .sc (.bool (decide (((vLevels s).length : Int) ≤ 6)))) (fun k => rfl) ?_
      refine w_pTb h4 (mAT q4 h4) ?_
      exact rfl
    · refine w_gF h4 ?_
      refine w_gF h4 ?_
      refine w_gF h4 ?_
      refine w_gF h4 ?_
      refine w_pFb h4 (mAF q4 h4) ?_
      exact rfl
  intro b4 q4
  exact w_endS (by subst_vars; unfold vTopicOk; first | rfl | (unfold vPH; cases vTextOk s <;> cases vHas s 43 <;> cases vHas s 35 <;> simp))
theorem implTopicF (n : Nat) (hn : 1048576 < n) (ty : Nat) (s : ByteArray) (hs : s.size ≤ 1048576) : tree E0 (n + 5) ty 56 [.sc (.string s)] = some (.sc (.bool (vTopicOk s))) := by
  rw [tree_def, f56_eq, f56]
  try simp only [PR_box, PR_new, PR_fadr, PR_load, PR_store, PR_bin, PR_binB, PR_binA, PR_un, PR_cond, PR_guard, PR_pick, PR_len, PR_lenS, PR_iadr, PR_idx, PR_slice, PR_sliceS, PR_newSl, PR_fill, PR_make, PR_app, PR_cvI, PR_cvBS]
  refine lw_ext rfl (vcons (Vw_sc _ _) vnil) (implTextF _ s (okS_of hs)) ?_
  apply w_merge ((vTextOk s) && (!(s.toList == (⟨#[]⟩ : ByteArray).toList)))
  · intro b1 q1
    refine w_split ((vTextOk s)) (fun h1 => ?_) (fun h1 => ?_)
    · refine w_gT h1 ?_
      refine w_gT h1 ?_
      refine w_bin (v := .sc (.bool (!(s.toList == (⟨#[]⟩ : ByteArray).toList)))) (fun k => rfl) ?_
      refine w_pTb h1 (mAT q1 h1) ?_
      exact rfl
    · refine w_gF h1 ?_
      refine w_gF h1 ?_
      refine w_pFb h1 (mAF q1 h1) ?_
      exact rfl
  intro b1 q1
  apply w_merge (b1 && (!(vPH s)))
  · intro b2 q2
    refine w_split (b1) (fun h2 => ?_) (fun h2 => ?_)
    · refine w_gT h2 ?_
      refine w_gT h2 ?_
      refine lw_ext rfl (vcons (Vw_sc _ _) (vcons (Vw_sc _ _) vnil)) (containsF _ s hs) ?_
      refine w_gT h2 ?_
      refine w_not ?_
      refine w_pTb h2 (mAT q2 h2) ?_
      exact rfl
    · refine w_gF h2 ?_
      refine w_gF h2 ?_
      refine w_gF h2 ?_
      refine w_pFb h2 (mAF q2 h2) ?_
      exact rfl
  intro b2 q2
  apply w_merge (b2 && (decide (((vLevels s).length : Int) ≤ 6)))
  · intro b3 q3
    refine w_split (b2) (fun h3 => ?_) (fun h3 => ?_)
    · refine w_gT h3 ?_
      refine w_gT h3 ?_
      refine lw_list rfl (vcons (Vw_sc _ _) vnil) (implLevelsF (n + 3) s hs) fun N4 X4 z4 => ?_
      refine w_gT h3 ?_
      refine w_lenL ?_
      refine w_gT h3 ?_
      refine w_bin (v := .sc (.bool (decide (((vLevels s).length : Int) ≤ 6)))) (fun k => rfl) ?_
      refine w_pTb h3 (mAT q3 h3) ?_
      exact rfl
    · refine w_gF h3 ?_
      refine w_gF h3 ?_
      refine w_gF h3 ?_
      refine w_gF h3 ?_
      refine w_pFb h3 (mAF q3 h3) ?_
      exact rfl
  intro b3 q3
  exact w_endS (by subst_vars; unfold vTopicOk; first | rfl | (unfold vPH; cases vTextOk s <;> cases vHas s 43 <;> cases vHas s 35 <;> simp))
def vMsgOk (m : MsgV) : Bool := vTopicOk m.fTopic && decide ((m.fBody.size : Int) ≤ 40) && vIn m.fQos 0 2
theorem isQosF (n : Nat) (ty : Nat) (x : Int) : tree E0 (n + 2) ty 57 [.sc (.int .i64 x)] = some (.sc (.bool (vIn x 0 2))) := by
  rw [tree_def, f57_eq, f57]
  try simp only [PR_box, PR_new, PR_fadr, PR_load, PR_store, PR_bin, PR_binB, PR_binA, PR_un, PR_cond, PR_guard, PR_pick, PR_len, PR_lenS, PR_iadr, PR_idx, PR_slice, PR_sliceS, PR_newSl, PR_fill, PR_make, PR_app, PR_cvI, PR_cvBS]
  refine lw_sc rfl (vcons (Vw_sc _ _) (vcons (Vw_sc _ _) (vcons (Vw_sc _ _) vnil))) (withinF (n + 0) _ x 0 2) ?_
  exact w_endB (by first | (simp_all [vIn, vTopicOk, vMsgOk]; done) | (rw [Bool.eq_iff_iff]; simp [vIn, vTopicOk, vMsgOk] at *; omega))
theorem specMsgF (n : Nat) (hn : 1048576 < n) (ty : Nat) (m : MsgV) (hs : m.fTopic.size ≤ 1048576) : tree E0 (n + 6) ty 13 [.agg (encMsg m)] = some (.sc (.bool (vMsgOk m))) := by
  rw [tree_def, f13_eq, f13]
  try simp only [PR_box, PR_new, PR_fadr, PR_load, PR_store, PR_bin, PR_binB, PR_binA, PR_un, PR_cond, PR_guard, PR_pick, PR_len, PR_lenS, PR_iadr, PR_idx, PR_slice, PR_sliceS, PR_newSl, PR_fill, PR_make, PR_app, PR_cvI, PR_cvBS]
  refine w_box (flMsg _) fun iB1 eB1 B1 => ?_
  refine w_fadr ?_
  refine w_ld (c := .sc (.string m.fTopic)) B1 (Nat.le_of_ble_eq_true rfl) rfl ?_
  refine lw_sc rfl (vcons (Vw_sc _ _) vnil) (specTopicF (n + 0) (by omega) _ m.fTopic (by assumption)) ?_
  apply w_merge ((vTopicOk m.fTopic) && (decide ((m.fBody.size : Int) ≤ 40)))
  · intro b2 q2
    refine w_split ((vTopicOk m.fTopic)) (fun h2 => ?_) (fun h2 => ?_)
    · refine w_gT h2 ?_
      refine w_fadr ?_
      refine w_gT h2 ?_
      refine w_ld (c := bytesC m.fBody) B1 (Nat.le_of_ble_eq_true rfl) rfl ?_
      refine w_gT h2 ?_
      refine w_len ?_
      refine w_gT h2 ?_
      refine w_bin (v := .sc (.bool (decide ((m.fBody.size : Int) ≤ 40)))) (fun k => rfl) ?_
      refine w_pTb h2 (mAT q2 h2) ?_
      exact rfl
    · refine w_gF h2 ?_
      refine w_gF h2 ?_
      refine w_gF h2 ?_
      refine w_gF h2 ?_
      refine w_pFb h2 (mAF q2 h2) ?_
      exact rfl
  intro b2 q2
  apply w_merge (b2 && (vIn m.fQos 0 2))
  · intro b3 q3
    refine w_split (b2) (fun h3 => ?_) (fun h3 => ?_)
    · refine w_gT h3 ?_
      refine w_fadr ?_
      refine w_gT h3 ?_
      refine w_ld (c := .sc (.int .i64 m.fQos)) B1 (Nat.le_of_ble_eq_true rfl) rfl ?_
      refine w_gT h3 ?_
      refine lw_sc rfl (vcons (Vw_sc _ _) (vcons (Vw_sc _ _) (vcons (Vw_sc _ _) vnil))) (l1InF (n + 4) _ m.fQos 0 2) ?_
      refine w_pTb h3 (mAT q3 h3) ?_
      exact rfl
    · refine w_gF h3 ?_
      refine w_gF h3 ?_
      refine w_gF h3 ?_
      refine w_pFb h3 (mAF q3 h3) ?_
      exact rfl
  intro b3 q3
  exact w_endB (by subst_vars; first | rfl | (simp only [vMsgOk]; done) | (simp only [vMsgOk]; ac_rfl))
theorem implMsgF (n : Nat) (hn : 1048576 < n) (ty : Nat) (m : MsgV) (hs : m.fTopic.size ≤ 1048576) : tree E0 (n + 6) ty 15 [.agg (encMsg m)] = some (.sc (.bool (vMsgOk m))) := by
  rw [tree_def, f15_eq, f15]
  try simp only [PR_box, PR_new, PR_fadr, PR_load, PR_store, PR_bin, PR_binB, PR_binA, PR_un, PR_cond, PR_guard, PR_pick, PR_len, PR_lenS, PR_iadr, PR_idx, PR_slice, PR_sliceS, PR_newSl, PR_fill, PR_make, PR_app, PR_cvI, PR_cvBS]
  refine w_box (flMsg _) fun iB1 eB1 B1 => ?_
  refine w_fadr ?_
  refine w_ld (c := .sc (.string m.fTopic)) B1 (Nat.le_of_ble_eq_true rfl) rfl ?_
  refine lw_sc rfl (vcons (Vw_sc _ _) vnil) (implTopicF (n + 0) (by omega) _ m.fTopic (by assumption)) ?_
  apply w_merge ((vTopicOk m.fTopic) && (decide ((m.fBody.size : Int) ≤ 40)))
  · intro b2 q2
    refine w_split ((vTopicOk m.fTopic)) (fun h2 => ?_) (fun h2 => ?_)
    · refine w_gT h2 ?_
      refine w_fadr ?_
      refine w_gT h2 ?_
      refine w_ld (c := bytesC m.fBody) B1 (Nat.le_of_ble_eq_true rfl) rfl ?_
      refine w_gT h2 ?_
      refine w_len ?_
      refine w_gT h2 ?_
      refine w_bin (v := .sc (.bool (decide ((m.fBody.size : Int) ≤ 40)))) (fun k => rfl) ?_
      refine w_pTb h2 (mAT q2 h2) ?_
      exact rfl
    · refine w_gF h2 ?_
      refine w_gF h2 ?_
      refine w_gF h2 ?_
      refine w_gF h2 ?_
      refine w_pFb h2 (mAF q2 h2) ?_
      exact rfl
  intro b2 q2
  apply w_merge (b2 && (vIn m.fQos 0 2))
  · intro b3 q3
    refine w_split (b2) (fun h3 => ?_) (fun h3 => ?_)
    · refine w_gT h3 ?_
      refine w_fadr ?_
      refine w_gT h3 ?_
      refine w_ld (c := .sc (.int .i64 m.fQos)) B1 (Nat.le_of_ble_eq_true rfl) rfl ?_
      refine w_gT h3 ?_
      refine lw_sc rfl (vcons (Vw_sc _ _) vnil) (isQosF (n + 3) _ m.fQos) ?_
      refine w_pTb h3 (mAT q3 h3) ?_
      exact rfl
    · refine w_gF h3 ?_
      refine w_gF h3 ?_
      refine w_gF h3 ?_
      refine w_pFb h3 (mAF q3 h3) ?_
      exact rfl
  intro b3 q3
  exact w_endB (by subst_vars; first | rfl | (simp only [vMsgOk]; done) | (simp only [vMsgOk]; ac_rfl))
theorem specF_MsgOk (n : Nat) (hn : 1048576 < n) (m : MsgV) (k0 : okMsg m) (b0 : wtMsg m ≤ 1048576) : tree E0 (n + 6) 4 13 [.agg (encMsg m)] = some (.sc (.bool (vMsgOk m))) := specMsgF n hn _ m (by unfold wtMsg at b0; omega)
theorem implF_MsgOk (n : Nat) (hn : 1048576 < n) (m : MsgV) (k0 : okMsg m) (b0 : wtMsg m ≤ 1048576) : tree E0 (n + 6) 4 15 [.agg (encMsg m)] = some (.sc (.bool (vMsgOk m))) := implMsgF n hn _ m (by unfold wtMsg at b0; omega)

end Go.Proofs.YtpcgppelelfmiaaDoor.Abs
