/- What is said of OutOk (written by stmts.py). -/
import Derived.Test.YtpcgppelelfmiaaDoorTypes
import Derived.Test.YtpcgppelelfmiaaDoorWalk
import Derived.Test.YtpcgppelelfmiaaDoorVTopic
set_option linter.unusedVariables false
set_option linter.unusedSimpArgs false
set_option maxRecDepth 100000
namespace Go.Proofs.YtpcgppelelfmiaaDoor.Abs
open Go
theorem okS_of {s : ByteArray} (h : s.size ≤ 1048576) : okS s := Nat.le_trans h (by decide)
theorem specTopicF (n : Nat) (hn : 1048576 < n) (ty : Nat) (s : ByteArray) (hs : s.size ≤ 1048576) : tree E0 (n + 5) ty 53 [.sc (.string s)] = some (.sc (.bool (vTopicOk s))) := by
  rw [tree_def, f53_eq, f53]
  try simp only [PR_box, PR_new, PR_fadr, PR_load, PR_store, PR_bin, PR_binB, PR_binA, PR_un, PR_cond, PR_guard, PR_pick, PR_len, PR_lenS, PR_iadr, PR_idx, PR_slice, PR_sliceS, PR_newSl, PR_fill, PR_make, PR_app, PR_cvI, PR_cvBS]
  refine lw_sc rfl (vcons (Vw_sc _ _) vnil) (specTextF (n + 0) (by omega) _ s) ?_
  apply w_merge ((vTextOk s) && (!(s.toList == (⟨#[]⟩ : ByteArray).toList)))
  · intro b1 q1
    refine w_split ((vTextOk s)) (fun h1 => ?_) (fun h1 => ?_)
    · refine w_gT h1 ?_
      refine w_gT h1 ?_
      refine w_bin (v := .sc (.bool (!(s.toList == (⟨#[]⟩ : ByteArray).toList)))) (fun k => rfl) ?_
      refine w_pTb h1 (mAT q1 h1) ?_
      exact rfl
    · refine w_gF h1 ?_
      refine w_gF h1 ?_
      refine w_pFb h1 (mAF q1 h1) ?_
      exact rfl
  intro b1 q1
  apply w_merge (b1 && (!(vHas s 43)))
  · intro b2 q2
    refine w_split (b1) (fun h2 => ?_) (fun h2 => ?_)
    · refine w_gT h2 ?_
      refine w_gT h2 ?_
      refine lw_sc rfl (vcons (Vw_sc _ _) (vcons (Vw_sc _ _) vnil)) (has43 (n + 3) (by omega) _ s hs) ?_
      refine w_gT h2 ?_
      refine w_not ?_
      refine w_pTb h2 (mAT q2 h2) ?_
      exact rfl
    · refine w_gF h2 ?_
      refine w_gF h2 ?_
      refine w_gF h2 ?_
      refine w_pFb h2 (mAF q2 h2) ?_
      exact rfl
  intro b2 q2
  apply w_merge (b2 && (!(vHas s 35)))
  · intro b3 q3
    refine w_split (b2) (fun h3 => ?_) (fun h3 => ?_)
    · refine w_gT h3 ?_
      refine w_gT h3 ?_
      refine lw_sc rfl (vcons (Vw_sc _ _) (vcons (Vw_sc _ _) vnil)) (has35 (n + 3) (by omega) _ s hs) ?_
      refine w_gT h3 ?_
      refine w_not ?_
      refine w_pTb h3 (mAT q3 h3) ?_
      exact rfl
    · refine w_gF h3 ?_
      refine w_gF h3 ?_
      refine w_gF h3 ?_
      refine w_pFb h3 (mAF q3 h3) ?_
      exact rfl
  intro b3 q3
  apply w_merge (b3 && (decide (((vLevels s).length : Int) ≤ 6)))
  · intro b4 q4
    refine w_split (b3) (fun h4 => ?_) (fun h4 => ?_)
    · refine w_gT h4 ?_
      refine w_gT h4 ?_
      refine lw_list rfl (vcons (Vw_sc _ _) vnil) (specLevelsF (n + 3) (by omega) s hs) fun N5 X5 z5 => ?_
      refine w_gT h4 ?_
      refine w_lenL ?_
      refine w_gT h4 ?_
      refine w_bin (v := .sc (.bool (decide (((vLevels s).length : Int) ≤ 6)))) (fun k => rfl) ?_
      refine w_pTb h4 (mAT q4 h4) ?_
      exact rfl
    · refine w_gF h4 ?_
      refine w_gF h4 ?_
      refine w_gF h4 ?_
      refine w_gF h4 ?_
      refine w_pFb h4 (mAF q4 h4) ?_
      exact rfl
  intro b4 q4
  exact w_endS (by subst_vars; unfold vTopicOk; first | rfl | (unfold vPH; cases vTextOk s <;> cases vHas s 43 <;> cases vHas s 35 <;> simp))
theorem implTopicF (n : Nat) (hn : 1048576 < n) (ty : Nat) (s : ByteArray) (hs : s.size ≤ 1048576) : tree E0 (n + 5) ty 56 [.sc (.string s)] = some (.sc (.bool (vTopicOk s))) := by
  rw [tree_def, f56_eq, f56]
  try simp only [PR_box, PR_new, PR_fadr, PR_load, PR_store, PR_bin, PR_binB, PR_binA, PR_un, PR_cond, PR_guard, PR_pick, PR_len, PR_lenS, PR_iadr, PR_idx, PR_slice, PR_sliceS, PR_newSl, PR_fill, PR_make, PR_app, PR_cvI, PR_cvBS]
  refine lw_ext rfl (vcons (Vw_sc _ _) vnil) (implTextF _ s (okS_of hs)) ?_
  apply w_merge ((vTextOk s) && (!(s.toList == (⟨#[]⟩ : ByteArray).toList)))
  · intro b1 q1
    refine w_split ((vTextOk s)) (fun h1 => ?_) (fun h1 => ?_)
    · refine w_gT h1 ?_
      refine w_gT h1 ?_
      refine w_bin (v := .sc (.bool (!(s.toList == (⟨#[]⟩ : ByteArray).toList)))) (fun k => rfl) ?_
      refine w_pTb h1 (mAT q1 h1) ?_
      exact rfl
    · refine w_gF h1 ?_
      refine w_gF h1 ?_
      refine w_pFb h1 (mAF q1 h1) ?_
      exact rfl
  intro b1 q1
  apply w_merge (b1 && (!(vPH s)))
  · intro b2 q2
    refine w_split (b1) (fun h2 => ?_) (fun h2 => ?_)
    · refine w_gT h2 ?_
      refine w_gT h2 ?_
      refine lw_ext rfl (vcons (Vw_sc _ _) (vcons (Vw_sc _ _) vnil)) (containsF _ s hs) ?_
      refine w_gT h2 ?_
      refine w_not ?_
      refine w_pTb h2 (mAT q2 h2) ?_
      exact rfl
    · refine w_gF h2 ?_
      refine w_gF h2 ?_
      refine w_gF h2 ?_
      refine w_pFb h2 (mAF q2 h2) ?_
      exact rfl
  intro b2 q2
  apply w_merge (b2 && (decide (((vLevels s).length : Int) ≤ 6)))
  · intro b3 q3
    refine w_split (b2) (fun h3 => ?_) (fun h3 => ?_)
    · refine w_gT h3 ?_
      refine w_gT h3 ?_
      refine lw_list rfl (vcons (Vw_sc _ _) vnil) (implLevelsF (n + 3) s hs) fun N4 X4 z4 => ?_
      refine w_gT h3 ?_
      refine w_lenL ?_
      refine w_gT h3 ?_
      refine w_bin (v := .sc (.bool (decide (((vLevels s).length : Int) ≤ 6)))) (fun k => rfl) ?_
      refine w_pTb h3 (mAT q3 h3) ?_
      exact rfl
    · refine w_gF h3 ?_
      refine w_gF h3 ?_
      refine w_gF h3 ?_
      refine w_gF h3 ?_
      refine w_pFb h3 (mAF q3 h3) ?_
      exact rfl
  intro b3 q3
  exact w_endS (by subst_vars; unfold vTopicOk; first | rfl | (unfold vPH; cases vTextOk s <;> cases vHas s 43 <;> cases vHas s 35 <;> simp))
def vMsgOk (m : MsgV) : Bool := vTopicOk m.fTopic && decide ((m.fBody.size : Int) ≤ 40) && vIn m.fQos 0 2
theorem isQosF (n : Nat) (ty : Nat) (x : Int) : tree E0 (n + 2) ty 57 [.sc (.int .i64 x)] = some (.sc (.bool (vIn x 0 2))) := by
  rw [tree_def, f57_eq, f57]
  try simp only [PR_box, PR_new, PR_fadr, PR_load, PR_store, PR_bin, PR_binB, PR_binA, PR_un, PR_cond, PR_guard, PR_pick, PR_len, PR_lenS, PR_iadr, PR_idx, PR_slice, PR_sliceS, PR_newSl, PR_fill, PR_make, PR_app, PR_cvI, PR_cvBS]
  refine lw_sc rfl (vcons (Vw_sc _ _) (vcons (Vw_sc _ _) (vcons (Vw_sc _ _) vnil))) (withinF (n + 0) _ x 0 2) ?_
  exact w_endB (by first | (simp_all [vIn, vTopicOk, vMsgOk]; done) | (rw [Bool.eq_iff_iff]; simp [vIn, vTopicOk, vMsgOk] at *; omega))
theorem specMsgF (n : Nat) (hn : 1048576 < n) (ty : Nat) (m : MsgV) (hs : m.fTopic.size ≤ 1048576) : tree E0 (n + 6) ty 13 [.agg (encMsg m)] = some (.sc (.bool (vMsgOk m))) := by
  rw [tree_def, f13_eq, f13]
  try simp only [PR_box, PR_new, PR_fadr, PR_load, PR_store, PR_bin, PR_binB, PR_binA, PR_un, PR_cond, PR_guard, PR_pick, PR_len, PR_lenS, PR_iadr, PR_idx, PR_slice, PR_sliceS, PR_newSl, PR_fill, PR_make, PR_app, PR_cvI, PR_cvBS]
  refine w_box (flMsg _) fun iB1 eB1 B1 => ?_
  refine w_fadr ?_
  refine w_ld (c := .sc (.string m.fTopic)) B1 (Nat.le_of_ble_eq_true rfl) rfl ?_
  refine lw_sc rfl (vcons (Vw_sc _ _) vnil) (specTopicF (n + 0) (by omega) _ m.fTopic (by assumption)) ?_
  apply w_merge ((vTopicOk m.fTopic) && (decide ((m.fBody.size : Int) ≤ 40)))
  · intro b2 q2
    refine w_split ((vTopicOk m.fTopic)) (fun h2 => ?_) (fun h2 => ?_)
    · refine w_gT h2 ?_
      refine w_fadr ?_
      refine w_gT h2 ?_
      refine w_ld (c := bytesC m.fBody) B1 (Nat.le_of_ble_eq_true rfl) rfl ?_
      refine w_gT h2 ?_
      refine w_len ?_
      refine w_gT h2 ?_
      refine w_bin (v := .sc (.bool (decide ((m.fBody.size : Int) ≤ 40)))) (fun k => rfl) ?_
      refine w_pTb h2 (mAT q2 h2) ?_
      exact rfl
    · refine w_gF h2 ?_
      refine w_gF h2 ?_
      refine w_gF h2 ?_
      refine w_gF h2 ?_
      refine w_pFb h2 (mAF q2 h2) ?_
      exact rfl
  intro b2 q2
  apply w_merge (b2 && (vIn m.fQos 0 2))
  · intro b3 q3
    refine w_split (b2) (fun h3 => ?_) (fun h3 => ?_)
    · refine w_gT h3 ?_
      refine w_fadr ?_
      refine w_gT h3 ?_
      refine w_ld (c := .sc (.int .i64 m.fQos)) B1 (Nat.le_of_ble_eq_true rfl) rfl ?_
      refine w_gT h3 ?_
      refine lw_sc rfl (vcons (Vw_sc _ _) (vcons (Vw_sc _ _) (vcons (Vw_sc _ _) vnil))) (l1InF (n + 4) _ m.fQos 0 2) ?_
      refine w_pTb h3 (mAT q3 h3) ?_
      exact rfl
    · refine w_gF h3 ?_
      refine w_gF h3 ?_
      refine w_gF h3 ?_
      refine w_pFb h3 (mAF q3 h3) ?_
      exact rfl
  intro b3 q3
  exact w_endB (by subst_vars; first | rfl | (simp only [vMsgOk]; done) | (simp only [vMsgOk]; ac_rfl))
theorem implMsgF (n : Nat) (hn : 1048576 < n) (ty : Nat) (m : MsgV) (hs : m.fTopic.size ≤ 1048576) : tree E0 (n + 6) ty 15 [.agg (encMsg m)] = some (.sc (.bool (vMsgOk m))) := by
  rw [tree_def, f15_eq, f15]
  try simp only [PR_box, PR_new, PR_fadr, PR_load, PR_store, PR_bin, PR_binB, PR_binA, PR_un, PR_cond, PR_guard, PR_pick, PR_len, PR_lenS, PR_iadr, PR_idx, PR_slice, PR_sliceS, PR_newSl, PR_fill, PR_make, PR_app, PR_cvI, PR_cvBS]
  refine w_box (flMsg _) fun iB1 eB1 B1 => ?_
  refine w_fadr ?_
  refine w_ld (c := .sc (.string m.fTopic)) B1 (Nat.le_of_ble_eq_true rfl) rfl ?_
  refine lw_sc rfl (vcons (Vw_sc _ _) vnil) (implTopicF (n + 0) (by omega) _ m.fTopic (by assumption)) ?_
  apply w_merge ((vTopicOk m.fTopic) && (decide ((m.fBody.size : Int) ≤ 40)))
  · intro b2 q2
    refine w_split ((vTopicOk m.fTopic)) (fun h2 => ?_) (fun h2 => ?_)
    · refine w_gT h2 ?_
      refine w_fadr ?_
      refine w_gT h2 ?_
      refine w_ld (c := bytesC m.fBody) B1 (Nat.le_of_ble_eq_true rfl) rfl ?_
      refine w_gT h2 ?_
      refine w_len ?_
      refine w_gT h2 ?_
      refine w_bin (v := .sc (.bool (decide ((m.fBody.size : Int) ≤ 40)))) (fun k => rfl) ?_
      refine w_pTb h2 (mAT q2 h2) ?_
      exact rfl
    · refine w_gF h2 ?_
      refine w_gF h2 ?_
      refine w_gF h2 ?_
      refine w_gF h2 ?_
      refine w_pFb h2 (mAF q2 h2) ?_
      exact rfl
  intro b2 q2
  apply w_merge (b2 && (vIn m.fQos 0 2))
  · intro b3 q3
    refine w_split (b2) (fun h3 => ?_) (fun h3 => ?_)
    · refine w_gT h3 ?_
      refine w_fadr ?_
      refine w_gT h3 ?_
      refine w_ld (c := .sc (.int .i64 m.fQos)) B1 (Nat.le_of_ble_eq_true rfl) rfl ?_
      refine w_gT h3 ?_
      refine lw_sc rfl (vcons (Vw_sc _ _) vnil) (isQosF (n + 3) _ m.fQos) ?_
      refine w_pTb h3 (mAT q3 h3) ?_
      exact rfl
    · refine w_gF h3 ?_
      refine w_gF h3 ?_
      refine w_gF h3 ?_
      refine w_pFb h3 (mAF q3 h3) ?_
      exact rfl
  intro b3 q3
  exact w_endB (by subst_vars; first | rfl | (simp only [vMsgOk]; done) | (simp only [vMsgOk]; ac_rfl))
def vQueueOk (l : List MsgV) : Bool := l.all vMsgOk && decide ((l.length : Int) ≤ 6)
theorem all_go {α : Type} (p : α → Bool) (e : Bool) (go : List α → List α → Bool) (h0 : ∀ pre, go pre [] = e) (h1 : ∀ pre x r, go pre (x :: r) = (p x && go (pre ++ [x]) r)) : ∀ (r pre : List α), go pre r = (r.all p && e)
  | [], pre => by rw [h0]; simp
  | x :: r, pre => by rw [h1, all_go p e go h0 h1 r, List.all_cons, Bool.and_assoc]
def goQs (l : List MsgV) : List MsgV → List MsgV → Bool
  | pre, [] => decide ((l.length : Int) ≤ 6)
  | pre, x :: r => vMsgOk x && goQs l (pre ++ [x]) r
theorem specQ_loop (n : Nat) (hn : 1048576 < n) (ty : Nat) (l : List MsgV) (hlen : l.length ≤ 1048576) (hsl : ∀ x ∈ l, x.fTopic.size ≤ 1048576) : ∀ (r pre : List MsgV) (m : Nat) (H : Heap), l = pre ++ r → r.length < m → f18_l0 (PR (n + 6) AV) (n + 6) (fun x H => ownTree ti0 E0.tp ty H x) m (rowsC encMsg l) (.sc (.int .i64 pre.length)) H = some (.sc (.bool (goQs l pre r)))
  | [], pre, m + 1, H, hl, hm => by
    have hlt : decide ((pre.length : Int) < (l.length : Int)) = false := by
      rw [hl]
      simp
    show (PR (n + 6) AV).len _ _ = _
    simp only [PR_box, PR_new, PR_fadr, PR_load, PR_store, PR_bin, PR_binB, PR_binA, PR_un, PR_cond, PR_guard, PR_pick, PR_len, PR_lenS, PR_iadr, PR_idx, PR_slice, PR_sliceS, PR_newSl, PR_fill, PR_make, PR_app, PR_cvI, PR_cvBS]
    refine w_len ?_
    refine w_bin (v := .sc (.bool (decide ((pre.length : Int) < (l.length : Int))))) (fun k => rfl) ?_
    refine w_cF hlt ?_
    refine w_len ?_
    refine w_bin (v := .sc (.bool (decide ((l.length : Int) ≤ 6)))) (fun k => rfl) ?_
    exact w_endB (by first | (subst_vars; simp only [goQs]; simp_all; done) | (subst_vars; unfold goQs; simp_all))
  | x :: r, pre, m + 1, H, hl, hm => by
    have hpl : pre.length < l.length := by rw [hl]; simp
    have hlt : decide ((pre.length : Int) < (l.length : Int)) = true := by simpa using hpl
    have hmem : x ∈ l := by rw [hl]; simp
    have hix : IntKind.i64.wrap ((pre.length : Int) + 1) = (((pre ++ [x]).length : Nat) : Int) := by
      rw [wrap64 _ (by omega) (by omega), List.length_append, List.length_singleton]
      rfl
    try have hs : x.fTopic.size ≤ 1048576 := hsl x (by assumption)
    show (PR (n + 6) AV).len _ _ = _
    simp only [PR_box, PR_new, PR_fadr, PR_load, PR_store, PR_bin, PR_binB, PR_binA, PR_un, PR_cond, PR_guard, PR_pick, PR_len, PR_lenS, PR_iadr, PR_idx, PR_slice, PR_sliceS, PR_newSl, PR_fill, PR_make, PR_app, PR_cvI, PR_cvBS]
    refine w_len ?_
    refine w_bin (v := .sc (.bool (decide ((pre.length : Int) < (l.length : Int))))) (fun k => rfl) ?_
    refine w_cT hlt ?_
    refine w_iadrE lenMsg (by decide) hl ?_
    refine w_ldA_rp (ds := encMsg x) (Nat.le_of_ble_eq_true rfl) rfl ?_
    refine lw_sc rfl (vcons (Vw_agg _ (flMsg _)) vnil) (specMsgF (n + 0) (by omega) _ x (by assumption)) ?_
    refine w_not ?_
    refine w_split ((vMsgOk x)) (fun h1 => ?_) (fun h1 => ?_)
    · refine w_cF (nF h1) ?_
      refine w_bin (v := .sc (.int .i64 (IntKind.i64.wrap ((pre.length : Int) + 1)))) (fun k => rfl) ?_
      rw [hix]
      refine (specQ_loop n hn ty l hlen hsl r (pre ++ [x]) m _  (by rw [hl]; simp) (by simpa using hm)).trans (congrArg (fun b => some (AV.sc (Value.bool b))) ?_)
      first | (subst_vars; simp only [goQs]; simp_all; done) | (subst_vars; unfold goQs; simp_all)
    · refine w_cT (nT h1) ?_
      exact w_endB (by first | (subst_vars; simp only [goQs]; simp_all; done) | (subst_vars; unfold goQs; simp_all))
def goQi : List MsgV → List MsgV → Bool
  | pre, [] => true
  | pre, x :: r => vMsgOk x && goQi (pre ++ [x]) r
theorem implQ_loop (n : Nat) (hn : 1048576 < n) (ty : Nat) (l : List MsgV) (hlen : l.length ≤ 1048576) (hsl : ∀ x ∈ l, x.fTopic.size ≤ 1048576) : ∀ (r pre : List MsgV) (m : Nat) (H : Heap), l = pre ++ r → r.length < m → f59_l0 (PR (n + 6) AV) (n + 6) (fun x H => ownTree ti0 E0.tp ty H x) m (rowsC encMsg l) (.sc (.int .i64 (l.length : Int))) (.sc (.int .i64 pre.length)) H = some (.sc (.bool (goQi pre r)))
  | [], pre, m + 1, H, hl, hm => by
    have hlt : decide ((pre.length : Int) < (l.length : Int)) = false := by
      rw [hl]
      simp
    show (PR (n + 6) AV).bin _ _ _ _ = _
    simp only [PR_box, PR_new, PR_fadr, PR_load, PR_store, PR_bin, PR_binB, PR_binA, PR_un, PR_cond, PR_guard, PR_pick, PR_len, PR_lenS, PR_iadr, PR_idx, PR_slice, PR_sliceS, PR_newSl, PR_fill, PR_make, PR_app, PR_cvI, PR_cvBS]
    refine w_bin (v := .sc (.bool (decide ((pre.length : Int) < (l.length : Int))))) (fun k => rfl) ?_
    refine w_cF hlt ?_
    exact w_endB (by first | (subst_vars; simp only [goQi]; simp_all; done) | (subst_vars; unfold goQi; simp_all))
  | x :: r, pre, m + 1, H, hl, hm => by
    have hpl : pre.length < l.length := by rw [hl]; simp
    have hlt : decide ((pre.length : Int) < (l.length : Int)) = true := by simpa using hpl
    have hmem : x ∈ l := by rw [hl]; simp
    have hix : IntKind.i64.wrap ((pre.length : Int) + 1) = (((pre ++ [x]).length : Nat) : Int) := by
      rw [wrap64 _ (by omega) (by omega), List.length_append, List.length_singleton]
      rfl
    try have hs : x.fTopic.size ≤ 1048576 := hsl x (by assumption)
    show (PR (n + 6) AV).bin _ _ _ _ = _
    simp only [PR_box, PR_new, PR_fadr, PR_load, PR_store, PR_bin, PR_binB, PR_binA, PR_un, PR_cond, PR_guard, PR_pick, PR_len, PR_lenS, PR_iadr, PR_idx, PR_slice, PR_sliceS, PR_newSl, PR_fill, PR_make, PR_app, PR_cvI, PR_cvBS]
    refine w_bin (v := .sc (.bool (decide ((pre.length : Int) < (l.length : Int))))) (fun k => rfl) ?_
    refine w_cT hlt ?_
    refine w_iadrE lenMsg (by decide) hl ?_
    refine w_ldA_rp (ds := encMsg x) (Nat.le_of_ble_eq_true rfl) rfl ?_
    refine lw_put rfl (lenMsg _) (fl_leaf (flMsg _)) fun iB1 B1 => ?_
    refine w_ldA (ds := encMsg x) B1 (Nat.le_of_ble_eq_true rfl) rfl ?_
    refine lw_sc rfl (vcons (Vw_agg _ (flMsg _)) vnil) (implMsgF (n + 0) (by omega) _ x (by assumption)) ?_
    refine w_not ?_
    refine w_split ((vMsgOk x)) (fun h2 => ?_) (fun h2 => ?_)
    · refine w_cF (nF h2) ?_
      refine w_bin (v := .sc (.int .i64 (IntKind.i64.wrap ((pre.length : Int) + 1)))) (fun k => rfl) ?_
      rw [hix]
      refine (implQ_loop n hn ty l hlen hsl r (pre ++ [x]) m _  (by rw [hl]; simp) (by simpa using hm)).trans (congrArg (fun b => some (AV.sc (Value.bool b))) ?_)
      first | (subst_vars; simp only [goQi]; simp_all; done) | (subst_vars; unfold goQi; simp_all)
    · refine w_cT (nT h2) ?_
      exact w_endB (by first | (subst_vars; simp only [goQi]; simp_all; done) | (subst_vars; unfold goQi; simp_all))
theorem specQueueF (n : Nat) (hn : 1048576 < n) (ty : Nat) (l : List MsgV) (hlen : l.length ≤ 1048576) (hsl : ∀ x ∈ l, x.fTopic.size ≤ 1048576) : tree E0 (n + 7) ty 18 [rowsC encMsg l] = some (.sc (.bool (vQueueOk l))) := by
  rw [tree_def, f18_eq, f18]
  have key := specQ_loop n hn ty l hlen hsl l [] (n + 6) [] rfl (by omega)
  rw [all_go vMsgOk (decide ((l.length : Int) ≤ 6)) (goQs l) (fun _ => rfl) (fun _ _ _ => rfl) l []] at key
  exact key
theorem implMsgsF (n : Nat) (hn : 1048576 < n) (ty : Nat) (l : List MsgV) (hlen : l.length ≤ 1048576) (hsl : ∀ x ∈ l, x.fTopic.size ≤ 1048576) : tree E0 (n + 7) ty 59 [rowsC encMsg l] = some (.sc (.bool (l.all vMsgOk))) := by
  rw [tree_def, f59_eq, f59]
  simp only [PR_len]
  refine w_len ?_
  have key := implQ_loop n hn ty l hlen hsl l [] (n + 6) [] rfl (by omega)
  rw [all_go vMsgOk true goQi (fun _ => rfl) (fun _ _ _ => rfl) l [], Bool.and_true] at key
  exact key
theorem implQueueF (n : Nat) (hn : 1048576 < n) (ty : Nat) (l : List MsgV) (hlen : l.length ≤ 1048576) (hsl : ∀ x ∈ l, x.fTopic.size ≤ 1048576) : tree E0 (n + 8) ty 20 [rowsC encMsg l] = some (.sc (.bool (vQueueOk l))) := by
  rw [tree_def, f20_eq, f20]
  try simp only [PR_box, PR_new, PR_fadr, PR_load, PR_store, PR_bin, PR_binB, PR_binA, PR_un, PR_cond, PR_guard, PR_pick, PR_len, PR_lenS, PR_iadr, PR_idx, PR_slice, PR_sliceS, PR_newSl, PR_fill, PR_make, PR_app, PR_cvI, PR_cvBS]
  refine w_len ?_
  refine w_bin (v := .sc (.bool (decide ((l.length : Int) ≤ 6)))) (fun k => rfl) ?_
  apply w_merge ((decide ((l.length : Int) ≤ 6)) && (l.all vMsgOk))
  · intro b1 q1
    refine w_split ((decide ((l.length : Int) ≤ 6))) (fun h1 => ?_) (fun h1 => ?_)
    · refine w_gT h1 ?_
      refine w_gT h1 ?_
      refine lw_sc rfl (vcons (Vw_ro _ _ _) vnil) (implMsgsF (n + 0) (by omega) _ l (by assumption) (by assumption)) ?_
      refine w_pTb h1 (mAT q1 h1) ?_
      exact rfl
    · refine w_gF h1 ?_
      refine w_gF h1 ?_
      refine w_pFb h1 (mAF q1 h1) ?_
      exact rfl
  intro b1 q1
  exact w_endB (by subst_vars; unfold vQueueOk; rw [Bool.and_comm])
theorem queue_hyp (l : List MsgV) (b0 : wtL wtMsg l ≤ 1048576) : l.length ≤ 1048576 ∧ ∀ x ∈ l, x.fTopic.size ≤ 1048576 := by
  have h1 := wtL_eq wtMsg l
  refine ⟨by omega, fun x hx => ?_⟩
  have h2 := wtS_mem (wt := wtMsg) hx
  have h3 : wtMsg x = x.fTopic.size + (x.fBody.size + 0) := rfl
  omega
theorem specF_QueueOk (n : Nat) (hn : 1048576 < n) (l : List MsgV) (k0 : l.length ≤ 9223372036854775807 ∧ ∀ z ∈ l, okMsg z) (b0 : wtL wtMsg l ≤ 1048576) : tree E0 (n + 8) 4 18 [rowsC encMsg l] = some (.sc (.bool (vQueueOk l))) := specQueueF (n + 1) (by omega) _ l (queue_hyp l b0).1 (queue_hyp l b0).2
theorem implF_QueueOk (n : Nat) (hn : 1048576 < n) (l : List MsgV) (k0 : l.length ≤ 9223372036854775807 ∧ ∀ z ∈ l, okMsg z) (b0 : wtL wtMsg l ≤ 1048576) : tree E0 (n + 8) 4 20 [rowsC encMsg l] = some (.sc (.bool (vQueueOk l))) := implQueueF n hn _ l (queue_hyp l b0).1 (queue_hyp l b0).2
def vSt (x : FlightV) : Bool := if x.fM.fQos == 1 then x.fSt == 1 else (x.fM.fQos == 2 && (x.fSt == 2 || x.fSt == 3))
theorem l13StF (n : Nat) (ty : Nat) (x : FlightV) : tree E0 (n + 1) ty 61 [.agg (encFlight x)] = some (.sc (.bool (vSt x))) := by
  rw [tree_def, f61_eq, f61]
  try simp only [PR_box, PR_new, PR_fadr, PR_load, PR_store, PR_bin, PR_binB, PR_binA, PR_un, PR_cond, PR_guard, PR_pick, PR_len, PR_lenS, PR_iadr, PR_idx, PR_slice, PR_sliceS, PR_newSl, PR_fill, PR_make, PR_app, PR_cvI, PR_cvBS]
  refine w_box (flFlight _) fun iB1 eB1 B1 => ?_
  refine w_fadr ?_
  refine w_fadr ?_
  refine w_ld (c := .sc (.int .i64 x.fM.fQos)) B1 (Nat.le_of_ble_eq_true rfl) rfl ?_
  refine w_bin (v := .sc (.bool (x.fM.fQos == 1))) (fun k => rfl) ?_
  refine w_split ((x.fM.fQos == 1)) (fun h2 => ?_) (fun h2 => ?_)
  · refine w_cT h2 ?_
    refine w_fadr ?_
    refine w_ld (c := .sc (.int .i64 x.fSt)) B1 (Nat.le_of_ble_eq_true rfl) rfl ?_
    refine w_bin (v := .sc (.bool (x.fSt == 1))) (fun k => rfl) ?_
    exact w_endB (by subst_vars; unfold vSt; simp_all)
  · refine w_cF h2 ?_
    refine w_fadr ?_
    refine w_fadr ?_
    refine w_ld (c := .sc (.int .i64 x.fM.fQos)) B1 (Nat.le_of_ble_eq_true rfl) rfl ?_
    refine w_bin (v := .sc (.bool (x.fM.fQos == 2))) (fun k => rfl) ?_
    apply w_merge ((x.fM.fQos == 2) && ((x.fSt == 2) || (x.fSt == 3)))
    · intro b3 q3
      refine w_split ((x.fM.fQos == 2)) (fun h3 => ?_) (fun h3 => ?_)
      · refine w_gT h3 ?_
        refine w_fadr ?_
        refine w_gT h3 ?_
        refine w_ld (c := .sc (.int .i64 x.fSt)) B1 (Nat.le_of_ble_eq_true rfl) rfl ?_
        refine w_gT h3 ?_
        refine w_bin (v := .sc (.bool (x.fSt == 2))) (fun k => rfl) ?_
        refine w_gT h3 ?_
        apply w_merge ((x.fSt == 2) || (x.fSt == 3))
        · intro b4 q4
          refine w_split ((x.fSt == 2)) (fun h4 => ?_) (fun h4 => ?_)
          · refine w_hF h4 ?_
            refine w_hF h4 ?_
            refine w_hF h4 ?_
            refine w_gT h3 ?_
            refine w_pTb h4 (mOT q4 h4) ?_
            exact rfl
          · refine w_hT h4 ?_
            refine w_fadr ?_
            refine w_hT h4 ?_
            refine w_ld (c := .sc (.int .i64 x.fSt)) B1 (Nat.le_of_ble_eq_true rfl) rfl ?_
            refine w_hT h4 ?_
            refine w_bin (v := .sc (.bool (x.fSt == 3))) (fun k => rfl) ?_
            refine w_gT h3 ?_
            refine w_pFb h4 (mOF q4 h4) ?_
            exact rfl
        intro b4 q4
        refine w_pTb h3 (by subst q4; exact mAT q3 h3) ?_
        exact rfl
      · refine w_gF h3 ?_
        refine w_gF h3 ?_
        refine w_gF h3 ?_
        refine w_gF h3 ?_
        refine w_u ?_
        refine w_u ?_
        refine w_u ?_
        refine w_gF h3 ?_
        refine w_pFb h3 (mAF q3 h3) ?_
        exact rfl
    intro b3 q3
    exact w_endB (by subst_vars; unfold vSt; simp_all)
theorem isIdF (n : Nat) (ty : Nat) (x : Int) : tree E0 (n + 2) ty 63 [.sc (.int .i64 x)] = some (.sc (.bool (vIn x 1 65535))) := by
  rw [tree_def, f63_eq, f63]
  try simp only [PR_box, PR_new, PR_fadr, PR_load, PR_store, PR_bin, PR_binB, PR_binA, PR_un, PR_cond, PR_guard, PR_pick, PR_len, PR_lenS, PR_iadr, PR_idx, PR_slice, PR_sliceS, PR_newSl, PR_fill, PR_make, PR_app, PR_cvI, PR_cvBS]
  refine lw_sc rfl (vcons (Vw_sc _ _) (vcons (Vw_sc _ _) (vcons (Vw_sc _ _) vnil))) (withinF (n + 0) _ x 1 65535) ?_
  exact w_endB (by first | (simp_all [vIn, vTopicOk, vMsgOk, vQueueOk, vSt]; done) | (rw [Bool.eq_iff_iff]; simp [vIn, vTopicOk, vMsgOk, vQueueOk, vSt] at *; omega))
theorem isWordF (n : Nat) (ty : Nat) (x : Int) : tree E0 (n + 2) ty 66 [.sc (.int .i64 x)] = some (.sc (.bool (vIn x 0 65535))) := by
  rw [tree_def, f66_eq, f66]
  try simp only [PR_box, PR_new, PR_fadr, PR_load, PR_store, PR_bin, PR_binB, PR_binA, PR_un, PR_cond, PR_guard, PR_pick, PR_len, PR_lenS, PR_iadr, PR_idx, PR_slice, PR_sliceS, PR_newSl, PR_fill, PR_make, PR_app, PR_cvI, PR_cvBS]
  refine lw_sc rfl (vcons (Vw_sc _ _) (vcons (Vw_sc _ _) (vcons (Vw_sc _ _) vnil))) (withinF (n + 0) _ x 0 65535) ?_
  exact w_endB (by first | (simp_all [vIn, vTopicOk, vMsgOk, vQueueOk, vSt]; done) | (rw [Bool.eq_iff_iff]; simp [vIn, vTopicOk, vMsgOk, vQueueOk, vSt] at *; omega))
def flPre (pre : List FlightV) (x : FlightV) : Bool := pre.any fun y => y.fId == x.fId
def flGo : List FlightV → List FlightV → Bool
  | pre, [] => true
  | pre, x :: r => (vIn x.fId 1 65535 && vMsgOk x.fM && vSt x && !(flPre pre x)) && flGo (pre ++ [x]) r
def vOutOk (o : OutV) : Bool := flGo [] o.fFl && (vIn o.fLast 0 65535 && decide ((o.fFl.length : Int) ≤ 3) && vQueueOk o.fQ)
theorem fl_hyp (o : OutV) (b0 : wtOut o ≤ 1048576) : (o.fFl.length ≤ 1048576 ∧ ∀ x ∈ o.fFl, x.fM.fTopic.size ≤ 1048576) ∧ (o.fQ.length ≤ 1048576 ∧ ∀ x ∈ o.fQ, x.fTopic.size ≤ 1048576) := by
  have e : wtOut o = wtL wtFlight o.fFl + (wtL wtMsg o.fQ + 0) := rfl
  refine ⟨?_, queue_hyp _ (by omega)⟩
  have h1 := wtL_eq wtFlight o.fFl
  refine ⟨by omega, fun x hx => ?_⟩
  have h2 := wtS_mem (wt := wtFlight) hx
  have h3 : wtFlight x = x.fM.fTopic.size + (x.fM.fBody.size + 0) + 0 := rfl
  omega
theorem specFl_in (n : Nat) (ty : Nat) (o : OutV) (hlen : o.fFl.length ≤ 1048576) (x : FlightV) (g0 : AV → AV → Heap → Option AV) (kk : AV → Heap → Option AV) (i1 : Nat) (H : Heap) (B : H[i1]? = some ⟨encOut o, true, true⟩) (pre r : List FlightV) (hl : o.fFl = pre ++ x :: r) : ∀ (s p2 : List FlightV) (m : Nat), pre = p2 ++ s → s.length < m →
    f23_l1 (PR n AV) n g0 kk m (.ptr i1 0) (.sc (.int .i64 pre.length)) (.sc (.int .i64 p2.length)) H = if flPre s x then kk (.sc (.bool false)) H else g0 (.ptr i1 0) (.sc (.int .i64 (IntKind.i64.wrap ((pre.length : Int) + 1)))) H
  | [], p2, m + 1, he, hm => by
    rw [List.append_nil] at he
    subst he
    show (PR n AV).bin _ _ _ _ = _
    simp only [PR_bin, PR_cond, PR_fadr, PR_load, PR_iadr]
    rw [lss_nat, cond_b, if_neg (by simp)]
    rfl
  | y :: s, p2, m + 1, he, hm => by
    have hlt : p2.length < pre.length := by rw [he]; simp
    have hpl : pre.length < o.fFl.length := by rw [hl]; simp
    show (PR n AV).bin _ _ _ _ = _
    simp only [PR_bin, PR_cond, PR_fadr, PR_load, PR_iadr]
    rw [lss_nat, cond_b, if_pos (by simpa using hlt)]
    refine w_fadr ?_
    refine w_ld (c := rowsC encFlight o.fFl) B (Nat.le_of_ble_eq_true rfl) rfl ?_
    refine w_iadrE (pre := p2) (x := y) (t := s ++ x :: r) lenFlight (by decide) (by rw [hl, he]; simp) ?_
    refine w_fadr_rp ?_
    refine w_ld_rp (c := .sc (.int .i64 y.fId)) rfl ?_
    refine w_fadr ?_
    refine w_ld (c := rowsC encFlight o.fFl) B (Nat.le_of_ble_eq_true rfl) rfl ?_
    refine w_iadrE (pre := pre) (x := x) (t := r) lenFlight (by decide) hl ?_
    refine w_fadr_rp ?_
    refine w_ld_rp (c := .sc (.int .i64 x.fId)) rfl ?_
    refine w_bin (v := .sc (.bool (y.fId == x.fId))) (fun k => rfl) ?_
    have ih := specFl_in n ty o hlen x g0 kk i1 H B pre r hl s (p2 ++ [y]) m (by rw [he]; simp) (by simpa using hm)
    rw [List.length_append, List.length_singleton] at ih
    have hany : flPre (y :: s) x = (y.fId == x.fId || flPre s x) := rfl
    rw [hany]
    cases hid : (y.fId == x.fId)
    · refine w_cF rfl ?_
      rw [inc_nat _ _ (by omega), ih]
      rfl
    · exact w_cT rfl rfl
theorem idx_pre (p : FlightV → Bool) : ∀ (pre r : List FlightV) (x : FlightV) (i : Nat), p x = true → idxOf p (pre ++ x :: r) i = if pre.any p then idxOf p pre i else ((i + pre.length : Nat) : Int)
  | [], r, x, i, h => by simp [idxOf, h]
  | y :: pre, r, x, i, h => by
    rw [List.cons_append, idxOf, idx_pre p pre r x (i + 1) h, idxOf, List.any_cons]
    cases hy : p y
    · simp only [Bool.false_eq_true, if_false, Bool.false_or, List.length_cons]
      rw [show i + 1 + pre.length = i + (pre.length + 1) by omega]
    · simp
theorem idx_lt (p : FlightV → Bool) : ∀ (pre : List FlightV) (i : Nat), pre.any p = true → idxOf p pre i < ((i + pre.length : Nat) : Int)
  | [], i, h => by simp at h
  | y :: pre, i, h => by
    rw [idxOf]
    cases hy : p y
    · rw [List.any_cons, hy, Bool.false_or] at h
      have := idx_lt p pre (i + 1) h
      simp only [Bool.false_eq_true, if_false, List.length_cons]
      omega
    · simp only [if_true, List.length_cons]
      omega
/-- The first of its number is the one itself: none before it is of that number. -/
theorem idx_self (o : OutV) (pre r : List FlightV) (x : FlightV) (hl : o.fFl = pre ++ x :: r) : (idxOf (fun y : FlightV => y.fId == x.fId) o.fFl 0 != (pre.length : Int)) = flPre pre x := by
  rw [hl, idx_pre _ pre r x 0 (by simp)]
  unfold flPre
  cases h : pre.any fun y => y.fId == x.fId
  · simp
  · have := idx_lt _ pre 0 h
    simp only [if_true]
    rw [bne_iff_ne.2]
    simp at this
    omega
theorem flightClo (n : Nat) (ty : Nat) (x : FlightV) (z : Int) : tree E0 (n + 1) ty 102 [.agg (encFlight x), .rp [.sc (.int .i64 z)]] = some (.sc (.bool (x.fId == z))) := by
  rw [tree_def, f102_eq, f102]
  simp only [PR_box, PR_fadr, PR_load, PR_bin]
  refine w_box (flFlight _) fun i e hi => ?_
  refine w_fadr ?_
  refine w_ld (c := .sc (.int .i64 x.fId)) hi (Nat.le_of_ble_eq_true rfl) rfl ?_
  refine w_ld_rp (c := .sc (.int .i64 z)) rfl ?_
  rw [eql64]
  rfl
theorem flightIndexF (n : Nat) (hn : 1048576 < n) (ty : Nat) (l : List FlightV) (z : Int) (hl : l.length ≤ 1048576) : tree E0 (n + 2) ty 101 [rowsC encFlight l, .fn 102 [] [.rp [.sc (.int .i64 z)]]] = some (.sc (.int .i64 (idxOf (fun y : FlightV => y.fId == z) l 0))) := by
  rw [tree_def, f101_eq, f101]
  simp only [PR_len]
  rw [len_ro]
  have key := index_loop (n := n + 1) (tb := 4) (g := 102) (caps := [.rp [.sc (.int .i64 z)]]) encFlight (fun y : FlightV => y.fId == z) (fun x H => ownTree ti0 E0.tp ty H x) lenFlight (by decide) flFlight rfl (fun H => rfl) (fun m a b c i H => f101_l0 (PR (n + 1) AV) (n + 1) (fun x H => ownTree ti0 E0.tp ty H x) m a b c i H) (fun m a b c i H => rfl) l (fun x _ => flightClo n _ x z) hl [] l [] (n + 1) rfl (by omega)
  simp only [List.length_nil, Int.natCast_zero] at key
  rw [key]
  rfl
theorem flightAtF (n : Nat) (hn : 1048576 < n) (ty : Nat) (l : List FlightV) (z : Int) (hl : l.length ≤ 1048576) : tree E0 (n + 3) ty 64 [rowsC encFlight l, .sc (.int .i64 z)] = some (.sc (.int .i64 (idxOf (fun y : FlightV => y.fId == z) l 0))) := by
  rw [tree_def, f64_eq, f64]
  simp only [PR_box]
  refine w_boxS rfl fun i2 e2 hi2 => ?_
  refine lw_sc rfl (vcons (Vw_ro _ _ _) (vcons (Vw_fn1 hi2 rfl) vnil)) (flightIndexF n hn _ l z hl) ?_
  rfl
theorem stEq (x : FlightV) (hv : vMsgOk x.fM = true) : vSt x = !((x.fM.fQos == 0) || (!((x.fM.fQos == 1) == (x.fSt == 1)) || !(vIn x.fSt 1 3))) := by
  have hq : 0 ≤ x.fM.fQos ∧ x.fM.fQos ≤ 2 := by
    unfold vMsgOk vIn at hv
    simp at hv
    exact hv.2
  unfold vSt vIn
  obtain h | h | h : x.fM.fQos = 0 ∨ x.fM.fQos = 1 ∨ x.fM.fQos = 2 := by omega
  · simp [h]
  · rw [h, Bool.eq_iff_iff]
    simp
    intro h1
    omega
  · rw [h, Bool.eq_iff_iff]
    simp
    omega
def goOs (o : OutV) : List FlightV → List FlightV → Bool
  | pre, [] => vIn o.fLast 0 65535 && decide ((o.fFl.length : Int) ≤ 3) && vQueueOk o.fQ
  | pre, x :: r => (vIn x.fId 1 65535 && vMsgOk x.fM && vSt x && !(flPre pre x)) && goOs o (pre ++ [x]) r
theorem specFl_loop (n : Nat) (hn : 1048576 < n) (ty : Nat) (o : OutV) (hlen : o.fFl.length ≤ 1048576) (hsl : ∀ x ∈ o.fFl, x.fM.fTopic.size ≤ 1048576) (hqn : o.fQ.length ≤ 1048576) (hqs : ∀ x ∈ o.fQ, x.fTopic.size ≤ 1048576) (i1 : Nat) : ∀ (r pre : List FlightV) (m : Nat) (H : Heap) (B : H[i1]? = some ⟨encOut o, true, true⟩), o.fFl = pre ++ r → r.length < m → f23_l0 (PR (n + 8) AV) (n + 8) (fun x H => ownTree ti0 E0.tp ty H x) m (.ptr i1 0) (.sc (.int .i64 pre.length)) H = some (.sc (.bool (goOs o pre r)))
  | [], pre, m + 1, H, B, hl, hm => by
    have hlt : decide ((pre.length : Int) < (o.fFl.length : Int)) = false := by
      rw [hl]
      simp
    show (PR (n + 8) AV).fadr _ _ _ = _
    simp only [PR_box, PR_new, PR_fadr, PR_load, PR_store, PR_bin, PR_binB, PR_binA, PR_un, PR_cond, PR_guard, PR_pick, PR_len, PR_lenS, PR_iadr, PR_idx, PR_slice, PR_sliceS, PR_newSl, PR_fill, PR_make, PR_app, PR_cvI, PR_cvBS]
    refine w_fadr ?_
    refine w_ld (c := rowsC encFlight o.fFl) B (Nat.le_of_ble_eq_true rfl) rfl ?_
    refine w_len ?_
    refine w_bin (v := .sc (.bool (decide ((pre.length : Int) < (o.fFl.length : Int))))) (fun k => rfl) ?_
    refine w_cF hlt ?_
    refine w_fadr ?_
    refine w_ld (c := .sc (.int .i64 o.fLast)) B (Nat.le_of_ble_eq_true rfl) rfl ?_
    refine lw_sc rfl (vcons (Vw_sc _ _) (vcons (Vw_sc _ _) (vcons (Vw_sc _ _) vnil))) (l1InF (n + 7) _ o.fLast 0 65535) ?_
    apply w_merge ((vIn o.fLast 0 65535) && (decide ((o.fFl.length : Int) ≤ 3)))
    · intro b1 q1
      refine w_split ((vIn o.fLast 0 65535)) (fun h1 => ?_) (fun h1 => ?_)
      · refine w_gT h1 ?_
        refine w_fadr ?_
        refine w_gT h1 ?_
        refine w_ld (c := rowsC encFlight o.fFl) B (Nat.le_of_ble_eq_true rfl) rfl ?_
        refine w_gT h1 ?_
        refine w_len ?_
        refine w_gT h1 ?_
        refine w_bin (v := .sc (.bool (decide ((o.fFl.length : Int) ≤ 3)))) (fun k => rfl) ?_
        refine w_pTb h1 (mAT q1 h1) ?_
        exact rfl
      · refine w_gF h1 ?_
        refine w_gF h1 ?_
        refine w_gF h1 ?_
        refine w_gF h1 ?_
        refine w_pFb h1 (mAF q1 h1) ?_
        exact rfl
    intro b1 q1
    apply w_merge (b1 && (vQueueOk o.fQ))
    · intro b2 q2
      refine w_split (b1) (fun h2 => ?_) (fun h2 => ?_)
      · refine w_gT h2 ?_
        refine w_fadr ?_
        refine w_gT h2 ?_
        refine w_ld (c := rowsC encMsg o.fQ) B (Nat.le_of_ble_eq_true rfl) rfl ?_
        refine w_gT h2 ?_
        refine lw_sc rfl (vcons (Vw_ro _ _ _) vnil) (specQueueF (n + 1) (by omega) _ o.fQ (by assumption) (by assumption)) ?_
        refine w_pTb h2 (mAT q2 h2) ?_
        exact rfl
      · refine w_gF h2 ?_
        refine w_gF h2 ?_
        refine w_gF h2 ?_
        refine w_pFb h2 (mAF q2 h2) ?_
        exact rfl
    intro b2 q2
    exact w_endB (by (try clear ih); (try clear hlt); (try clear hix); (try clear hm); (try clear hmem); (try clear hpl); (try clear hsl); (try clear hlen); (try clear hqn); (try clear hqs); (try clear hs); (try clear B); (try clear B1); (try clear B2); (try clear hl); subst_vars; rw [goOs]; first | done | (cases h1 : vIn x.fId 1 65535 <;> cases h2 : vMsgOk x.fM <;> cases h3 : vSt x <;> cases h4 : flPre pre x <;> simp [h1, h2, h3, h4] at *))
  | x :: r, pre, m + 1, H, B, hl, hm => by
    have hpl : pre.length < o.fFl.length := by rw [hl]; simp
    have hlt : decide ((pre.length : Int) < (o.fFl.length : Int)) = true := by simpa using hpl
    have hmem : x ∈ o.fFl := by rw [hl]; simp
    have hix : IntKind.i64.wrap ((pre.length : Int) + 1) = (((pre ++ [x]).length : Nat) : Int) := by
      rw [wrap64 _ (by omega) (by omega), List.length_append, List.length_singleton]
      rfl
    try have hs : x.fM.fTopic.size ≤ 1048576 := hsl x (by assumption)
    show (PR (n + 8) AV).fadr _ _ _ = _
    simp only [PR_box, PR_new, PR_fadr, PR_load, PR_store, PR_bin, PR_binB, PR_binA, PR_un, PR_cond, PR_guard, PR_pick, PR_len, PR_lenS, PR_iadr, PR_idx, PR_slice, PR_sliceS, PR_newSl, PR_fill, PR_make, PR_app, PR_cvI, PR_cvBS]
    refine w_fadr ?_
    refine w_ld (c := rowsC encFlight o.fFl) B (Nat.le_of_ble_eq_true rfl) rfl ?_
    refine w_len ?_
    refine w_bin (v := .sc (.bool (decide ((pre.length : Int) < (o.fFl.length : Int))))) (fun k => rfl) ?_
    refine w_cT hlt ?_
    refine w_fadr ?_
    refine w_ld (c := rowsC encFlight o.fFl) B (Nat.le_of_ble_eq_true rfl) rfl ?_
    refine w_iadrE lenFlight (by decide) hl ?_
    refine w_fadr_rp ?_
    refine w_ld_rp (c := .sc (.int .i64 x.fId)) rfl ?_
    refine lw_sc rfl (vcons (Vw_sc _ _) (vcons (Vw_sc _ _) (vcons (Vw_sc _ _) vnil))) (l1InF (n + 7) _ x.fId 1 65535) ?_
    refine w_not ?_
    apply w_merge ((!(vIn x.fId 1 65535)) || (!(vMsgOk x.fM)))
    · intro b1 q1
      refine w_split ((vIn x.fId 1 65535)) (fun h1 => ?_) (fun h1 => ?_)
      · refine w_hT (nF h1) ?_
        refine w_fadr ?_
        refine w_hT (nF h1) ?_
        refine w_ld (c := rowsC encFlight o.fFl) B (Nat.le_of_ble_eq_true rfl) rfl ?_
        refine w_hT (nF h1) ?_
        refine w_hT (nF h1) ?_
        refine w_iadrE lenFlight (by decide) hl ?_
        refine w_hT (nF h1) ?_
        refine w_fadr_rp ?_
        refine w_hT (nF h1) ?_
        refine w_ldA_rp (ds := encMsg x.fM) (Nat.le_of_ble_eq_true rfl) rfl ?_
        refine w_hT (nF h1) ?_
        refine lw_sc rfl (vcons (Vw_agg _ (flMsg _)) vnil) (specMsgF (n + 2) (by omega) _ x.fM (by assumption)) ?_
        refine w_hT (nF h1) ?_
        refine w_not ?_
        refine w_pFb (nF h1) (mOF q1 (nF h1)) ?_
        exact rfl
      · refine w_hF (nT h1) ?_
        refine w_hF (nT h1) ?_
        refine w_hF (nT h1) ?_
        refine w_hF (nT h1) ?_
        refine w_hF (nT h1) ?_
        refine w_hF (nT h1) ?_
        refine w_hF (nT h1) ?_
        refine w_hF (nT h1) ?_
        refine w_pTb (nT h1) (mOT q1 (nT h1)) ?_
        exact rfl
    intro b1 q1
    apply w_merge (b1 || (!(vSt x)))
    · intro b2 q2
      refine w_split (b1) (fun h2 => ?_) (fun h2 => ?_)
      · refine w_hF h2 ?_
        refine w_hF h2 ?_
        refine w_hF h2 ?_
        refine w_hF h2 ?_
        refine w_hF h2 ?_
        refine w_hF h2 ?_
        refine w_hF h2 ?_
        refine w_pTb h2 (mOT q2 h2) ?_
        exact rfl
      · refine w_hT h2 ?_
        refine w_fadr ?_
        refine w_hT h2 ?_
        refine w_ld (c := rowsC encFlight o.fFl) B (Nat.le_of_ble_eq_true rfl) rfl ?_
        refine w_hT h2 ?_
        refine w_hT h2 ?_
        refine w_iadrE lenFlight (by decide) hl ?_
        refine w_hT h2 ?_
        refine w_ldA_rp (ds := encFlight x) (Nat.le_of_ble_eq_true rfl) rfl ?_
        refine w_hT h2 ?_
        refine lw_sc rfl (vcons (Vw_agg _ (flFlight _)) vnil) (l13StF (n + 7) _ x) ?_
        refine w_hT h2 ?_
        refine w_not ?_
        refine w_pFb h2 (mOF q2 h2) ?_
        exact rfl
    intro b2 q2
    refine w_split (b2) (fun h3 => ?_) (fun h3 => ?_)
    · refine w_cT h3 ?_
      exact w_endB (by (try clear ih); (try clear hlt); (try clear hix); (try clear hm); (try clear hmem); (try clear hpl); (try clear hsl); (try clear hlen); (try clear hqn); (try clear hqs); (try clear hs); (try clear B); (try clear B1); (try clear B2); (try clear hl); subst_vars; rw [goOs]; first | done | (cases h1 : vIn x.fId 1 65535 <;> cases h2 : vMsgOk x.fM <;> cases h3 : vSt x <;> cases h4 : flPre pre x <;> simp [h1, h2, h3, h4] at *))
    · refine w_cF h3 ?_
      have key := fun g0 kk => specFl_in (n + 8) ty o hlen x g0 kk i1 H B pre r hl pre [] (n + 8) rfl (by omega)
      simp only [List.length_nil, Int.natCast_zero] at key
      rw [key]
      clear key
      cases hpre : flPre pre x
      · simp only [Bool.false_eq_true, if_false]
        rw [hix]
        refine (specFl_loop n hn ty o hlen hsl hqn hqs i1 r (pre ++ [x]) m _ B (by rw [hl]; simp) (by simpa using hm)).trans (congrArg (fun b => some (AV.sc (Value.bool b))) ?_)
        (try clear ih); (try clear hlt); (try clear hix); (try clear hm); (try clear hmem); (try clear hpl); (try clear hsl); (try clear hlen); (try clear hqn); (try clear hqs); (try clear hs); (try clear B); (try clear B1); (try clear B2); (try clear hl); subst_vars; rw [goOs]; first | done | (cases h1 : vIn x.fId 1 65535 <;> cases h2 : vMsgOk x.fM <;> cases h3 : vSt x <;> cases h4 : flPre pre x <;> simp [h1, h2, h3, h4] at *)
      · simp only [if_true]
        exact w_endB (by (try clear ih); (try clear hlt); (try clear hix); (try clear hm); (try clear hmem); (try clear hpl); (try clear hsl); (try clear hlen); (try clear hqn); (try clear hqs); (try clear hs); (try clear B); (try clear B1); (try clear B2); (try clear hl); subst_vars; rw [goOs]; first | done | (cases h1 : vIn x.fId 1 65535 <;> cases h2 : vMsgOk x.fM <;> cases h3 : vSt x <;> cases h4 : flPre pre x <;> simp [h1, h2, h3, h4] at *))
theorem implFl_loop (n : Nat) (hn : 1048576 < n) (ty : Nat) (o : OutV) (hlen : o.fFl.length ≤ 1048576) (hsl : ∀ x ∈ o.fFl, x.fM.fTopic.size ≤ 1048576) (hqn : o.fQ.length ≤ 1048576) (hqs : ∀ x ∈ o.fQ, x.fTopic.size ≤ 1048576) (i1 : Nat) : ∀ (r pre : List FlightV) (m : Nat) (H : Heap) (B : H[i1]? = some ⟨encOut o, true, true⟩), o.fFl = pre ++ r → r.length < m → f25_l0 (PR (n + 9) AV) (n + 9) (fun x H => ownTree ti0 E0.tp ty H x) m (.ptr i1 0) (rowsC encFlight o.fFl) (.sc (.int .i64 (o.fFl.length : Int))) (.sc (.int .i64 pre.length)) H = some (.sc (.bool (goOs o pre r)))
  | [], pre, m + 1, H, B, hl, hm => by
    have hlt : decide ((pre.length : Int) < (o.fFl.length : Int)) = false := by
      rw [hl]
      simp
    show (PR (n + 9) AV).bin _ _ _ _ = _
    simp only [PR_box, PR_new, PR_fadr, PR_load, PR_store, PR_bin, PR_binB, PR_binA, PR_un, PR_cond, PR_guard, PR_pick, PR_len, PR_lenS, PR_iadr, PR_idx, PR_slice, PR_sliceS, PR_newSl, PR_fill, PR_make, PR_app, PR_cvI, PR_cvBS]
    refine w_bin (v := .sc (.bool (decide ((pre.length : Int) < (o.fFl.length : Int))))) (fun k => rfl) ?_
    refine w_cF hlt ?_
    refine w_fadr ?_
    refine w_ld (c := .sc (.int .i64 o.fLast)) B (Nat.le_of_ble_eq_true rfl) rfl ?_
    refine lw_sc rfl (vcons (Vw_sc _ _) vnil) (isWordF (n + 7) _ o.fLast) ?_
    apply w_merge ((vIn o.fLast 0 65535) && (decide ((o.fFl.length : Int) ≤ 3)))
    · intro b1 q1
      refine w_split ((vIn o.fLast 0 65535)) (fun h1 => ?_) (fun h1 => ?_)
      · refine w_gT h1 ?_
        refine w_fadr ?_
        refine w_gT h1 ?_
        refine w_ld (c := rowsC encFlight o.fFl) B (Nat.le_of_ble_eq_true rfl) rfl ?_
        refine w_gT h1 ?_
        refine w_len ?_
        refine w_gT h1 ?_
        refine w_bin (v := .sc (.bool (decide ((o.fFl.length : Int) ≤ 3)))) (fun k => rfl) ?_
        refine w_pTb h1 (mAT q1 h1) ?_
        exact rfl
      · refine w_gF h1 ?_
        refine w_gF h1 ?_
        refine w_gF h1 ?_
        refine w_gF h1 ?_
        refine w_pFb h1 (mAF q1 h1) ?_
        exact rfl
    intro b1 q1
    apply w_merge (b1 && (vQueueOk o.fQ))
    · intro b2 q2
      refine w_split (b1) (fun h2 => ?_) (fun h2 => ?_)
      · refine w_gT h2 ?_
        refine w_fadr ?_
        refine w_gT h2 ?_
        refine w_ld (c := rowsC encMsg o.fQ) B (Nat.le_of_ble_eq_true rfl) rfl ?_
        refine w_gT h2 ?_
        refine lw_sc rfl (vcons (Vw_ro _ _ _) vnil) (implQueueF (n + 1) (by omega) _ o.fQ (by assumption) (by assumption)) ?_
        refine w_pTb h2 (mAT q2 h2) ?_
        exact rfl
      · refine w_gF h2 ?_
        refine w_gF h2 ?_
        refine w_gF h2 ?_
        refine w_pFb h2 (mAF q2 h2) ?_
        exact rfl
    intro b2 q2
    exact w_endB (by (try clear ih); (try clear hlt); (try clear hix); (try clear hm); (try clear hmem); (try clear hpl); (try clear hsl); (try clear hlen); (try clear hqn); (try clear hqs); (try clear hs); (try clear B); (try clear B1); (try clear B2); (try clear hl); subst_vars; rw [goOs]; first | done | (cases h2 : vMsgOk x.fM <;> (try rw [stEq x h2]) <;> cases h1 : vIn x.fId 1 65535 <;> cases h4 : flPre pre x <;> cases h5 : (x.fM.fQos == 0) <;> cases h6 : ((x.fM.fQos == 1) == (x.fSt == 1)) <;> cases h7 : vIn x.fSt 1 3 <;> simp [h1, h2, h4, h5, h6, h7] at * <;> contradiction))
  | x :: r, pre, m + 1, H, B, hl, hm => by
    have hpl : pre.length < o.fFl.length := by rw [hl]; simp
    have hlt : decide ((pre.length : Int) < (o.fFl.length : Int)) = true := by simpa using hpl
    have hmem : x ∈ o.fFl := by rw [hl]; simp
    have hix : IntKind.i64.wrap ((pre.length : Int) + 1) = (((pre ++ [x]).length : Nat) : Int) := by
      rw [wrap64 _ (by omega) (by omega), List.length_append, List.length_singleton]
      rfl
    try have hs : x.fM.fTopic.size ≤ 1048576 := hsl x (by assumption)
    try have hidx := idx_self o pre r x hl
    show (PR (n + 9) AV).bin _ _ _ _ = _
    simp only [PR_box, PR_new, PR_fadr, PR_load, PR_store, PR_bin, PR_binB, PR_binA, PR_un, PR_cond, PR_guard, PR_pick, PR_len, PR_lenS, PR_iadr, PR_idx, PR_slice, PR_sliceS, PR_newSl, PR_fill, PR_make, PR_app, PR_cvI, PR_cvBS]
    refine w_bin (v := .sc (.bool (decide ((pre.length : Int) < (o.fFl.length : Int))))) (fun k => rfl) ?_
    refine w_cT hlt ?_
    refine w_iadrE lenFlight (by decide) hl ?_
    refine w_ldA_rp (ds := encFlight x) (Nat.le_of_ble_eq_true rfl) rfl ?_
    refine lw_put rfl (lenFlight _) (fl_leaf (flFlight _)) fun iB1 B1 => ?_
    replace B := blk_grow B [⟨encFlight x, true, true⟩]
    refine w_fadr ?_
    refine w_ld (c := .sc (.int .i64 x.fId)) B1 (Nat.le_of_ble_eq_true rfl) rfl ?_
    refine lw_sc rfl (vcons (Vw_sc _ _) vnil) (isIdF (n + 7) _ x.fId) ?_
    refine w_not ?_
    apply w_merge ((!(vIn x.fId 1 65535)) || ((idxOf (fun y : FlightV => y.fId == x.fId) o.fFl 0) != (pre.length : Int)))
    · intro b2 q2
      refine w_split ((vIn x.fId 1 65535)) (fun h2 => ?_) (fun h2 => ?_)
      · refine w_hT (nF h2) ?_
        refine w_fadr ?_
        refine w_hT (nF h2) ?_
        refine w_ld (c := rowsC encFlight o.fFl) B (Nat.le_of_ble_eq_true rfl) rfl ?_
        refine w_hT (nF h2) ?_
        refine w_fadr ?_
        refine w_hT (nF h2) ?_
        refine w_ld (c := .sc (.int .i64 x.fId)) B1 (Nat.le_of_ble_eq_true rfl) rfl ?_
        refine w_hT (nF h2) ?_
        refine lw_sc rfl (vcons (Vw_ro _ _ _) (vcons (Vw_sc _ _) vnil)) (flightAtF (n + 6) (by omega) _ o.fFl x.fId hlen) ?_
        refine w_hT (nF h2) ?_
        refine w_hT (nF h2) ?_
        refine w_bin (v := .sc (.bool ((idxOf (fun y : FlightV => y.fId == x.fId) o.fFl 0) != (pre.length : Int)))) (fun k => rfl) ?_
        refine w_pFb (nF h2) (mOF q2 (nF h2)) ?_
        exact rfl
      · refine w_hF (nT h2) ?_
        refine w_hF (nT h2) ?_
        refine w_hF (nT h2) ?_
        refine w_hF (nT h2) ?_
        refine w_hF (nT h2) ?_
        refine w_hF (nT h2) ?_
        refine w_hF (nT h2) ?_
        refine w_pTb (nT h2) (mOT q2 (nT h2)) ?_
        exact rfl
    intro b2 q2
    apply w_merge (b2 || (!(vMsgOk x.fM)))
    · intro b3 q3
      refine w_split (b2) (fun h3 => ?_) (fun h3 => ?_)
      · refine w_hF h3 ?_
        refine w_hF h3 ?_
        refine w_hF h3 ?_
        refine w_hF h3 ?_
        refine w_pTb h3 (mOT q3 h3) ?_
        exact rfl
      · refine w_hT h3 ?_
        refine w_fadr ?_
        refine w_hT h3 ?_
        refine w_ldA (ds := encMsg x.fM) B1 (Nat.le_of_ble_eq_true rfl) rfl ?_
        refine w_hT h3 ?_
        refine lw_sc rfl (vcons (Vw_agg _ (flMsg _)) vnil) (implMsgF (n + 3) (by omega) _ x.fM (by assumption)) ?_
        refine w_hT h3 ?_
        refine w_not ?_
        refine w_pFb h3 (mOF q3 h3) ?_
        exact rfl
    intro b3 q3
    refine w_split (b3) (fun h4 => ?_) (fun h4 => ?_)
    · refine w_cT h4 ?_
      exact w_endB (by (try clear ih); (try clear hlt); (try clear hix); (try clear hm); (try clear hmem); (try clear hpl); (try clear hsl); (try clear hlen); (try clear hqn); (try clear hqs); (try clear hs); (try clear B); (try clear B1); (try clear B2); (try clear hl); subst_vars; rw [goOs]; first | done | (cases h2 : vMsgOk x.fM <;> (try rw [stEq x h2]) <;> cases h1 : vIn x.fId 1 65535 <;> cases h4 : flPre pre x <;> cases h5 : (x.fM.fQos == 0) <;> cases h6 : ((x.fM.fQos == 1) == (x.fSt == 1)) <;> cases h7 : vIn x.fSt 1 3 <;> simp [h1, h2, h4, h5, h6, h7] at * <;> contradiction))
    · refine w_cF h4 ?_
      refine w_fadr ?_
      refine w_fadr ?_
      refine w_ld (c := .sc (.int .i64 x.fM.fQos)) B1 (Nat.le_of_ble_eq_true rfl) rfl ?_
      refine w_bin (v := .sc (.bool (x.fM.fQos == 0))) (fun k => rfl) ?_
      apply w_merge ((x.fM.fQos == 0) || (!((x.fM.fQos == 1) == (x.fSt == 1))))
      · intro b5 q5
        refine w_split ((x.fM.fQos == 0)) (fun h5 => ?_) (fun h5 => ?_)
        · refine w_hF h5 ?_
          refine w_hF h5 ?_
          refine w_hF h5 ?_
          refine w_hF h5 ?_
          refine w_hF h5 ?_
          refine w_hF h5 ?_
          refine w_hF h5 ?_
          refine w_hF h5 ?_
          refine w_pTb h5 (mOT q5 h5) ?_
          exact rfl
        · refine w_hT h5 ?_
          refine w_fadr ?_
          refine w_hT h5 ?_
          refine w_fadr ?_
          refine w_hT h5 ?_
          refine w_ld (c := .sc (.int .i64 x.fM.fQos)) B1 (Nat.le_of_ble_eq_true rfl) rfl ?_
          refine w_hT h5 ?_
          refine w_bin (v := .sc (.bool (x.fM.fQos == 1))) (fun k => rfl) ?_
          refine w_hT h5 ?_
          refine w_fadr ?_
          refine w_hT h5 ?_
          refine w_ld (c := .sc (.int .i64 x.fSt)) B1 (Nat.le_of_ble_eq_true rfl) rfl ?_
          refine w_hT h5 ?_
          refine w_bin (v := .sc (.bool (x.fSt == 1))) (fun k => rfl) ?_
          refine w_hT h5 ?_
          refine w_binB (v := .sc (.bool (!((x.fM.fQos == 1) == (x.fSt == 1))))) (fun k => rfl) ?_
          refine w_pFb h5 (mOF q5 h5) ?_
          exact rfl
      intro b5 q5
      apply w_merge (b5 || (!(vIn x.fSt 1 3)))
      · intro b6 q6
        refine w_split (b5) (fun h6 => ?_) (fun h6 => ?_)
        · refine w_hF h6 ?_
          refine w_hF h6 ?_
          refine w_hF h6 ?_
          refine w_hF h6 ?_
          refine w_pTb h6 (mOT q6 h6) ?_
          exact rfl
        · refine w_hT h6 ?_
          refine w_fadr ?_
          refine w_hT h6 ?_
          refine w_ld (c := .sc (.int .i64 x.fSt)) B1 (Nat.le_of_ble_eq_true rfl) rfl ?_
          refine w_hT h6 ?_
          refine lw_sc rfl (vcons (Vw_sc _ _) (vcons (Vw_sc _ _) (vcons (Vw_sc _ _) vnil))) (withinF (n + 8) _ x.fSt 1 3) ?_
          refine w_hT h6 ?_
          refine w_not ?_
          refine w_pFb h6 (mOF q6 h6) ?_
          exact rfl
      intro b6 q6
      refine w_split (b6) (fun h7 => ?_) (fun h7 => ?_)
      · refine w_cT h7 ?_
        exact w_endB (by (try clear ih); (try clear hlt); (try clear hix); (try clear hm); (try clear hmem); (try clear hpl); (try clear hsl); (try clear hlen); (try clear hqn); (try clear hqs); (try clear hs); (try clear B); (try clear B1); (try clear B2); (try clear hl); subst_vars; rw [goOs]; first | done | (cases h2 : vMsgOk x.fM <;> (try rw [stEq x h2]) <;> cases h1 : vIn x.fId 1 65535 <;> cases h4 : flPre pre x <;> cases h5 : (x.fM.fQos == 0) <;> cases h6 : ((x.fM.fQos == 1) == (x.fSt == 1)) <;> cases h7 : vIn x.fSt 1 3 <;> simp [h1, h2, h4, h5, h6, h7] at * <;> contradiction))
      · refine w_cF h7 ?_
        refine w_bin (v := .sc (.int .i64 (IntKind.i64.wrap ((pre.length : Int) + 1)))) (fun k => rfl) ?_
        rw [hix]
        refine (implFl_loop n hn ty o hlen hsl hqn hqs i1 r (pre ++ [x]) m _ B (by rw [hl]; simp) (by simpa using hm)).trans (congrArg (fun b => some (AV.sc (Value.bool b))) ?_)
        (try clear ih); (try clear hlt); (try clear hix); (try clear hm); (try clear hmem); (try clear hpl); (try clear hsl); (try clear hlen); (try clear hqn); (try clear hqs); (try clear hs); (try clear B); (try clear B1); (try clear B2); (try clear hl); subst_vars; rw [goOs]; first | done | (cases h2 : vMsgOk x.fM <;> (try rw [stEq x h2]) <;> cases h1 : vIn x.fId 1 65535 <;> cases h4 : flPre pre x <;> cases h5 : (x.fM.fQos == 0) <;> cases h6 : ((x.fM.fQos == 1) == (x.fSt == 1)) <;> cases h7 : vIn x.fSt 1 3 <;> simp [h1, h2, h4, h5, h6, h7] at * <;> contradiction)
theorem goOs_go (o : OutV) : ∀ (r pre : List FlightV), goOs o pre r = (flGo pre r && (vIn o.fLast 0 65535 && decide ((o.fFl.length : Int) ≤ 3) && vQueueOk o.fQ))
  | [], pre => by rw [goOs, flGo, Bool.true_and]
  | x :: r, pre => by
    rw [goOs, flGo, goOs_go o r]
    simp only [Bool.and_assoc]
def msgD : MsgV := ⟨⟨#[]⟩, ⟨#[]⟩, 0, false⟩
theorem w_iadrH {α β : Type} {r : Option β} {w : Nat} {enc : α → List AV} {l : List α} {d : α} {K : AV → Option β} (hw : ∀ x, (enc x).length = w) (h0 : 0 < w) (hl : 0 < l.length) (h : K (.rp (enc (l.headD d) ++ (l.tail.map enc).flatten)) = r) : pIadr w (rowsC enc l) (.sc (.int .i64 0)) (fun t => K t) = r := by
  refine w_iadr0 hw h0 hl fun x t e => ?_
  subst e
  exact h
theorem specOutF (n : Nat) (hn : 1048576 < n) (ty : Nat) (o : OutV) (b0 : wtOut o ≤ 1048576) : tree E0 (n + 10) ty 23 [.agg (encOut o)] = some (.sc (.bool (vOutOk o))) := by
  obtain ⟨⟨h1, h2⟩, h3, h4⟩ := fl_hyp o b0
  rw [tree_def, f23_eq, f23]
  simp only [PR_box]
  refine w_box (flOut _) fun i e hi => ?_
  have key := specFl_loop (n + 1) (by omega) ty o h1 h2 h3 h4 i o.fFl [] (n + 9) _ hi rfl (by omega)
  rw [goOs_go] at key
  exact key
theorem implOutF (n : Nat) (hn : 1048576 < n) (ty : Nat) (o : OutV) (b0 : wtOut o ≤ 1048576) : tree E0 (n + 10) ty 25 [.agg (encOut o)] = some (.sc (.bool (vOutOk o))) := by
  obtain ⟨⟨h1, h2⟩, h3, h4⟩ := fl_hyp o b0
  rw [tree_def, f25_eq, f25]
  simp only [PR_box, PR_fadr, PR_load, PR_len]
  refine w_box (flOut _) fun i e hi => ?_
  refine w_fadr ?_
  refine w_ld (c := rowsC encFlight o.fFl) hi (Nat.le_of_ble_eq_true rfl) rfl ?_
  refine w_len ?_
  have key := implFl_loop n hn ty o h1 h2 h3 h4 i o.fFl [] (n + 9) _ hi rfl (by omega)
  rw [goOs_go] at key
  exact key
theorem specF_OutOk (n : Nat) (hn : 1048576 < n) (o : OutV) (k0 : okOut o) (b0 : wtOut o ≤ 1048576) : tree E0 (n + 10) 4 23 [.agg (encOut o)] = some (.sc (.bool (vOutOk o))) := specOutF n hn _ o b0
theorem implF_OutOk (n : Nat) (hn : 1048576 < n) (o : OutV) (k0 : okOut o) (b0 : wtOut o ≤ 1048576) : tree E0 (n + 10) 4 25 [.agg (encOut o)] = some (.sc (.bool (vOutOk o))) := implOutF n hn _ o b0

end Go.Proofs.YtpcgppelelfmiaaDoor.Abs
