/- What is said of QueueOk (written by stmts.py). -/
import Derived.Test.YtpcgppelelfmiaaDoorTypes
import Derived.Test.YtpcgppelelfmiaaDoorWalk
import Derived.Test.YtpcgppelelfmiaaDoorVTopic
set_option linter.unusedVariables false
set_option linter.unusedSimpArgs false
set_option maxRecDepth 100000
namespace Go.Proofs.YtpcgppelelfmiaaDoor.Abs
open Go
theorem okS_of {s : ByteArray} (h : s.size ≤ 1048576) : okS s := Nat.le_trans h (by decide)
theorem specTopicF (n : Nat) (hn : 1048576 < n) (ty : Nat) (s : ByteArray) (hs : s.size ≤ 1048576) : tree E0 (n + 5) ty 53 [.sc (.string s)] = some (.sc (.bool (vTopicOk s))) := by
  rw [tree_def, f53_eq, f53]
  try simp only [PR_box, PR_new, PR_fadr, PR_load, PR_store, PR_bin, PR_binB, PR_binA, PR_un, PR_cond, PR_guard, PR_pick, PR_len, PR_lenS, PR_iadr, PR_idx, PR_slice, PR_sliceS, PR_newSl, PR_fill, PR_make, PR_app, PR_cvI, PR_cvBS]
  refine lw_sc rfl (vcons (Vw_sc _ _) vnil) (specTextF (n + 0) (by omega) _ s) ?_
  apply w_merge ((vTextOk s) && (!(s.toList == (⟨#[]⟩ : ByteArray).toList)))
  · intro b1 q1
    refine w_split ((vTextOk s)) (fun h1 => ?_) (fun h1 => ?_)
    · refine w_gT h1 ?_
      refine w_gT h1 ?_
      refine w_bin (v := .sc (.bool (!(s.toList == (⟨#[]⟩ : ByteArray).toList)))) (fun k => rfl) ?_
      refine w_pTb h1 (mAT q1 h1) ?_
      exact rfl
    · refine w_gF h1 ?_
      refine w_gF h1 ?_
      refine w_pFb h1 (mAF q1 h1) ?_
      exact rfl
  intro b1 q1
  apply w_merge (b1 && (!(vHas s 43)))
  · intro b2 q2
    refine w_split (b1) (fun h2 => ?_) (fun h2 => ?_)
    · refine w_gT h2 ?_
      refine w_gT h2 ?_
      refine lw_sc rfl (vcons (Vw_sc _ _) (vcons (Vw_sc _ _) vnil)) (has43 (n + 3) (by omega) _ s hs) ?_
      refine w_gT h2 ?_
      refine w_not ?_
      refine w_pTb h2 (mAT q2 h2) ?_
      exact rfl
    · refine w_gF h2 ?_
      refine w_gF h2 ?_
      refine w_gF h2 ?_
      refine w_pFb h2 (mAF q2 h2) ?_
      exact rfl
  intro b2 q2
  apply w_merge (b2 && (!(vHas s 35)))
  · intro b3 q3
    refine w_split (b2) (fun h3 => ?_) (fun h3 => ?_)
    · refine w_gT h3 ?_
      refine w_gT h3 ?_
      refine lw_sc rfl (vcons (Vw_sc _ _) (vcons (Vw_sc _ _) vnil)) (has35 (n + 3) (by omega) _ s hs) ?_
      refine w_gT h3 ?_
      refine w_not ?_
      refine w_pTb h3 (mAT q3 h3) ?_
      exact rfl
    · refine w_gF h3 ?_
      refine w_gF h3 ?_
      refine w_gF h3 ?_
      refine w_pFb h3 (mAF q3 h3) ?_
      exact rfl
  intro b3 q3
  apply w_merge (b3 && (decide (((vLevels s).length : Int) ≤ 6)))
  · intro b4 q4
    refine w_split (b3) (fun h4 => ?_) (fun h4 => ?_)
    · refine w_gT h4 ?_
      refine w_gT h4 ?_
      refine lw_list rfl (vcons (Vw_sc _ _) vnil) (specLevelsF (n + 3) (by omega) s hs) fun N5 X5 z5 => ?_
      refine w_gT h4 ?_
      refine w_lenL ?_
      refine w_gT h4 ?_
      refine w_bin (v := .sc (.bool (decide (((vLevels s).length : Int) ≤ 6)))) (fun k => rfl) ?_
      refine w_pTb h4 (mAT q4 h4) ?_
      exact rfl
    · refine w_gF h4 ?_
      refine w_gF h4 ?_
      refine w_gF h4 ?_
      refine w_gF h4 ?_
      refine w_pFb h4 (mAF q4 h4) ?_
      exact rfl
  intro b4 q4
  exact w_endS (by subst_vars; unfold vTopicOk; first | rfl | (unfold vPH; cases vTextOk s <;> cases vHas s 43 <;> cases vHas s 35 <;> simp))
theorem implTopicF (n : Nat) (hn : 1048576 < n) (ty : Nat) (s : ByteArray) (hs : s.size ≤ 1048576) : tree E0 (n + 5) ty 56 [.sc (.string s)] = some (.sc (.bool (vTopicOk s))) := by
  rw [tree_def, f56_eq, f56]
  try simp only [PR_box, PR_new, PR_fadr, PR_load, PR_store, PR_bin, PR_binB, PR_binA, PR_un, PR_cond, PR_guard, PR_pick, PR_len, PR_lenS, PR_iadr, PR_idx, PR_slice, PR_sliceS, PR_newSl, PR_fill, PR_make, PR_app, PR_cvI, PR_cvBS]
  refine lw_ext rfl (vcons (Vw_sc _ _) vnil) (implTextF _ s (okS_of hs)) ?_
  apply w_merge ((vTextOk s) && (!(s.toList == (⟨#[]⟩ : ByteArray).toList)))
  · intro b1 q1
    refine w_split ((vTextOk s)) (fun h1 => ?_) (fun h1 => ?_)
    · refine w_gT h1 ?_
      refine w_gT h1 ?_
      refine w_bin (v := .sc (.bool (!(s.toList == (⟨#[]⟩ : ByteArray).toList)))) (fun k => rfl) ?_
      refine w_pTb h1 (mAT q1 h1) ?_
      exact rfl
    · refine w_gF h1 ?_
      refine w_gF h1 ?_
      refine w_pFb h1 (mAF q1 h1) ?_
      exact rfl
  intro b1 q1
  apply w_merge (b1 && (!(vPH s)))
  · intro b2 q2
    refine w_split (b1) (fun h2 => ?_) (fun h2 => ?_)
    · refine w_gT h2 ?_
      refine w_gT h2 ?_
      refine lw_ext rfl (vcons (Vw_sc _ _) (vcons (Vw_sc _ _) vnil)) (containsF _ s hs) ?_
      refine w_gT h2 ?_
      refine w_not ?_
      refine w_pTb h2 (mAT q2 h2) ?_
      exact rfl
    · refine w_gF h2 ?_
      refine w_gF h2 ?_
      refine w_gF h2 ?_
      refine w_pFb h2 (mAF q2 h2) ?_
      exact rfl
  intro b2 q2
  apply w_merge (b2 && (decide (((vLevels s).length : Int) ≤ 6)))
  · intro b3 q3
    refine w_split (b2) (fun h3 => ?_) (fun h3 => ?_)
    · refine w_gT h3 ?_
      refine w_gT h3 ?_
      refine lw_list rfl (vcons (Vw_sc _ _) vnil) (implLevelsF (n + 3) s hs) fun N4 X4 z4 => ?_
      refine w_gT h3 ?_
      refine w_lenL ?_
      refine w_gT h3 ?_
      refine w_bin (v := .sc (.bool (decide (((vLevels s).length : Int) ≤ 6)))) (fun k => rfl) ?_
      refine w_pTb h3 (mAT q3 h3) ?_
      exact rfl
    · refine w_gF h3 ?_
      refine w_gF h3 ?_
      refine w_gF h3 ?_
      refine w_gF h3 ?_
      refine w_pFb h3 (mAF q3 h3) ?_
      exact rfl
  intro b3 q3
  exact w_endS (by subst_vars; unfold vTopicOk; first | rfl | (unfold vPH; cases vTextOk s <;> cases vHas s 43 <;> cases vHas s 35 <;> simp))
def vMsgOk (m : MsgV) : Bool := vTopicOk m.fTopic && decide ((m.fBody.size : Int) ≤ 40) && vIn m.fQos 0 2
theorem isQosF (n : Nat) (ty : Nat) (x : Int) : tree E0 (n + 2) ty 57 [.sc (.int .i64 x)] = some (.sc (.bool (vIn x 0 2))) := by
  rw [tree_def, f57_eq, f57]
  try simp only [PR_box, PR_new, PR_fadr, PR_load, PR_store, PR_bin, PR_binB, PR_binA, PR_un, PR_cond, PR_guard, PR_pick, PR_len, PR_lenS, PR_iadr, PR_idx, PR_slice, PR_sliceS, PR_newSl, PR_fill, PR_make, PR_app, PR_cvI, PR_cvBS]
  refine lw_sc rfl (vcons (Vw_sc _ _) (vcons (Vw_sc _ _) (vcons (Vw_sc _ _) vnil))) (withinF (n + 0) _ x 0 2) ?_
  exact w_endB (by first | (simp_all [vIn, vTopicOk, vMsgOk]; done) | (rw [Bool.eq_iff_iff]; simp [vIn, vTopicOk, vMsgOk] at *; omega))
theorem specMsgF (n : Nat) (hn : 1048576 < n) (ty : Nat) (m : MsgV) (hs : m.fTopic.size ≤ 1048576) : tree E0 (n + 6) ty 13 [.agg (encMsg m)] = some (.sc (.bool (vMsgOk m))) := by
  rw [tree_def, f13_eq, f13]
  try simp only [PR_box, PR_new, PR_fadr, PR_load, PR_store, PR_bin, PR_binB, PR_binA, PR_un, PR_cond, PR_guard, PR_pick, PR_len, PR_lenS, PR_iadr, PR_idx, PR_slice, PR_sliceS, PR_newSl, PR_fill, PR_make, PR_app, PR_cvI, PR_cvBS]
  refine w_box (flMsg _) fun iB1 eB1 B1 => ?_
  refine w_fadr ?_
  refine w_ld (c := .sc (.string m.fTopic)) B1 (Nat.le_of_ble_eq_true rfl) rfl ?_
  refine lw_sc rfl (vcons (Vw_sc _ _) vnil) (specTopicF (n + 0) (by omega) _ m.fTopic (by assumption)) ?_
  apply w_merge ((vTopicOk m.fTopic) && (decide ((m.fBody.size : Int) ≤ 40)))
  · intro b2 q2
    refine w_split ((vTopicOk m.fTopic)) (fun h2 => ?_) (fun h2 => ?_)
    · refine w_gT h2 ?_
      refine w_fadr ?_
      refine w_gT h2 ?_
      refine w_ld (c := bytesC m.fBody) B1 (Nat.le_of_ble_eq_true rfl) rfl ?_
      refine w_gT h2 ?_
      refine w_len ?_
      refine w_gT h2 ?_
      refine w_bin (v := .sc (.bool (decide ((m.fBody.size : Int) ≤ 40)))) (fun k => rfl) ?_
      refine w_pTb h2 (mAT q2 h2) ?_
      exact rfl
    · refine w_gF h2 ?_
      refine w_gF h2 ?_
      refine w_gF h2 ?_
      refine w_gF h2 ?_
      refine w_pFb h2 (mAF q2 h2) ?_
      exact rfl
  intro b2 q2
  apply w_merge (b2 && (vIn m.fQos 0 2))
  · intro b3 q3
    refine w_split (b2) (fun h3 => ?_) (fun h3 => ?_)
    · refine w_gT h3 ?_
      refine w_fadr ?_
      refine w_gT h3 ?_
      refine w_ld (c := .sc (.int .i64 m.fQos)) B1 (Nat.le_of_ble_eq_true rfl) rfl ?_
      refine w_gT h3 ?_
      refine lw_sc rfl (vcons (Vw_sc _ _) (vcons (Vw_sc _ _) (vcons (Vw_sc _ _) vnil))) (l1InF (n + 4) _ m.fQos 0 2) ?_
      refine w_pTb h3 (mAT q3 h3) ?_
      exact rfl
    · refine w_gF h3 ?_
      refine w_gF h3 ?_
      refine w_gF h3 ?_
      refine w_pFb h3 (mAF q3 h3) ?_
      exact rfl
  intro b3 q3
  exact w_endB (by subst_vars; first | rfl | (simp only [vMsgOk]; done) | (simp only [vMsgOk]; ac_rfl))
theorem implMsgF (n : Nat) (hn : 1048576 < n) (ty : Nat) (m : MsgV) (hs : m.fTopic.size ≤ 1048576) : tree E0 (n + 6) ty 15 [.agg (encMsg m)] = some (.sc (.bool (vMsgOk m))) := by
  rw [tree_def, f15_eq, f15]
  try simp only [PR_box, PR_new, PR_fadr, PR_load, PR_store, PR_bin, PR_binB, PR_binA, PR_un, PR_cond, PR_guard, PR_pick, PR_len, PR_lenS, PR_iadr, PR_idx, PR_slice, PR_sliceS, PR_newSl, PR_fill, PR_make, PR_app, PR_cvI, PR_cvBS]
  refine w_box (flMsg _) fun iB1 eB1 B1 => ?_
  refine w_fadr ?_
  refine w_ld (c := .sc (.string m.fTopic)) B1 (Nat.le_of_ble_eq_true rfl) rfl ?_
  refine lw_sc rfl (vcons (Vw_sc _ _) vnil) (implTopicF (n + 0) (by omega) _ m.fTopic (by assumption)) ?_
  apply w_merge ((vTopicOk m.fTopic) && (decide ((m.fBody.size : Int) ≤ 40)))
  · intro b2 q2
    refine w_split ((vTopicOk m.fTopic)) (fun h2 => ?_) (fun h2 => ?_)
    · refine w_gT h2 ?_
      refine w_fadr ?_
      refine w_gT h2 ?_
      refine w_ld (c := bytesC m.fBody) B1 (Nat.le_of_ble_eq_true rfl) rfl ?_
      refine w_gT h2 ?_
      refine w_len ?_
      refine w_gT h2 ?_
      refine w_bin (v := .sc (.bool (decide ((m.fBody.size : Int) ≤ 40)))) (fun k => rfl) ?_
      refine w_pTb h2 (mAT q2 h2) ?_
      exact rfl
    · refine w_gF h2 ?_
      refine w_gF h2 ?_
      refine w_gF h2 ?_
      refine w_gF h2 ?_
      refine w_pFb h2 (mAF q2 h2) ?_
      exact rfl
  intro b2 q2
  apply w_merge (b2 && (vIn m.fQos 0 2))
  · intro b3 q3
    refine w_split (b2) (fun h3 => ?_) (fun h3 => ?_)
    · refine w_gT h3 ?_
      refine w_fadr ?_
      refine w_gT h3 ?_
      refine w_ld (c := .sc (.int .i64 m.fQos)) B1 (Nat.le_of_ble_eq_true rfl) rfl ?_
      refine w_gT h3 ?_
      refine lw_sc rfl (vcons (Vw_sc _ _) vnil) (isQosF (n + 3) _ m.fQos) ?_
      refine w_pTb h3 (mAT q3 h3) ?_
      exact rfl
    · refine w_gF h3 ?_
      refine w_gF h3 ?_
      refine w_gF h3 ?_
      refine w_pFb h3 (mAF q3 h3) ?_
      exact rfl
  intro b3 q3
  exact w_endB (by subst_vars; first | rfl | (simp only [vMsgOk]; done) | (simp only [vMsgOk]; ac_rfl))
def vQueueOk (l : List MsgV) : Bool := l.all vMsgOk && decide ((l.length : Int) ≤ 6)
theorem all_go {α : Type} (p : α → Bool) (e : Bool) (go : List α → List α → Bool) (h0 : ∀ pre, go pre [] = e) (h1 : ∀ pre x r, go pre (x :: r) = (p x && go (pre ++ [x]) r)) : ∀ (r pre : List α), go pre r = (r.all p && e)
  | [], pre => by rw [h0]; simp
  | x :: r, pre => by rw [h1, all_go p e go h0 h1 r, List.all_cons, Bool.and_assoc]
def goQs (l : List MsgV) : List MsgV → List MsgV → Bool
  | pre, [] => decide ((l.length : Int) ≤ 6)
  | pre, x :: r => vMsgOk x && goQs l (pre ++ [x]) r
theorem specQ_loop (n : Nat) (hn : 1048576 < n) (ty : Nat) (l : List MsgV) (hlen : l.length ≤ 1048576) (hsl : ∀ x ∈ l, x.fTopic.size ≤ 1048576) : ∀ (r pre : List MsgV) (m : Nat) (H : Heap), l = pre ++ r → r.length < m → f18_l0 (PR (n + 6) AV) (n + 6) (fun x H => ownTree ti0 E0.tp ty H x) m (rowsC encMsg l) (.sc (.int .i64 pre.length)) H = some (.sc (.bool (goQs l pre r)))
  | [], pre, m + 1, H, hl, hm => by
    have hlt : decide ((pre.length : Int) < (l.length : Int)) = false := by
      rw [hl]
      simp
    try have hs : x.fTopic.size ≤ 1048576 := hsl x (by assumption)
    show (PR (n + 6) AV).len _ _ = _
    simp only [PR_box, PR_new, PR_fadr, PR_load, PR_store, PR_bin, PR_binB, PR_binA, PR_un, PR_cond, PR_guard, PR_pick, PR_len, PR_lenS, PR_iadr, PR_idx, PR_slice, PR_sliceS, PR_newSl, PR_fill, PR_make, PR_app, PR_cvI, PR_cvBS]
    refine w_len ?_
    refine w_bin (v := .sc (.bool (decide ((pre.length : Int) < (l.length : Int))))) (fun k => rfl) ?_
    refine w_cF hlt ?_
    refine w_len ?_
    refine w_bin (v := .sc (.bool (decide ((l.length : Int) ≤ 6)))) (fun k => rfl) ?_
    exact w_endB (by first | (subst_vars; simp only [goQs]; simp_all; done) | (subst_vars; unfold goQs; simp_all))
  | x :: r, pre, m + 1, H, hl, hm => by
    have hpl : pre.length < l.length := by rw [hl]; simp
    have hlt : decide ((pre.length : Int) < (l.length : Int)) = true := by simpa using hpl
    have hmem : x ∈ l := by rw [hl]; simp
    have hix : IntKind.i64.wrap ((pre.length : Int) + 1) = (((pre ++ [x]).length : Nat) : Int) := by
      rw [wrap64 _ (by omega) (by omega), List.length_append, List.length_singleton]
      rfl
    try have hs : x.fTopic.size ≤ 1048576 := hsl x (by assumption)
    show (PR (n + 6) AV).len _ _ = _
    simp only [PR_box, PR_new, PR_fadr, PR_load, PR_store, PR_bin, PR_binB, PR_binA, PR_un, PR_cond, PR_guard, PR_pick, PR_len, PR_lenS, PR_iadr, PR_idx, PR_slice, PR_sliceS, PR_newSl, PR_fill, PR_make, PR_app, PR_cvI, PR_cvBS]
    refine w_len ?_
    refine w_bin (v := .sc (.bool (decide ((pre.length : Int) < (l.length : Int))))) (fun k => rfl) ?_
    refine w_cT hlt ?_
    refine w_iadrE lenMsg (by decide) hl ?_
    refine w_ldA_rp (ds := encMsg x) (Nat.le_of_ble_eq_true rfl) rfl ?_
    refine lw_sc rfl (vcons (Vw_agg _ (flMsg _)) vnil) (specMsgF (n + 0) (by omega) _ x (by assumption)) ?_
    refine w_not ?_
    refine w_split ((vMsgOk x)) (fun h1 => ?_) (fun h1 => ?_)
    · refine w_cF (nF h1) ?_
      refine w_bin (v := .sc (.int .i64 (IntKind.i64.wrap ((pre.length : Int) + 1)))) (fun k => rfl) ?_
      rw [hix]
      refine (specQ_loop n hn ty l hlen hsl r (pre ++ [x]) m _  (by rw [hl]; simp) (by simpa using hm)).trans (congrArg (fun b => some (AV.sc (Value.bool b))) ?_)
      first | (subst_vars; simp only [goQs]; simp_all; done) | (subst_vars; unfold goQs; simp_all)
    · refine w_cT (nT h1) ?_
      exact w_endB (by first | (subst_vars; simp only [goQs]; simp_all; done) | (subst_vars; unfold goQs; simp_all))
def goQi : List MsgV → List MsgV → Bool
  | pre, [] => true
  | pre, x :: r => vMsgOk x && goQi (pre ++ [x]) r
theorem implQ_loop (n : Nat) (hn : 1048576 < n) (ty : Nat) (l : List MsgV) (hlen : l.length ≤ 1048576) (hsl : ∀ x ∈ l, x.fTopic.size ≤ 1048576) : ∀ (r pre : List MsgV) (m : Nat) (H : Heap), l = pre ++ r → r.length < m → f59_l0 (PR (n + 6) AV) (n + 6) (fun x H => ownTree ti0 E0.tp ty H x) m (rowsC encMsg l) (.sc (.int .i64 (l.length : Int))) (.sc (.int .i64 pre.length)) H = some (.sc (.bool (goQi pre r)))
  | [], pre, m + 1, H, hl, hm => by
    have hlt : decide ((pre.length : Int) < (l.length : Int)) = false := by
      rw [hl]
      simp
    try have hs : x.fTopic.size ≤ 1048576 := hsl x (by assumption)
    show (PR (n + 6) AV).bin _ _ _ _ = _
    simp only [PR_box, PR_new, PR_fadr, PR_load, PR_store, PR_bin, PR_binB, PR_binA, PR_un, PR_cond, PR_guard, PR_pick, PR_len, PR_lenS, PR_iadr, PR_idx, PR_slice, PR_sliceS, PR_newSl, PR_fill, PR_make, PR_app, PR_cvI, PR_cvBS]
    refine w_bin (v := .sc (.bool (decide ((pre.length : Int) < (l.length : Int))))) (fun k => rfl) ?_
    refine w_cF hlt ?_
    exact w_endB (by first | (subst_vars; simp only [goQi]; simp_all; done) | (subst_vars; unfold goQi; simp_all))
  | x :: r, pre, m + 1, H, hl, hm => by
    have hpl : pre.length < l.length := by rw [hl]; simp
    have hlt : decide ((pre.length : Int) < (l.length : Int)) = true := by simpa using hpl
    have hmem : x ∈ l := by rw [hl]; simp
    have hix : IntKind.i64.wrap ((pre.length : Int) + 1) = (((pre ++ [x]).length : Nat) : Int) := by
      rw [wrap64 _ (by omega) (by omega), List.length_append, List.length_singleton]
      rfl
    try have hs : x.fTopic.size ≤ 1048576 := hsl x (by assumption)
    show (PR (n + 6) AV).bin _ _ _ _ = _
    simp only [PR_box, PR_new, PR_fadr, PR_load, PR_store, PR_bin, PR_binB, PR_binA, PR_un, PR_cond, PR_guard, PR_pick, PR_len, PR_lenS, PR_iadr, PR_idx, PR_slice, PR_sliceS, PR_newSl, PR_fill, PR_make, PR_app, PR_cvI, PR_cvBS]
    refine w_bin (v := .sc (.bool (decide ((pre.length : Int) < (l.length : Int))))) (fun k => rfl) ?_
    refine w_cT hlt ?_
    refine w_iadrE lenMsg (by decide) hl ?_
    refine w_ldA_rp (ds := encMsg x) (Nat.le_of_ble_eq_true rfl) rfl ?_
    refine lw_put rfl (lenMsg _) (fl_leaf (flMsg _)) fun iB1 B1 => ?_
    refine w_ldA (ds := encMsg x) B1 (Nat.le_of_ble_eq_true rfl) rfl ?_
    refine lw_sc rfl (vcons (Vw_agg _ (flMsg _)) vnil) (implMsgF (n + 0) (by omega) _ x (by assumption)) ?_
    refine w_not ?_
    refine w_split ((vMsgOk x)) (fun h2 => ?_) (fun h2 => ?_)
    · refine w_cF (nF h2) ?_
      refine w_bin (v := .sc (.int .i64 (IntKind.i64.wrap ((pre.length : Int) + 1)))) (fun k => rfl) ?_
      rw [hix]
      refine (implQ_loop n hn ty l hlen hsl r (pre ++ [x]) m _  (by rw [hl]; simp) (by simpa using hm)).trans (congrArg (fun b => some (AV.sc (Value.bool b))) ?_)
      first | (subst_vars; simp only [goQi]; simp_all; done) | (subst_vars; unfold goQi; simp_all)
    · refine w_cT (nT h2) ?_
      exact w_endB (by first | (subst_vars; simp only [goQi]; simp_all; done) | (subst_vars; unfold goQi; simp_all))
theorem specQueueF (n : Nat) (hn : 1048576 < n) (ty : Nat) (l : List MsgV) (hlen : l.length ≤ 1048576) (hsl : ∀ x ∈ l, x.fTopic.size ≤ 1048576) : tree E0 (n + 7) ty 18 [rowsC encMsg l] = some (.sc (.bool (vQueueOk l))) := by
  rw [tree_def, f18_eq, f18]
  have key := specQ_loop n hn ty l hlen hsl l [] (n + 6) [] rfl (by omega)
  rw [all_go vMsgOk (decide ((l.length : Int) ≤ 6)) (goQs l) (fun _ => rfl) (fun _ _ _ => rfl) l []] at key
  exact key
theorem implMsgsF (n : Nat) (hn : 1048576 < n) (ty : Nat) (l : List MsgV) (hlen : l.length ≤ 1048576) (hsl : ∀ x ∈ l, x.fTopic.size ≤ 1048576) : tree E0 (n + 7) ty 59 [rowsC encMsg l] = some (.sc (.bool (l.all vMsgOk))) := by
  rw [tree_def, f59_eq, f59]
  simp only [PR_len]
  refine w_len ?_
  have key := implQ_loop n hn ty l hlen hsl l [] (n + 6) [] rfl (by omega)
  rw [all_go vMsgOk true goQi (fun _ => rfl) (fun _ _ _ => rfl) l [], Bool.and_true] at key
  exact key
theorem implQueueF (n : Nat) (hn : 1048576 < n) (ty : Nat) (l : List MsgV) (hlen : l.length ≤ 1048576) (hsl : ∀ x ∈ l, x.fTopic.size ≤ 1048576) : tree E0 (n + 8) ty 20 [rowsC encMsg l] = some (.sc (.bool (vQueueOk l))) := by
  rw [tree_def, f20_eq, f20]
  try simp only [PR_box, PR_new, PR_fadr, PR_load, PR_store, PR_bin, PR_binB, PR_binA, PR_un, PR_cond, PR_guard, PR_pick, PR_len, PR_lenS, PR_iadr, PR_idx, PR_slice, PR_sliceS, PR_newSl, PR_fill, PR_make, PR_app, PR_cvI, PR_cvBS]
  refine w_len ?_
  refine w_bin (v := .sc (.bool (decide ((l.length : Int) ≤ 6)))) (fun k => rfl) ?_
  apply w_merge ((decide ((l.length : Int) ≤ 6)) && (l.all vMsgOk))
  · intro b1 q1
    refine w_split ((decide ((l.length : Int) ≤ 6))) (fun h1 => ?_) (fun h1 => ?_)
    · refine w_gT h1 ?_
      refine w_gT h1 ?_
      refine lw_sc rfl (vcons (Vw_ro _ _ _) vnil) (implMsgsF (n + 0) (by omega) _ l (by assumption) (by assumption)) ?_
      refine w_pTb h1 (mAT q1 h1) ?_
      exact rfl
    · refine w_gF h1 ?_
      refine w_gF h1 ?_
      refine w_pFb h1 (mAF q1 h1) ?_
      exact rfl
  intro b1 q1
  exact w_endB (by subst_vars; unfold vQueueOk; rw [Bool.and_comm])
theorem queue_hyp (l : List MsgV) (b0 : wtL wtMsg l ≤ 1048576) : l.length ≤ 1048576 ∧ ∀ x ∈ l, x.fTopic.size ≤ 1048576 := by
  have h1 := wtL_eq wtMsg l
  refine ⟨by omega, fun x hx => ?_⟩
  have h2 := wtS_mem (wt := wtMsg) hx
  have h3 : wtMsg x = x.fTopic.size + (x.fBody.size + 0) := rfl
  omega
theorem specF_QueueOk (n : Nat) (hn : 1048576 < n) (l : List MsgV) (k0 : l.length ≤ 9223372036854775807 ∧ ∀ z ∈ l, okMsg z) (b0 : wtL wtMsg l ≤ 1048576) : tree E0 (n + 8) 4 18 [rowsC encMsg l] = some (.sc (.bool (vQueueOk l))) := specQueueF (n + 1) (by omega) _ l (queue_hyp l b0).1 (queue_hyp l b0).2
theorem implF_QueueOk (n : Nat) (hn : 1048576 < n) (l : List MsgV) (k0 : l.length ≤ 9223372036854775807 ∧ ∀ z ∈ l, okMsg z) (b0 : wtL wtMsg l ≤ 1048576) : tree E0 (n + 8) 4 20 [rowsC encMsg l] = some (.sc (.bool (vQueueOk l))) := implQueueF n hn _ l (queue_hyp l b0).1 (queue_hyp l b0).2

end Go.Proofs.YtpcgppelelfmiaaDoor.Abs
