/- Push, as both sides have it. -/
import Derived.Test.YtpcgppelelfmiaaDoorVCopy
import Derived.Test.YtpcgppelelfmiaaDoorMk
import Derived.Test.YtpcgppelelfmiaaDoorVO
set_option linter.unusedVariables false
set_option linter.unusedSimpArgs false
set_option maxRecDepth 100000
namespace Go.Proofs.YtpcgppelelfmiaaDoor.Abs
open Go

def vPush (q : List MsgV) (m : MsgV) : List MsgV := if (vQueueOk q && vMsgOk m) = true ∧ q.length < 6 then q ++ [m] else q
def vPushC (q : List MsgV) (m : MsgV) : Int := if (vQueueOk q && vMsgOk m) = true then (if q.length < 6 then 0 else if m.fQos == 0 then 1 else 2) else 2

theorem tup_own {ty : Nat} {H : Heap} {ts : List Nat} {raw cells : List AV} {ids : List Nat} (hts : E0.tp ty = some ts) (h : ownL (ownT ti0 E0.tp H 7) ts raw = some (cells, ids)) (hn : ids.Nodup) : ownTree ti0 E0.tp ty H (.tup raw) = some (.tup cells) := by
  rw [ownTree, ownT_tup, hts, Option.bind_some, h, Option.bind_some, Option.bind_some, if_pos hn]
/-- What is laid behind a heap is a slice of the call's own. -/
theorem ownS_inst {α : Type} {H : Heap} {w tyS : Nat} {cty : List Nat} {enc : α → List AV} (hw : ∀ x, (enc x).length = w) (hty : ∃ i j, ti0 tyS = some i ∧ ti0 i.elem = some j ∧ j.size = w ∧ j.cty = cty) (hc : cty.length = w) (hok : ∀ x, okLW (okW ti0 E0.tp 6) cty (enc x)) (l : List α) :
    OwnS 6 (H ++ (instT ti0 E0.tp H.length tyS (rowsC enc l)).2) w cty (instT ti0 E0.tp H.length tyS (rowsC enc l)).1 l.length (l.map enc).flatten := by
  obtain ⟨i, j, h1, h2, rfl, rfl⟩ := hty
  have hi : instT ti0 E0.tp H.length tyS (rowsC enc l) = (.sl H.length 0 l.length j.size, ⟨(instL ti0 E0.tp (H.length + 1) (List.replicate l.length j.cty).flatten (l.map enc).flatten).1, true, true⟩ :: (instL ti0 E0.tp (H.length + 1) (List.replicate l.length j.cty).flatten (l.map enc).flatten).2) := by
    show instT ti0 E0.tp H.length tyS (.ro l.length (l.map enc).flatten) = _
    simp only [instT, h1, Option.bind_some, h2, Option.getD_some]
  rw [hi]
  simp only
  generalize hQ : instL ti0 E0.tp (H.length + 1) (List.replicate l.length j.cty).flatten (l.map enc).flatten = Q
  have lQ : Lies (H ++ ⟨Q.1, true, true⟩ :: Q.2) (H.length + 1) Q.2 := by
    have := Lies_end (H ++ [⟨Q.1, true, true⟩]) Q.2
    rw [List.length_append, List.length_singleton, List.append_assoc] at this
    exact this
  have ho : OwnC 6 (H ++ ⟨Q.1, true, true⟩ :: Q.2) (List.replicate l.length j.cty).flatten Q.1 (l.map enc).flatten (List.range' (H.length + 1) Q.2.length) := by
    have := own_instL (H := H ++ ⟨Q.1, true, true⟩ :: Q.2) (fun ty t N h h' _ => own_inst 6 ty t N h h') (List.replicate l.length j.cty).flatten (l.map enc).flatten (H.length + 1) (okLW_rows l fun x _ => hok x) (by rw [hQ]; exact lQ) (instL_live _ _ _)
    rw [hQ] at this
    exact this
  refine .inr ⟨H.length, Q.1, _, rfl, get_at _ _ _, by rw [← hQ, instL_len, rows_len hw], ho, ?_⟩
  rw [List.nodup_cons]
  refine ⟨fun hm => ?_, List.nodup_range'⟩
  rw [List.mem_range'_1] at hm
  omega
theorem own2 {H : Heap} {tyT : Nat} {k : Nat} {x : AV} {cells : List AV} {c : Int} (hts : E0.tp tyT = some [34, 3]) (h : OwnS 6 H 4 ctyMsg x k cells) : ownTree ti0 E0.tp tyT H (.tup [x, .sc (.int .i64 c)]) = some (.tup [.ro k cells, .sc (.int .i64 c)]) := by
  obtain ⟨ids, ho, hno⟩ := own_res (d := 6) (tyS := 34) tyMsgS h
  refine tup_own hts (ids := ids) ?_ hno
  simp only [ownL, ho, ownT_sc, Option.bind_some, List.append_nil]

theorem specF_Push (n : Nat) (hn : 1048576 < n) (x0 : List MsgV) (x1 : MsgV) (k0 : x0.length ≤ 9223372036854775807 ∧ ∀ z ∈ x0, okMsg z) (k1 : okMsg x1) (b0 : wtL wtMsg x0 ≤ 1048576) (b1 : wtMsg x1 ≤ 1048576) : tree E0 (n + 8) 70 39 [rowsC encMsg x0, .agg (encMsg x1)] = some (.tup [rowsC encMsg (vPush x0 x1), .sc (.int .i64 (vPushC x0 x1))]) := by
  obtain ⟨hlen, htop⟩ := queue_hyp x0 b0
  have hsm := (smwS smMsg smwMsg x0 b0).2
  have hs : ∀ x ∈ x0, x.fBody.size ≤ 1048576 := fun x hx => (hsm x hx).1
  have hm : x1.fBody.size ≤ 1048576 := (smwMsg x1 b1).1
  have ht : x1.fTopic.size ≤ 1048576 := by unfold wtMsg at b1; omega
  rw [tree_def, f39_eq, f39]
  simp only [PR_box, PR_un, PR_guard, PR_load, PR_pick, PR_cond, PR_len, PR_bin, PR_fadr, PR_fill, PR_newSl, PR_app]
  refine w_box (flMsg _) fun i e hi => ?_
  rw [PR_call (vs := [rowsC encMsg x0]) rfl (vcons (Vw_ro _ _ _) vnil) (l12CopyF (n + 4) (by omega) x0 hlen hs)]
  have hO := ownS_inst (H := [] ++ [⟨encMsg x1, true, true⟩]) lenMsg tyMsgS rfl (okWMsg 4) x0
  replace hi := blk_grow hi (instT ti0 E0.tp ([] ++ [⟨encMsg x1, true, true⟩] : Heap).length 34 (rowsC encMsg x0)).2
  generalize (instT ti0 E0.tp ([] ++ [⟨encMsg x1, true, true⟩] : Heap).length 34 (rowsC encMsg x0)).1 = y at hO ⊢
  generalize ([] ++ [⟨encMsg x1, true, true⟩] ++ (instT ti0 E0.tp ([] ++ [⟨encMsg x1, true, true⟩] : Heap).length 34 (rowsC encMsg x0)).2 : Heap) = G at hO hi ⊢
  refine lw_sc rfl (vcons (Vw_ro _ _ _) vnil) (specQueueF n hn _ x0 hlen htop) ?_
  refine w_not ?_
  cases hq : vQueueOk x0
  · refine w_hF rfl ?_
    refine w_hF rfl ?_
    refine w_hF rfl ?_
    refine w_pT rfl ?_
    refine w_cT rfl ?_
    have e1 : vPush x0 x1 = x0 := by simp [vPush, hq]
    have e2 : vPushC x0 x1 = 2 := by simp [vPushC, hq]
    rw [e1, e2]
    exact own2 rfl hO
  · refine w_hT rfl ?_
    refine lw_ld hi (lenMsg _) ?_
    refine w_hT rfl ?_
    refine lw_sc rfl (vcons (Vw_agg _ (flMsg _)) vnil) (specMsgF (n + 1) (by omega) _ x1 ht) ?_
    refine w_hT rfl ?_
    refine w_not ?_
    refine w_pF rfl ?_
    cases hmk : vMsgOk x1
    · refine w_cT rfl ?_
      have e1 : vPush x0 x1 = x0 := by simp [vPush, hq, hmk]
      have e2 : vPushC x0 x1 = 2 := by simp [vPushC, hq, hmk]
      rw [e1, e2]
      exact own2 rfl hO
    · refine w_cF rfl ?_
      refine w_len ?_
      refine w_bin (v := .sc (.bool ((x0.length : Int) == 6))) (fun k => rfl) ?_
      have hl6 : x0.length ≤ 6 := by
        unfold vQueueOk at hq
        simp at hq
        omega
      by_cases h6 : x0.length = 6
      · refine w_cT (by simp [h6]) ?_
        refine w_fadr ?_
        refine w_ld (c := .sc (.int .i64 x1.fQos)) hi (Nat.le_of_ble_eq_true rfl) rfl ?_
        refine w_bin (v := .sc (.bool (x1.fQos == 0))) (fun k => rfl) ?_
        have e1 : vPush x0 x1 = x0 := by simp [vPush, h6]
        rw [e1]
        cases hz : (x1.fQos == 0)
        · refine w_cF rfl ?_
          have e2 : vPushC x0 x1 = 2 := by simp [vPushC, h6, hq, hmk, hz]
          rw [e2]
          exact own2 rfl hO
        · refine w_cT rfl ?_
          have e2 : vPushC x0 x1 = 1 := by simp [vPushC, h6, hq, hmk, hz]
          rw [e2]
          exact own2 rfl hO
      · refine w_cF (by simp; omega) ?_
        refine lw_ld hi (lenMsg _) ?_
        have e1 : vPush x0 x1 = x0 ++ [x1] := by simp [vPush, hq, hmk]; omega
        have e2 : vPushC x0 x1 = 0 := by simp [vPushC, hq, hmk]; omega
        rw [e1, e2]
        have hst := fun K h => copy_step (β := AV) (n := n + 7) (X0 := []) (bytes := 56) (z := zzMsg) (K := K) (r := some (.tup [rowsC encMsg (x0 ++ [x1]), .sc (.int .i64 0)])) hO rfl (vcons (Vw_agg _ (flMsg x1)) vnil) (l12MsgF (n + 6) x1 hm) tyMsg (okWMsg 4 x1) (flMsg x1) (lenMsg x1) rfl (by omega) h
        simp only [List.append_nil] at hst
        refine hst _ fun x' H' hx' => ?_
        have := own2 (tyT := 70) (c := 0) rfl hx'
        rw [show rowsC encMsg (x0 ++ [x1]) = .ro (x0.length + 1) ((x0.map encMsg).flatten ++ encMsg x1) by
          show AV.ro _ _ = _
          simp]
        exact this
theorem implF_Push (n : Nat) (hn : 1048576 < n) (x0 : List MsgV) (x1 : MsgV) (k0 : x0.length ≤ 9223372036854775807 ∧ ∀ z ∈ x0, okMsg z) (k1 : okMsg x1) (b0 : wtL wtMsg x0 ≤ 1048576) (b1 : wtMsg x1 ≤ 1048576) : tree E0 (n + 9) 70 40 [rowsC encMsg x0, .agg (encMsg x1)] = some (.tup [rowsC encMsg (vPush x0 x1), .sc (.int .i64 (vPushC x0 x1))]) := by
  obtain ⟨hlen, htop⟩ := queue_hyp x0 b0
  have hsm := (smwS smMsg smwMsg x0 b0).2
  have hs : ∀ x ∈ x0, x.fBody.size ≤ 1048576 := fun x hx => (hsm x hx).1
  have hm : x1.fBody.size ≤ 1048576 := (smwMsg x1 b1).1
  have ht : x1.fTopic.size ≤ 1048576 := by unfold wtMsg at b1; omega
  rw [tree_def, f40_eq, f40]
  simp only [PR_box, PR_un, PR_guard, PR_load, PR_pick, PR_cond, PR_len, PR_bin, PR_fadr, PR_fill, PR_newSl, PR_app]
  refine w_box (flMsg _) fun i e hi => ?_
  rw [PR_call (vs := [rowsC encMsg x0]) rfl (vcons (Vw_ro _ _ _) vnil) (copyMsgsF (n + 5) (by omega) x0 hlen hs)]
  have hO := ownS_inst (H := [] ++ [⟨encMsg x1, true, true⟩]) lenMsg tyMsgS rfl (okWMsg 4) x0
  replace hi := blk_grow hi (instT ti0 E0.tp ([] ++ [⟨encMsg x1, true, true⟩] : Heap).length 34 (rowsC encMsg x0)).2
  generalize (instT ti0 E0.tp ([] ++ [⟨encMsg x1, true, true⟩] : Heap).length 34 (rowsC encMsg x0)).1 = y at hO ⊢
  generalize ([] ++ [⟨encMsg x1, true, true⟩] ++ (instT ti0 E0.tp ([] ++ [⟨encMsg x1, true, true⟩] : Heap).length 34 (rowsC encMsg x0)).2 : Heap) = G at hO hi ⊢
  refine lw_sc rfl (vcons (Vw_ro _ _ _) vnil) (implQueueF n hn _ x0 hlen htop) ?_
  refine w_not ?_
  cases hq : vQueueOk x0
  · refine w_hF rfl ?_
    refine w_hF rfl ?_
    refine w_hF rfl ?_
    refine w_pT rfl ?_
    refine w_cT rfl ?_
    have e1 : vPush x0 x1 = x0 := by simp [vPush, hq]
    have e2 : vPushC x0 x1 = 2 := by simp [vPushC, hq]
    rw [e1, e2]
    exact own2 rfl hO
  · refine w_hT rfl ?_
    refine lw_ld hi (lenMsg _) ?_
    refine w_hT rfl ?_
    refine lw_sc rfl (vcons (Vw_agg _ (flMsg _)) vnil) (implMsgF (n + 2) (by omega) _ x1 ht) ?_
    refine w_hT rfl ?_
    refine w_not ?_
    refine w_pF rfl ?_
    cases hmk : vMsgOk x1
    · refine w_cT rfl ?_
      have e1 : vPush x0 x1 = x0 := by simp [vPush, hq, hmk]
      have e2 : vPushC x0 x1 = 2 := by simp [vPushC, hq, hmk]
      rw [e1, e2]
      exact own2 rfl hO
    · refine w_cF rfl ?_
      refine w_len ?_
      refine w_bin (v := .sc (.bool (decide ((x0.length : Int) < 6)))) (fun k => rfl) ?_
      by_cases h6 : x0.length < 6
      · refine w_cT (by simp; omega) ?_
        refine lw_ld hi (lenMsg _) ?_
        have e1 : vPush x0 x1 = x0 ++ [x1] := by simp [vPush, hq, hmk, h6]
        have e2 : vPushC x0 x1 = 0 := by simp [vPushC, hq, hmk, h6]
        rw [e1, e2]
        have hst := fun K h => copy_step (β := AV) (n := n + 8) (X0 := []) (bytes := 56) (z := zzMsg) (K := K) (r := some (.tup [rowsC encMsg (x0 ++ [x1]), .sc (.int .i64 0)])) hO rfl (vcons (Vw_agg _ (flMsg x1)) vnil) (copyMsgF (n + 6) (by omega) x1 hm) tyMsg (okWMsg 4 x1) (flMsg x1) (lenMsg x1) rfl (by omega) h
        simp only [List.append_nil] at hst
        refine hst _ fun x' H' hx' => ?_
        have := own2 (tyT := 70) (c := 0) rfl hx'
        rw [show rowsC encMsg (x0 ++ [x1]) = .ro (x0.length + 1) ((x0.map encMsg).flatten ++ encMsg x1) by
          show AV.ro _ _ = _
          simp]
        exact this
      · refine w_cF (by simp; omega) ?_
        refine w_fadr ?_
        refine w_ld (c := .sc (.int .i64 x1.fQos)) hi (Nat.le_of_ble_eq_true rfl) rfl ?_
        refine w_bin (v := .sc (.bool (x1.fQos == 0))) (fun k => rfl) ?_
        have e1 : vPush x0 x1 = x0 := by simp [vPush, h6]
        rw [e1]
        cases hz : (x1.fQos == 0)
        · refine w_cF rfl ?_
          have e2 : vPushC x0 x1 = 2 := by simp [vPushC, h6, hq, hmk, hz]
          rw [e2]
          exact own2 rfl hO
        · refine w_cT rfl ?_
          have e2 : vPushC x0 x1 = 1 := by simp [vPushC, h6, hq, hmk, hz]
          rw [e2]
          exact own2 rfl hO
/-- What is pushed is small. -/
theorem msg_small (m : MsgV) (h : vMsgOk m = true) : wtMsg m ≤ 100 := by
  unfold vMsgOk vTopicOk vTextOk at h
  simp at h
  have e : wtMsg m = m.fTopic.size + (m.fBody.size + 0) := rfl
  omega
theorem queue_small : ∀ (q : List MsgV), q.all vMsgOk = true → wtL wtMsg q ≤ 101 * q.length
  | [], _ => Nat.zero_le _
  | m :: q, h => by
    rw [List.all_cons, Bool.and_eq_true] at h
    have h1 := msg_small m h.1
    have h2 := queue_small q h.2
    have e : wtL wtMsg (m :: q) = 1 + wtMsg m + wtL wtMsg q := rfl
    rw [List.length_cons]
    omega
theorem wt_push (q : List MsgV) (m : MsgV) : wtL wtMsg (q ++ [m]) = wtL wtMsg q + (1 + wtMsg m) := by
  induction q with
  | nil =>
    show 1 + wtMsg m + 0 = 0 + (1 + wtMsg m)
    omega
  | cons x q ih =>
    rw [List.cons_append]
    show 1 + wtMsg x + wtL wtMsg (q ++ [m]) = 1 + wtMsg x + wtL wtMsg q + (1 + wtMsg m)
    rw [ih]
    omega
theorem push_wt (x0 : List MsgV) (x1 : MsgV) (b0 : wtL wtMsg x0 ≤ 1048576) : wtL wtMsg (vPush x0 x1) ≤ wtL wtMsg x0 + 707 ∧ wtL wtMsg (vPush x0 x1) ≤ 1048576 := by
  unfold vPush
  split
  · rename_i h
    obtain ⟨h, h6⟩ := h
    rw [Bool.and_eq_true] at h
    have h1 := msg_small x1 h.2
    have h3 : x0.all vMsgOk = true := by
      have := h.1
      unfold vQueueOk at this
      rw [Bool.and_eq_true] at this
      exact this.1
    have h2 := queue_small x0 h3
    rw [wt_push]
    omega
  · omega
theorem resF_Push_0 (x0 : List MsgV) (x1 : MsgV) (b0 : wtL wtMsg x0 ≤ 1048576) (b1 : wtMsg x1 ≤ 1048576) : wtL wtMsg (vPush x0 x1) ≤ 1048576 ∧ ((vPush x0 x1).length ≤ 1048576 ∧ ∀ y ∈ vPush x0 x1, smMsg y) := ⟨(push_wt x0 x1 b0).2, smwS smMsg smwMsg _ (push_wt x0 x1 b0).2⟩

end Go.Proofs.YtpcgppelelfmiaaDoor.Abs
