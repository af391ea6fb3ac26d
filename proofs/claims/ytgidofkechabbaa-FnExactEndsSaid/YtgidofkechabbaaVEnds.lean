/- What is said of Ends (written by stmts.py). -/
import Derived.Test.YtgidofkechabbaaTypes
import Derived.Test.YtgidofkechabbaaWalk
set_option linter.unusedVariables false
set_option linter.unusedSimpArgs false
namespace Go.Proofs.Ytgidofkechabbaa.Abs
open Go
def vIn (x lo hi : Int) : Bool := decide (lo ≤ x) && decide (x ≤ hi)
theorem l1InF (n : Nat) (ty : Nat) (x : Int) (lo : Int) (hi : Int) : tree E0 (n + 1) ty 46 [.sc (.int .i64 x), .sc (.int .i64 lo), .sc (.int .i64 hi)] = some (.sc (.bool (vIn x lo hi))) := by
  rw [tree_def, f46_eq, f46]
  simp only [PR_box, PR_new, PR_fadr, PR_load, PR_store, PR_bin, PR_binB, PR_un, PR_cond, PR_guard, PR_pick, PR_len, PR_lenS, PR_iadr, PR_idx, PR_slice, PR_sliceS, PR_newSl, PR_fill, PR_make, PR_app, PR_cvI, PR_cvBS]
  refine w_bin (v := .sc (.bool (decide (x ≥ lo)))) (fun k => rfl) ?_
  refine w_split ((decide (x ≥ lo))) (fun h1 => ?_) (fun h1 => ?_)
  · refine w_gT h1 ?_
    refine w_gT h1 ?_
    refine w_gT h1 ?_
    refine w_bin (v := .sc (.bool (decide (x ≤ hi)))) (fun k => rfl) ?_
    refine w_pT h1 ?_
    exact w_endB (by first | (simp_all [vIn]; done) | (rw [Bool.eq_iff_iff]; simp [vIn] at *; omega))
  · refine w_gF h1 ?_
    refine w_gF h1 ?_
    refine w_gF h1 ?_
    refine w_pF h1 ?_
    exact w_endB (by first | (simp_all [vIn]; done) | (rw [Bool.eq_iff_iff]; simp [vIn] at *; omega))
theorem withinF (n : Nat) (ty : Nat) (x : Int) (lo : Int) (hi : Int) : tree E0 (n + 1) ty 47 [.sc (.int .i64 x), .sc (.int .i64 lo), .sc (.int .i64 hi)] = some (.sc (.bool (vIn x lo hi))) := by
  rw [tree_def, f47_eq, f47]
  simp only [PR_box, PR_new, PR_fadr, PR_load, PR_store, PR_bin, PR_binB, PR_un, PR_cond, PR_guard, PR_pick, PR_len, PR_lenS, PR_iadr, PR_idx, PR_slice, PR_sliceS, PR_newSl, PR_fill, PR_make, PR_app, PR_cvI, PR_cvBS]
  refine w_bin (v := .sc (.bool (decide (x ≥ lo)))) (fun k => rfl) ?_
  refine w_split ((decide (x ≥ lo))) (fun h1 => ?_) (fun h1 => ?_)
  · refine w_gT h1 ?_
    refine w_gT h1 ?_
    refine w_gT h1 ?_
    refine w_bin (v := .sc (.bool (decide (x ≤ hi)))) (fun k => rfl) ?_
    refine w_pT h1 ?_
    exact w_endB (by first | (simp_all [vIn]; done) | (rw [Bool.eq_iff_iff]; simp [vIn] at *; omega))
  · refine w_gF h1 ?_
    refine w_gF h1 ?_
    refine w_gF h1 ?_
    refine w_pF h1 ?_
    exact w_endB (by first | (simp_all [vIn]; done) | (rw [Bool.eq_iff_iff]; simp [vIn] at *; omega))
theorem l1SameF (n : Nat) (ty : Nat) (s t : ByteArray) : tree E0 (n + 1) ty 50 [bytesC s, bytesC t] = some (.sc (.bool (s.toList == t.toList))) := by
  rw [tree_def, f50_eq, f50]
  have e : ∀ u : ByteArray, content [] 1 (.ro u.size (bytesAV u)) = some (bytesAV u) := by
    intro u
    simp [content, bytesAV_len]
  have eb : ∀ u : ByteArray, (bytesAV u).mapM byteOf = some u.data.toList := fun u => byteOf_bytes _
  simp only [PR_cvBS, PR_bin, pCvBS, e, eb, Option.bind_some, pBin, binS]
  simp
theorem bytesEqualF (n : Nat) (ty : Nat) (s t : ByteArray) : tree E0 (n + 1) ty 52 [bytesC s, bytesC t] = some (.sc (.bool (s.toList == t.toList))) := by
  rw [tree_def, f52_eq, f52]
  have e : ∀ u : ByteArray, content [] 1 (.ro u.size (bytesAV u)) = some (bytesAV u) := by
    intro u
    simp [content, bytesAV_len]
  have eb : ∀ u : ByteArray, (bytesAV u).mapM byteOf = some u.data.toList := fun u => byteOf_bytes _
  simp only [PR_cvBS, PR_bin, pCvBS, e, eb, Option.bind_some, pBin, binS]
  simp
def vSameMsg (a b : MsgV) : Bool := a.fTopic.toList == b.fTopic.toList && a.fBody.toList == b.fBody.toList && a.fQos == b.fQos && a.fRetain == b.fRetain
theorem specSameMsgF (n : Nat) (ty : Nat) (a : MsgV) (b : MsgV) : tree E0 (n + 2) ty 20 [.agg (encMsg a), .agg (encMsg b)] = some (.sc (.bool (vSameMsg a b))) := by
  rw [tree_def, f20_eq, f20]
  simp only [PR_box, PR_new, PR_fadr, PR_load, PR_store, PR_bin, PR_binB, PR_un, PR_cond, PR_guard, PR_pick, PR_len, PR_lenS, PR_iadr, PR_idx, PR_slice, PR_sliceS, PR_newSl, PR_fill, PR_make, PR_app, PR_cvI, PR_cvBS]
  refine w_box (flMsg _) fun iB1 eB1 B1 => ?_
  refine w_box (flMsg _) fun iB2 eB2 B2 => ?_
  replace B1 := blk_grow B1 [⟨encMsg b, true, true⟩]
  refine w_fadr ?_
  refine w_ld (c := .sc (.string a.fTopic)) B1 (Nat.le_of_ble_eq_true rfl) rfl ?_
  refine w_fadr ?_
  refine w_ld (c := .sc (.string b.fTopic)) B2 (Nat.le_of_ble_eq_true rfl) rfl ?_
  refine w_bin (v := .sc (.bool (a.fTopic.toList == b.fTopic.toList))) (fun k => rfl) ?_
  refine w_split ((a.fTopic.toList == b.fTopic.toList)) (fun h3 => ?_) (fun h3 => ?_)
  · refine w_gT h3 ?_
    refine w_fadr ?_
    refine w_gT h3 ?_
    refine w_ld (c := bytesC a.fBody) B1 (Nat.le_of_ble_eq_true rfl) rfl ?_
    refine w_gT h3 ?_
    refine w_fadr ?_
    refine w_gT h3 ?_
    refine w_ld (c := bytesC b.fBody) B2 (Nat.le_of_ble_eq_true rfl) rfl ?_
    refine w_gT h3 ?_
    refine lw_sc rfl (vcons (Vw_ro _ _ _) (vcons (Vw_ro _ _ _) vnil)) (l1SameF (n + 0) _ a.fBody b.fBody) ?_
    refine w_pT h3 ?_
    refine w_split ((a.fBody.toList == b.fBody.toList)) (fun h4 => ?_) (fun h4 => ?_)
    · refine w_gT h4 ?_
      refine w_fadr ?_
      refine w_gT h4 ?_
      refine w_ld (c := .sc (.int .i64 a.fQos)) B1 (Nat.le_of_ble_eq_true rfl) rfl ?_
      refine w_gT h4 ?_
      refine w_fadr ?_
      refine w_gT h4 ?_
      refine w_ld (c := .sc (.int .i64 b.fQos)) B2 (Nat.le_of_ble_eq_true rfl) rfl ?_
      refine w_gT h4 ?_
      refine w_bin (v := .sc (.bool (a.fQos == b.fQos))) (fun k => rfl) ?_
      refine w_pT h4 ?_
      refine w_split ((a.fQos == b.fQos)) (fun h5 => ?_) (fun h5 => ?_)
      · refine w_gT h5 ?_
        refine w_fadr ?_
        refine w_gT h5 ?_
        refine w_ld (c := .sc (.bool a.fRetain)) B1 (Nat.le_of_ble_eq_true rfl) rfl ?_
        refine w_gT h5 ?_
        refine w_fadr ?_
        refine w_gT h5 ?_
        refine w_ld (c := .sc (.bool b.fRetain)) B2 (Nat.le_of_ble_eq_true rfl) rfl ?_
        refine w_gT h5 ?_
        refine w_binB (v := .sc (.bool (a.fRetain == b.fRetain))) (fun k => rfl) ?_
        refine w_pT h5 ?_
        exact w_endB (by first | (simp_all [vIn, vSameMsg]; done) | (rw [Bool.eq_iff_iff]; simp [vIn, vSameMsg] at *; omega))
      · refine w_gF h5 ?_
        refine w_gF h5 ?_
        refine w_gF h5 ?_
        refine w_gF h5 ?_
        refine w_gF h5 ?_
        refine w_pF h5 ?_
        exact w_endB (by first | (simp_all [vIn, vSameMsg]; done) | (rw [Bool.eq_iff_iff]; simp [vIn, vSameMsg] at *; omega))
    · refine w_gF h4 ?_
      refine w_gF h4 ?_
      refine w_gF h4 ?_
      refine w_gF h4 ?_
      refine w_gF h4 ?_
      refine w_pF h4 ?_
      refine w_gF rfl ?_
      refine w_gF rfl ?_
      refine w_gF rfl ?_
      refine w_gF rfl ?_
      refine w_gF rfl ?_
      refine w_pF rfl ?_
      exact w_endB (by first | (simp_all [vIn, vSameMsg]; done) | (rw [Bool.eq_iff_iff]; simp [vIn, vSameMsg] at *; omega))
  · refine w_gF h3 ?_
    refine w_gF h3 ?_
    refine w_gF h3 ?_
    refine w_gF h3 ?_
    refine w_gF h3 ?_
    refine w_pF h3 ?_
    refine w_gF rfl ?_
    refine w_gF rfl ?_
    refine w_gF rfl ?_
    refine w_gF rfl ?_
    refine w_gF rfl ?_
    refine w_pF rfl ?_
    refine w_gF rfl ?_
    refine w_gF rfl ?_
    refine w_gF rfl ?_
    refine w_gF rfl ?_
    refine w_gF rfl ?_
    refine w_pF rfl ?_
    exact w_endB (by first | (simp_all [vIn, vSameMsg]; done) | (rw [Bool.eq_iff_iff]; simp [vIn, vSameMsg] at *; omega))
theorem implSameMsgF (n : Nat) (ty : Nat) (a : MsgV) (b : MsgV) : tree E0 (n + 2) ty 22 [.agg (encMsg a), .agg (encMsg b)] = some (.sc (.bool (vSameMsg a b))) := by
  rw [tree_def, f22_eq, f22]
  simp only [PR_box, PR_new, PR_fadr, PR_load, PR_store, PR_bin, PR_binB, PR_un, PR_cond, PR_guard, PR_pick, PR_len, PR_lenS, PR_iadr, PR_idx, PR_slice, PR_sliceS, PR_newSl, PR_fill, PR_make, PR_app, PR_cvI, PR_cvBS]
  refine w_box (flMsg _) fun iB1 eB1 B1 => ?_
  refine w_box (flMsg _) fun iB2 eB2 B2 => ?_
  replace B1 := blk_grow B1 [⟨encMsg b, true, true⟩]
  refine w_fadr ?_
  refine w_ld (c := .sc (.string a.fTopic)) B1 (Nat.le_of_ble_eq_true rfl) rfl ?_
  refine w_fadr ?_
  refine w_ld (c := .sc (.string b.fTopic)) B2 (Nat.le_of_ble_eq_true rfl) rfl ?_
  refine w_bin (v := .sc (.bool (a.fTopic.toList == b.fTopic.toList))) (fun k => rfl) ?_
  refine w_split ((a.fTopic.toList == b.fTopic.toList)) (fun h3 => ?_) (fun h3 => ?_)
  · refine w_gT h3 ?_
    refine w_fadr ?_
    refine w_gT h3 ?_
    refine w_ld (c := bytesC a.fBody) B1 (Nat.le_of_ble_eq_true rfl) rfl ?_
    refine w_gT h3 ?_
    refine w_fadr ?_
    refine w_gT h3 ?_
    refine w_ld (c := bytesC b.fBody) B2 (Nat.le_of_ble_eq_true rfl) rfl ?_
    refine w_gT h3 ?_
    refine lw_sc rfl (vcons (Vw_ro _ _ _) (vcons (Vw_ro _ _ _) vnil)) (bytesEqualF (n + 0) _ a.fBody b.fBody) ?_
    refine w_pT h3 ?_
    refine w_split ((a.fBody.toList == b.fBody.toList)) (fun h4 => ?_) (fun h4 => ?_)
    · refine w_gT h4 ?_
      refine w_fadr ?_
      refine w_gT h4 ?_
      refine w_ld (c := .sc (.int .i64 a.fQos)) B1 (Nat.le_of_ble_eq_true rfl) rfl ?_
      refine w_gT h4 ?_
      refine w_fadr ?_
      refine w_gT h4 ?_
      refine w_ld (c := .sc (.int .i64 b.fQos)) B2 (Nat.le_of_ble_eq_true rfl) rfl ?_
      refine w_gT h4 ?_
      refine w_bin (v := .sc (.bool (a.fQos == b.fQos))) (fun k => rfl) ?_
      refine w_pT h4 ?_
      refine w_split ((a.fQos == b.fQos)) (fun h5 => ?_) (fun h5 => ?_)
      · refine w_gT h5 ?_
        refine w_fadr ?_
        refine w_gT h5 ?_
        refine w_ld (c := .sc (.bool a.fRetain)) B1 (Nat.le_of_ble_eq_true rfl) rfl ?_
        refine w_gT h5 ?_
        refine w_fadr ?_
        refine w_gT h5 ?_
        refine w_ld (c := .sc (.bool b.fRetain)) B2 (Nat.le_of_ble_eq_true rfl) rfl ?_
        refine w_gT h5 ?_
        refine w_binB (v := .sc (.bool (a.fRetain == b.fRetain))) (fun k => rfl) ?_
        refine w_pT h5 ?_
        exact w_endB (by first | (simp_all [vIn, vSameMsg]; done) | (rw [Bool.eq_iff_iff]; simp [vIn, vSameMsg] at *; omega))
      · refine w_gF h5 ?_
        refine w_gF h5 ?_
        refine w_gF h5 ?_
        refine w_gF h5 ?_
        refine w_gF h5 ?_
        refine w_pF h5 ?_
        exact w_endB (by first | (simp_all [vIn, vSameMsg]; done) | (rw [Bool.eq_iff_iff]; simp [vIn, vSameMsg] at *; omega))
    · refine w_gF h4 ?_
      refine w_gF h4 ?_
      refine w_gF h4 ?_
      refine w_gF h4 ?_
      refine w_gF h4 ?_
      refine w_pF h4 ?_
      refine w_gF rfl ?_
      refine w_gF rfl ?_
      refine w_gF rfl ?_
      refine w_gF rfl ?_
      refine w_gF rfl ?_
      refine w_pF rfl ?_
      exact w_endB (by first | (simp_all [vIn, vSameMsg]; done) | (rw [Bool.eq_iff_iff]; simp [vIn, vSameMsg] at *; omega))
  · refine w_gF h3 ?_
    refine w_gF h3 ?_
    refine w_gF h3 ?_
    refine w_gF h3 ?_
    refine w_gF h3 ?_
    refine w_pF h3 ?_
    refine w_gF rfl ?_
    refine w_gF rfl ?_
    refine w_gF rfl ?_
    refine w_gF rfl ?_
    refine w_gF rfl ?_
    refine w_pF rfl ?_
    refine w_gF rfl ?_
    refine w_gF rfl ?_
    refine w_gF rfl ?_
    refine w_gF rfl ?_
    refine w_gF rfl ?_
    refine w_pF rfl ?_
    exact w_endB (by first | (simp_all [vIn, vSameMsg]; done) | (rw [Bool.eq_iff_iff]; simp [vIn, vSameMsg] at *; omega))
def vSameMsgs (a b : List MsgV) : Bool := if a.length = b.length then all2 vSameMsg a b else false
def vEnds (l q : List MsgV) : Bool := if q.length ≤ l.length then all2 vSameMsg (l.drop (l.length - q.length)) q else false
theorem specEndsF (n : Nat) (hn : 1048576 < n) (ty : Nat) (l q : List MsgV) (hl : l.length ≤ 1048576) (hq : q.length ≤ 1048576) : tree E0 (n + 4) ty 31 [rowsC encMsg l, rowsC encMsg q] = some (.sc (.bool (vEnds l q))) := by
  rw [tree_def, f31_eq, f31]
  simp only [PR_len, PR_bin, PR_cond]
  rw [len_ro, len_ro, gtr64, cond_b, vEnds]
  by_cases h : q.length ≤ l.length
  · rw [if_neg (by simp; omega), if_pos h]
    have key := ends_loop (n := n + 3) (tb := 4) (g := 20) encMsg vSameMsg (fun x H => ownTree ti0 E0.tp ty H x) lenMsg (by decide) flMsg rfl (fun m a b i H => f31_l0 (PR (n + 3) AV) (n + 3) (fun x H => ownTree ti0 E0.tp ty H x) m a b i H) (fun m a b i H => rfl) l q (fun x y _ _ => specSameMsgF (n + 1) _ x y) h (by omega) [] q (l.drop (l.length - q.length)) [] (l.take (l.length - q.length)) (n + 3) (by rw [List.take_append_drop]) rfl (by simp) (by omega)
    simp only [List.length_nil, Int.natCast_zero] at key
    rw [key]
    rfl
  · rw [if_pos (by simp; omega), if_neg h]
    rfl
theorem equalFuncF (n : Nat) (hn : 1048576 < n) (ty : Nat) (l q : List MsgV) (hl : l.length ≤ 1048576) (hq : q.length ≤ 1048576) : tree E0 (n + 4) ty 70 [rowsC encMsg l, rowsC encMsg q, .fn 22 [] []] = some (.sc (.bool (vSameMsgs l q))) := by
  rw [tree_def, f70_eq, f70]
  simp only [PR_len, PR_bin, PR_cond]
  rw [len_ro, len_ro, neq_nat, cond_b, vSameMsgs]
  by_cases h : l.length = q.length
  · rw [if_neg (by simpa using h), if_pos h]
    have key := eqfunc_loop (n := n + 3) (tb := 4) (g := 22) encMsg vSameMsg (fun x H => ownTree ti0 E0.tp ty H x) (fun _ _ _ => rfl) zzMsg rfl lenMsg (by decide) flMsg rfl (fun m b f a c i H => f70_l0 (PR (n + 3) AV) (n + 3) (fun x H => ownTree ti0 E0.tp ty H x) m b f a c i H) (fun m b f a c i H => rfl) l q (fun x y _ _ => implSameMsgF (n + 1) _ x y) h hl l q [] [] (n + 3) [] rfl rfl rfl (by omega)
    simp only [List.length_nil, Int.natCast_zero] at key
    rw [len_ro, key]
    rfl
  · rw [if_pos (by simpa using h), if_neg h]
    rfl
theorem implSameMsgsF (n : Nat) (hn : 1048576 < n) (ty : Nat) (l q : List MsgV) (hl : l.length ≤ 1048576) (hq : q.length ≤ 1048576) : tree E0 (n + 5) ty 58 [rowsC encMsg l, rowsC encMsg q] = some (.sc (.bool (vSameMsgs l q))) := by
  rw [tree_def, f58_eq, f58]
  refine lw_sc rfl (vcons (Vw_ro _ _ _) (vcons (Vw_ro _ _ _) (vcons (fun _ => rfl) vnil))) (equalFuncF n hn _ l q hl hq) ?_
  rfl
theorem implEndsF (n : Nat) (hn : 1048576 < n) (ty : Nat) (l q : List MsgV) (hl : l.length ≤ 1048576) (hq : q.length ≤ 1048576) : tree E0 (n + 6) ty 33 [rowsC encMsg l, rowsC encMsg q] = some (.sc (.bool (vEnds l q))) := by
  rw [tree_def, f33_eq, f33]
  simp only [PR_len, PR_bin, PR_cond, PR_guard, PR_slice, PR_pick]
  rw [len_ro, len_ro, leq64, vEnds]
  by_cases h : q.length ≤ l.length
  · have e : decide ((q.length : Int) ≤ (l.length : Int)) = true := by simpa using h
    have hi : ((l.length : Int) - (q.length : Int)) = ((l.length - q.length : Nat) : Int) := by omega
    rw [if_pos h]
    refine w_gT e ?_
    refine w_gT e ?_
    refine w_gT e ?_
    refine w_len ?_
    refine w_gT e ?_
    refine w_gT e ?_
    refine w_len ?_
    refine w_gT e ?_
    refine w_bin (v := .sc (.int .i64 ((l.length - q.length : Nat) : Int))) (fun k => by rw [sub64 _ _ _ (by omega) (by omega), hi]) ?_
    refine w_gT e ?_
    refine (slice_rows lenMsg _ _ (by omega) _).trans ?_
    refine w_gT e ?_
    refine w_gT e ?_
    refine lw_sc rfl (vcons (Vw_ro _ _ _) (vcons (Vw_ro _ _ _) vnil)) (implSameMsgsF n hn _ (l.drop (l.length - q.length)) q (by rw [List.length_drop]; omega) hq) ?_
    refine w_pT e ?_
    exact w_endB (by rw [vSameMsgs, if_pos (by rw [List.length_drop]; omega)])
  · have e : decide ((q.length : Int) ≤ (l.length : Int)) = false := by simpa using h
    rw [if_neg h]
    refine w_gF e ?_
    refine w_gF e ?_
    refine w_gF e ?_
    refine w_gF e ?_
    refine w_gF e ?_
    refine w_gF e ?_
    refine w_gF e ?_
    refine w_gF e ?_
    refine w_gF e ?_
    refine w_pF e ?_
    exact w_endB rfl
theorem specF_Ends (n : Nat) (hn : 1048576 < n) (l q : List MsgV) (k0 : (l.length ≤ 9223372036854775807 ∧ ∀ z ∈ l, okMsg z)) (k1 : (q.length ≤ 9223372036854775807 ∧ ∀ z ∈ q, okMsg z)) (b0 : wtL wtMsg l ≤ 1048576) (b1 : wtL wtMsg q ≤ 1048576) : tree E0 (n + 4) 4 31 [rowsC encMsg l, rowsC encMsg q] = some (.sc (.bool (vEnds l q))) := by
  have e1 := wtL_eq wtMsg l
  have e2 := wtL_eq wtMsg q
  exact specEndsF n hn _ l q (by omega) (by omega)
theorem implF_Ends (n : Nat) (hn : 1048576 < n) (l q : List MsgV) (k0 : (l.length ≤ 9223372036854775807 ∧ ∀ z ∈ l, okMsg z)) (k1 : (q.length ≤ 9223372036854775807 ∧ ∀ z ∈ q, okMsg z)) (b0 : wtL wtMsg l ≤ 1048576) (b1 : wtL wtMsg q ≤ 1048576) : tree E0 (n + 6) 4 33 [rowsC encMsg l, rowsC encMsg q] = some (.sc (.bool (vEnds l q))) := by
  have e1 := wtL_eq wtMsg l
  have e2 := wtL_eq wtMsg q
  exact implEndsF n hn _ l q (by omega) (by omega)

end Go.Proofs.Ytgidofkechabbaa.Abs
