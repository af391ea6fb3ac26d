/- Messages that are the same (numbers of the first seat). -/
import Derived.Test.YtgidofkechabbaaMsg
set_option linter.unusedVariables false
set_option linter.unusedSimpArgs false
namespace Go.Proofs.Ytgidofkechabbaa.Abs
open Go

variable {β : Type}

def sameMsg (a b : MsgV) : Bool := a.topic.toList == b.topic.toList && a.body.toList == b.body.toList && a.qos == b.qos && a.retain == b.retain

theorem box_enc {β : Type} (m : MsgV) (H : Heap) (k : AV → Heap → Option β) : pBox (.agg (encMsg m)) H k = k (.ptr H.length 0) (H ++ [⟨encMsg m, true, true⟩]) := rfl
theorem fadr_ptr {β : Type} (off id o : Nat) (k : AV → Option β) : pFadr off (.ptr id o) k = k (.ptr id (o + off)) := rfl
theorem ld1 {β : Type} (id off : Nat) (cs : List AV) (H : Heap) (k : AV → Option β) (x : AV) (h : H[id]? = some ⟨cs, true, true⟩) (hx : cs[off]? = some x) : pLoad false 1 (.ptr id off) H k = k x := by
  have hlt := (List.getElem?_eq_some_iff.1 hx).1
  have e : (cs.drop off).take 1 = [x] := by
    rw [List.drop_eq_getElem_cons hlt, (List.getElem?_eq_some_iff.1 hx).2]
    rfl
  simp only [pLoad, rdCells, h, if_true, show off + 1 ≤ cs.length from hlt, e, Option.bind_some, Bool.false_eq_true, if_false, one]
theorem gT {β : Type} (H : Heap) (m : (AV → Heap → Option β) → Option β) (k : AV → Heap → Option β) : pGuard (.sc (.bool true)) true H m k = m k := rfl
theorem gF {β : Type} (H : Heap) (m : (AV → Heap → Option β) → Option β) (k : AV → Heap → Option β) : pGuard (.sc (.bool false)) true H m k = k (.sc undef) H := rfl
theorem pick_sc {β : Type} (t : Bool) (x y : Value) (k : AV → Option β) : pPick (.sc (.bool t)) (.sc x) (.sc y) k = k (.sc (if t then x else y)) := rfl

/-- spec.SameMsg -/
theorem spec_SameMsg (n : Nat) (a b : MsgV) : tree E0 (n + 2) 4 20 [.agg (encMsg a), .agg (encMsg b)] = some (.sc (.bool (sameMsg a b))) := by
  rw [tree_def, f20_eq, f20]
  have hc := fun (H : Heap) (k : AV → Heap → Option AV) => PR_call (n := n + 1) (k := k) (H := H) (ty := 4) (f := 50) (args := [.ro a.body.size (bytesAV a.body), .ro b.body.size (bytesAV b.body)]) (vs := [.ro a.body.size (bytesAV a.body), .ro b.body.size (bytesAV b.body)]) (by rfl) (by simp [viewV_ro]) (same_bytes n 4 a.body b.body)
  simp only [PR_box, PR_fadr, PR_load, PR_bin, PR_binB, PR_guard, PR_pick, box_enc, List.length_nil, List.nil_append, List.length_cons, List.cons_append, Nat.zero_add]
  simp only [fadr_ptr, Nat.zero_add]
  rw [ld1 0 0 _ _ _ (.sc (.string a.topic)) rfl rfl, ld1 1 0 _ _ _ (.sc (.string b.topic)) rfl rfl]
  simp only [pBin, binS, Option.bind_some]
  unfold sameMsg
  cases h1 : (a.topic.toList == b.topic.toList) with
  | false => simp only [gF, pick_sc, asB, Bool.false_eq_true, if_false, Option.bind_some, Bool.false_and, own_scalar]
  | true =>
    simp only [gT]
    rw [ld1 0 1 _ _ _ (.ro a.body.size (bytesAV a.body)) rfl rfl, ld1 1 1 _ _ _ (.ro b.body.size (bytesAV b.body)) rfl rfl, hc]
    simp only [instT_sc, List.append_nil, pick_sc, asB, Option.bind_some, if_true]
    cases h2 : (a.body.toList == b.body.toList) with
    | false => simp only [gF, pick_sc, asB, Bool.false_eq_true, if_false, Option.bind_some, Bool.false_and, Bool.and_false, own_scalar]
    | true =>
      simp only [gT]
      rw [ld1 0 2 _ _ _ (.sc (.int .i64 a.qos)) rfl rfl, ld1 1 2 _ _ _ (.sc (.int .i64 b.qos)) rfl rfl]
      simp only [pBin, isSh, binI, Bool.false_eq_true, if_false, if_true, Option.bind_some, pick_sc, asB]
      cases h3 : (a.qos == b.qos) with
      | false => simp only [gF, pick_sc, asB, Bool.false_eq_true, if_false, Option.bind_some, Bool.false_and, Bool.and_false, own_scalar]
      | true =>
        simp only [gT]
        rw [ld1 0 3 _ _ _ (.sc (.bool a.retain)) rfl rfl, ld1 1 3 _ _ _ (.sc (.bool b.retain)) rfl rfl]
        simp only [pBinB, binB, asB, Option.bind_some, pick_sc, if_true, Bool.true_and, own_scalar]

/-- impl.SameMsg -/
theorem impl_SameMsg (n : Nat) (a b : MsgV) : tree E0 (n + 2) 4 22 [.agg (encMsg a), .agg (encMsg b)] = some (.sc (.bool (sameMsg a b))) := by
  rw [tree_def, f22_eq, f22]
  have hc := fun (H : Heap) (k : AV → Heap → Option AV) => PR_call (n := n + 1) (k := k) (H := H) (ty := 4) (f := 52) (args := [.ro a.body.size (bytesAV a.body), .ro b.body.size (bytesAV b.body)]) (vs := [.ro a.body.size (bytesAV a.body), .ro b.body.size (bytesAV b.body)]) (by rfl) (by simp [viewV_ro]) (same_bytes2 n 4 a.body b.body)
  simp only [PR_box, PR_fadr, PR_load, PR_bin, PR_binB, PR_guard, PR_pick, box_enc, List.length_nil, List.nil_append, List.length_cons, List.cons_append, Nat.zero_add]
  simp only [fadr_ptr, Nat.zero_add]
  rw [ld1 0 0 _ _ _ (.sc (.string a.topic)) rfl rfl, ld1 1 0 _ _ _ (.sc (.string b.topic)) rfl rfl]
  simp only [pBin, binS, Option.bind_some]
  unfold sameMsg
  cases h1 : (a.topic.toList == b.topic.toList) with
  | false => simp only [gF, pick_sc, asB, Bool.false_eq_true, if_false, Option.bind_some, Bool.false_and, own_scalar]
  | true =>
    simp only [gT]
    rw [ld1 0 1 _ _ _ (.ro a.body.size (bytesAV a.body)) rfl rfl, ld1 1 1 _ _ _ (.ro b.body.size (bytesAV b.body)) rfl rfl, hc]
    simp only [instT_sc, List.append_nil, pick_sc, asB, Option.bind_some, if_true]
    cases h2 : (a.body.toList == b.body.toList) with
    | false => simp only [gF, pick_sc, asB, Bool.false_eq_true, if_false, Option.bind_some, Bool.false_and, Bool.and_false, own_scalar]
    | true =>
      simp only [gT]
      rw [ld1 0 2 _ _ _ (.sc (.int .i64 a.qos)) rfl rfl, ld1 1 2 _ _ _ (.sc (.int .i64 b.qos)) rfl rfl]
      simp only [pBin, isSh, binI, Bool.false_eq_true, if_false, if_true, Option.bind_some, pick_sc, asB]
      cases h3 : (a.qos == b.qos) with
      | false => simp only [gF, pick_sc, asB, Bool.false_eq_true, if_false, Option.bind_some, Bool.false_and, Bool.and_false, own_scalar]
      | true =>
        simp only [gT]
        rw [ld1 0 3 _ _ _ (.sc (.bool a.retain)) rfl rfl, ld1 1 3 _ _ _ (.sc (.bool b.retain)) rfl rfl]
        simp only [pBinB, binB, asB, Option.bind_some, pick_sc, if_true, Bool.true_and, own_scalar]

/-- laws.eqMsg of the same message -/
theorem eq_msg (n : Nat) (a : MsgV) (hs : a.body.size ≤ 1048576) (hn : a.body.size < n) : tree E0 (n + 2) 4 23 [.agg (encMsg a), .agg (encMsg a)] = some (.sc (.bool true)) := by
  rw [tree_def, f23_eq, f23]
  have hc := fun (H : Heap) (k : AV → Heap → Option AV) => PR_call (n := n + 1) (k := k) (H := H) (ty := 4) (f := 53) (args := [.ro a.body.size (bytesAV a.body), .ro a.body.size (bytesAV a.body)]) (vs := [.ro a.body.size (bytesAV a.body), .ro a.body.size (bytesAV a.body)]) (by rfl) (by simp [viewV_ro]) (eq_byteS n 4 a.body hs hn)
  simp [encMsg, pBox, cellsA, isLeaf, leafV, pNew, pFadr, pLoad, rdCells, one, pBin, binS, isSh, binI, pCond, pUn, asB, pBinB, binB, hc, instT_sc]

theorem leaf_enc (m : MsgV) : cellsA (.agg (encMsg m)) = some (encMsg m) := rfl
theorem leaf_lain (N : Nat) (m : MsgV) : cellsA (.agg (lainMsg N m)) = some (lainMsg N m) := rfl

/-- laws.FnExactSameMsg -/
theorem law_SameMsg (a b : MsgV) (ha : a.body.size ≤ maxLen) (ha2 : a.topic.size ≤ maxLen) (hb : b.body.size ≤ maxLen) (hb2 : b.topic.size ≤ maxLen) : ∃ n, tree E0 n 4 6 [.agg (encMsg a), .agg (encMsg b)] = some (.sc (.bool true)) := by
  refine ⟨1048577 + 2 + 1, ?_⟩
  rw [tree_def, f6_eq, f6]
  obtain ⟨l1, s1, c1⟩ := sz_msg 1048577 3 a ha ha2 1048576 (by omega) (by omega)
  have hc1 := fun (H : Heap) (k : AV → Heap → Option AV) => PR_call (n := 1048577 + 2) (k := k) (H := H) (ty := 3) (f := 19) (args := [.agg (encMsg a), .sc (.int .i64 1048576)]) (vs := [.agg (encMsg a), .sc (.int .i64 1048576)]) (by rfl) (by simp [view_encMsg, viewV_sc]) s1
  have box : ∀ (m : MsgV) (H : Heap) (k : AV → Heap → Option AV), pBox (.agg (encMsg m)) H k = k (.ptr H.length 0) (H ++ [⟨encMsg m, true, true⟩]) := fun _ _ _ => rfl
  have ld : ∀ (id : Nat) (cs : List AV) (ap : Bool) (H : Heap) (k : AV → Option AV), H[id]? = some ⟨cs, true, ap⟩ → cs.length = 4 → pLoad true 4 (.ptr id 0) H k = k (.agg cs) := by
    intro id cs ap H k h hl
    have e : (cs.drop 0).take 4 = cs := by rw [List.drop_zero, ← hl, List.take_length]
    simp only [pLoad, rdCells, h, if_true, e, Nat.zero_add, show 4 ≤ cs.length from Nat.le_of_eq hl.symm, Option.bind_some]
  have l4 : ∀ m : MsgV, (encMsg m).length = 4 := fun _ => rfl
  have l4' : ∀ (N : Nat) (m : MsgV), (lainMsg N m).length = 4 := fun _ _ => rfl
  simp only [PR_box, box, PR_load, List.length_nil, List.nil_append, List.length_cons, List.cons_append, Nat.zero_add]
  rw [ld 0 (encMsg a) true _ _ rfl (l4 a), hc1]
  simp only [instT_sc, List.append_nil, PR_bin, pBin, isSh, binI, Bool.false_eq_true, if_false, if_true, Option.bind_some, PR_cond, pCond, asB]
  rcases c1 with c1 | ⟨c1, c2, c3, c4⟩
  · simp [c1]
  · have hn1 : decide (l1 < 0) = false := by simp; omega
    rw [hn1]
    simp only [Bool.false_eq_true, if_false]
    obtain ⟨l2, s2, c5⟩ := sz_msg 1048577 3 b hb hb2 l1 c1 (by omega)
    have hc2 := fun (H : Heap) (k : AV → Heap → Option AV) => PR_call (n := 1048577 + 2) (k := k) (H := H) (ty := 3) (f := 19) (args := [.agg (encMsg b), .sc (.int .i64 l1)]) (vs := [.agg (encMsg b), .sc (.int .i64 l1)]) (by rfl) (by simp [view_encMsg, viewV_sc]) s2
    rw [ld 1 (encMsg b) true _ _ rfl (l4 b), hc2]
    simp only [instT_sc, List.append_nil, Option.bind_some]
    rcases c5 with c5 | ⟨c5, c6, c7, c8⟩
    · simp [c5]
    · have hn2 : decide (l2 < 0) = false := by simp; omega
      rw [hn2]
      simp only [Bool.false_eq_true, if_false]
      have to : ∀ (m : MsgV) (H : Heap) (k : AV → Heap → Option AV), (m.body.size : Int) ≤ 1048576 → (PR (1048577 + 2) AV).call 34 (.fn 21 [] []) [.agg (encMsg m)] H k = k (.agg (lainMsg H.length m)) (H ++ [⟨bytesAV m.body, true, true⟩]) := by
        intro m H k hm
        have := PR_call (n := 1048577 + 2) (k := k) (H := H) (ty := 34) (f := 21) (args := [.agg (encMsg m)]) (vs := [.agg (encMsg m)]) (by rfl) (by simp [view_encMsg]) (to_msg 1048577 m (by omega) (by omega))
        rw [this, inst_msg]
      have sp : ∀ (i j : Nat) (H : Heap) (k : AV → Heap → Option AV), H[i]? = some ⟨bytesAV a.body, true, true⟩ → H[j]? = some ⟨bytesAV b.body, true, true⟩ → (PR (1048577 + 2) AV).call 4 (.fn 20 [] []) [.agg (lainMsg i a), .agg (lainMsg j b)] H k = k (.sc (.bool (sameMsg a b))) H := by
        intro i j H k h1 h2
        have := PR_call (n := 1048577 + 2) (k := k) (H := H) (ty := 4) (f := 20) (args := [.agg (lainMsg i a), .agg (lainMsg j b)]) (vs := [.agg (encMsg a), .agg (encMsg b)]) (by rfl) (by simp [view_msg h1, view_msg h2]) (spec_SameMsg 1048577 a b)
        rw [this, instT_sc, List.append_nil]
      have im : ∀ (i j : Nat) (H : Heap) (k : AV → Heap → Option AV), H[i]? = some ⟨bytesAV a.body, true, true⟩ → H[j]? = some ⟨bytesAV b.body, true, true⟩ → (PR (1048577 + 2) AV).call 4 (.fn 22 [] []) [.agg (lainMsg i a), .agg (lainMsg j b)] H k = k (.sc (.bool (sameMsg a b))) H := by
        intro i j H k h1 h2
        have := PR_call (n := 1048577 + 2) (k := k) (H := H) (ty := 4) (f := 22) (args := [.agg (lainMsg i a), .agg (lainMsg j b)]) (vs := [.agg (encMsg a), .agg (encMsg b)]) (by rfl) (by simp [view_msg h1, view_msg h2]) (impl_SameMsg 1048577 a b)
        rw [this, instT_sc, List.append_nil]
      have eq : ∀ (m : MsgV) (i j : Nat) (H : Heap) (k : AV → Heap → Option AV), (m.body.size : Int) ≤ 1048576 → H[i]? = some ⟨bytesAV m.body, true, true⟩ → H[j]? = some ⟨bytesAV m.body, true, true⟩ → (PR (1048577 + 2) AV).call 4 (.fn 23 [] []) [.agg (lainMsg i m), .agg (lainMsg j m)] H k = k (.sc (.bool true)) H := by
        intro m i j H k hm h1 h2
        have := PR_call (n := 1048577 + 2) (k := k) (H := H) (ty := 4) (f := 23) (args := [.agg (lainMsg i m), .agg (lainMsg j m)]) (vs := [.agg (encMsg m), .agg (encMsg m)]) (by rfl) (by simp [view_msg h1, view_msg h2]) (eq_msg 1048577 m (by omega) (by omega))
        rw [this, instT_sc, List.append_nil]
      have st : ∀ (id N : Nat) (m : MsgV) (cs : List AV) (H : Heap) (k : Heap → Option AV), H[id]? = some ⟨cs, true, true⟩ → cs.length = 4 → pStore 4 (.ptr id 0) (.agg (lainMsg N m)) H k = k (H.set id ⟨lainMsg N m, true, true⟩) := by
        intro id N m cs H k h hl
        have e : splice cs 0 (lainMsg N m) = lainMsg N m := by
          unfold splice
          rw [l4', List.take_zero, List.nil_append, List.drop_of_length_le (by omega), List.append_nil]
        simp only [pStore, h, leaf_lain, Option.bind_some, if_true, l4', Nat.zero_add, show 4 ≤ cs.length from Nat.le_of_eq hl.symm, e]
      rw [ld 0 (encMsg a) true _ _ rfl (l4 a), ld 1 (encMsg b) true _ _ rfl (l4 b), to a _ _ (by omega), to b _ _ (by omega)]
      simp only [List.length_cons, List.length_nil, Nat.zero_add, List.cons_append, List.nil_append, Nat.reduceAdd]
      rw [sp 2 3 _ _ rfl rfl, ld 0 (encMsg a) true _ _ rfl (l4 a), to a _ _ (by omega)]
      simp only [List.length_cons, List.length_nil, Nat.zero_add, List.cons_append, List.nil_append, Nat.reduceAdd, PR_new, pNew, PR_store]
      rw [st 5 4 a _ _ _ rfl rfl]
      simp only [List.set_cons_succ, List.set_cons_zero]
      rw [ld 1 (encMsg b) true _ _ rfl (l4 b), to b _ _ (by omega)]
      simp only [List.length_cons, List.length_nil, Nat.zero_add, List.cons_append, List.nil_append, Nat.reduceAdd]
      rw [st 7 6 b _ _ _ rfl rfl]
      simp only [List.set_cons_succ, List.set_cons_zero]
      rw [ld 5 (lainMsg 4 a) true _ _ rfl (l4' _ _), ld 7 (lainMsg 6 b) true _ _ rfl (l4' _ _), im 4 6 _ _ rfl rfl]
      simp only [PR_binB, pBinB, asB, binB, Option.bind_some, beq_self_eq_true, Bool.not_true, Bool.false_eq_true, if_false]
      rw [ld 5 (lainMsg 4 a) true _ _ rfl (l4' _ _), ld 0 (encMsg a) true _ _ rfl (l4 a), to a _ _ (by omega)]
      simp only [List.length_cons, List.length_nil, Nat.zero_add, List.cons_append, List.nil_append, Nat.reduceAdd]
      rw [eq a 4 8 _ _ (by omega) rfl rfl]
      simp only [PR_un, pUn, Bool.not_true, Option.bind_some, Bool.false_eq_true, if_false]
      rw [ld 7 (lainMsg 6 b) true _ _ rfl (l4' _ _), ld 1 (encMsg b) true _ _ rfl (l4 b), to b _ _ (by omega)]
      simp only [List.length_cons, List.length_nil, Nat.zero_add, List.cons_append, List.nil_append, Nat.reduceAdd]
      rw [eq b 6 9 _ _ (by omega) rfl rfl]
      simp

end Go.Proofs.Ytgidofkechabbaa.Abs
